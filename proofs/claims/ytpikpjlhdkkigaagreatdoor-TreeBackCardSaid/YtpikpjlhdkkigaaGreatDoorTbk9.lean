/-
  Lemmas (G9 GA GB).
-/
import Derived.Test.YtpikpjlhdkkigaaGreatDoorTbk8
set_option linter.unusedVariables false
set_option linter.unusedSimpArgs false
namespace Go.Proofs.YtpikpjlhdkkigaaGreatDoor
open Go.AX Go.RowKit Go.Tree Go.Scan
set_option maxRecDepth 20000
def xywL : NL := [[120], [121], [119]]
def rstL : NL := [[], [114], [95]]
theorem xywL_v : ∀ x ∈ xywL, x ∈ nmL ∧ x ≠ [95] := by decide +kernel
theorem rstL_v : ∀ x ∈ rstL, x = [] ∨ x ∈ nmL := by decide +kernel
abbrev GPatC (D : Nat) : Prop := NodeKC 54 (.pat true) isAny D 1 (D + 3)
theorem pat_op {t : TP} (h : V (.pat true) t) : t.op ≠ 52 := by cases h <;> (intro e; dsimp only at e; omega)
def isRow (t : TP) : Prop := (t.op ≠ 52 → V (.pat true) t) ∧ (t.op = 52 → V .pre t)
set_option maxHeartbeats 4000000 in
theorem gpat_0 : GPatC 0 := by
 intro g ok k kok p z hp A hA
 refine ownT hm Tryz.func54 (by kernel_rfl) rfl rfl (fun _ _ => okHB_eq rfl) (fun _ _ => Nat.le_of_ble_eq_true rfl) ?_
 have hlen := ok.len
 refine wXR ?_
 refine callG (pick_c g ok p z 8 ⟨by decide, by decide⟩ hp A (fun w hw => (hA w hw).1)) [0, 1] rfl ⟨rfl, rfl, trivial⟩ rfl fun i hi => ?_
 obtain ⟨x, q⟩ := i
 obtain ⟨h1, h2, h3, h4⟩ := hi
 have h1 : x < 8 := h1
 have h2 : p ≤ q := h2
 have h3 : q ≤ g.l.length := h3
 have h4 : x ≠ 0 → p < q := h4
 rcases (by omega : x = 0 ∨ x = 1 ∨ x = 2 ∨ x = 3 ∨ x = 4 ∨ x = 5 ∨ x = 6 ∨ x = 7) with rfl | rfl | rfl | rfl | rfl | rfl | rfl | rfl
 ·-- any
  refine wXR ?_
  refine call1 (node_c _ _ _ _ _ _) ?_
  refine wXR ?_
  refine ⟨_, sealG _ _ _ _ _, ⟨⟨50, [], 0, none, [], 0⟩, k, q, z, _⟩, ⟨.pany, trivial, (Gn.leaf (d := 0) rfl (Nat.zero_le _)).le (by omega) (by omega), kok, ⟨h2, h3⟩, fun w hw => ⟨hw.1, f0 (Gn.leaf (k := []) (d := 0) rfl (Nat.zero_le _)).tk rfl, (hA w hw.1).2⟩⟩, rfl, ⟨wkE_refl _, wkE_refl _, wkH_nil _⟩⟩
 ·-- a name
  refine wXR ?_
  refine RwN.known (strsC xywL) rfl fun rb => ?_
  refine wXR ?_
  refine SpecH.shut 3 rfl ?_
  refine callG (text_c g ok q z h3 A _ (fun w hw => (hA w hw).1) (some ⟨rb, 0, none⟩) xywL _ ⟨by decide, by decide⟩ rfl (fun w hw => hw)) [0, 1, 3] rfl ⟨rfl, rfl, rfl, trivial⟩ rfl fun i hi2 => ?_
  obtain ⟨x, q3⟩ := i
  obtain ⟨hx, hq2, hq3⟩ := hi2
  have hx : x ∈ xywL := hx
  have hq2 : q ≤ q3 := hq2
  have hq3 : q3 ≤ g.l.length := hq3
  have hxv := xywL_v x hx
  refine wXR ?_
  refine call1 (node_c _ _ _ _ _ _) ?_
  refine wXR ?_
  refine callG (declared_c g k kok x hxv.1 q3 z A (fun w hw => (hA w hw).2)) [0, 1] rfl ⟨rfl, rfl, trivial⟩ rfl fun j hj => ?_
  obtain ⟨k2, F2⟩ := j
  obtain ⟨hk2, hka, hF2⟩ := hj
  have hka : k2.l = kadd k.l x := hka
  refine wX ?_
  have hg : Gn k.l ⟨49, x, 0, none, [], 0⟩ k2.l 1 1 := by rw [hka]; exact Gn.set (d := 0) (.inr (.inl rfl)) hxv.1 (.nil _ _) (by decide) (Gs.nil _ _)
  refine ⟨_, sealG _ _ _ _ _, ⟨⟨49, x, 0, none, [], 0⟩, k2, q3, z, _⟩, ⟨.pbind (nmL_lo x hxv.1) hxv.2, trivial, hg.le (by omega) (by omega), hk2, ⟨by show p ≤ q3; omega, hq3⟩, fun w hw => ⟨(hF2 w hw.1).1, f0 hg.tk rfl, (hF2 w hw.1).2⟩⟩, rfl, ⟨wkE_refl _, wkE_refl _, wkH_nil _⟩⟩
 ·-- a name
  refine wXR ?_
  refine RwN.known (strsC xywL) rfl fun rb => ?_
  refine wXR ?_
  refine SpecH.shut 3 rfl ?_
  refine callG (text_c g ok q z h3 A _ (fun w hw => (hA w hw).1) (some ⟨rb, 0, none⟩) xywL _ ⟨by decide, by decide⟩ rfl (fun w hw => hw)) [0, 1, 3] rfl ⟨rfl, rfl, rfl, trivial⟩ rfl fun i hi2 => ?_
  obtain ⟨x, q3⟩ := i
  obtain ⟨hx, hq2, hq3⟩ := hi2
  have hx : x ∈ xywL := hx
  have hq2 : q ≤ q3 := hq2
  have hq3 : q3 ≤ g.l.length := hq3
  have hxv := xywL_v x hx
  refine wXR ?_
  refine call1 (node_c _ _ _ _ _ _) ?_
  refine wXR ?_
  refine callG (declared_c g k kok x hxv.1 q3 z A (fun w hw => (hA w hw).2)) [0, 1] rfl ⟨rfl, rfl, trivial⟩ rfl fun j hj => ?_
  obtain ⟨k2, F2⟩ := j
  obtain ⟨hk2, hka, hF2⟩ := hj
  have hka : k2.l = kadd k.l x := hka
  refine wX ?_
  have hg : Gn k.l ⟨49, x, 0, none, [], 0⟩ k2.l 1 1 := by rw [hka]; exact Gn.set (d := 0) (.inr (.inl rfl)) hxv.1 (.nil _ _) (by decide) (Gs.nil _ _)
  refine ⟨_, sealG _ _ _ _ _, ⟨⟨49, x, 0, none, [], 0⟩, k2, q3, z, _⟩, ⟨.pbind (nmL_lo x hxv.1) hxv.2, trivial, hg.le (by omega) (by omega), hk2, ⟨by show p ≤ q3; omega, hq3⟩, fun w hw => ⟨(hF2 w hw.1).1, f0 hg.tk rfl, (hF2 w hw.1).2⟩⟩, rfl, ⟨wkE_refl _, wkE_refl _, wkH_nil _⟩⟩
 ·refine wXR ?_
  refine call1 (node_c _ _ _ _ _ _) ?_
  refine wXR ?_
  refine callG (pick_c g ok q z 4 ⟨by decide, by decide⟩ h3 A (fun w hw => (hA w hw).1)) [0, 1] rfl ⟨rfl, rfl, trivial⟩ rfl fun i hi => ?_
  obtain ⟨m, p1⟩ := i
  obtain ⟨_, g2, g3, _⟩ := hi
  have g2 : q ≤ p1 := g2
  have g3 : p1 ≤ g.l.length := g3
  refine wXR ?_
  refine LoopN.unroll 1 ?_
  refine wXR ?_
  have hg : Gn k.l ⟨51, [], 0, none, [], 0⟩ k.l 1 1 := Gn.leaf (d := 0) rfl (Nat.zero_le _)
  refine brd_dec (fun h6 => ?_) (fun h6 => ?_)
  ·refine wXR ?_
   refine ⟨_, sealG _ _ _ _ _, ⟨⟨51, [], 0, none, [], 0⟩, k, p1, z, _⟩, ⟨.parr (fun _ h => (by cases h)) (fun _ h => (by cases h)) (Nat.zero_le _), trivial, hg.le (by omega) (by omega), kok, ⟨by show p ≤ p1; omega, g3⟩, fun w hw => ⟨hw.1, f0 hg.tk rfl, (hA w hw.1).2⟩⟩, rfl, ⟨wkE_refl _, wkE_refl _, wkH_nil _⟩⟩
  ·refine wXR ?_
   refine ⟨_, sealG _ _ _ _ _, ⟨⟨51, [], 0, none, [], 0⟩, k, p1, z, _⟩, ⟨.parr (fun _ h => (by cases h)) (fun _ h => (by cases h)) (Nat.zero_le _), trivial, hg.le (by omega) (by omega), kok, ⟨by show p ≤ p1; omega, g3⟩, fun w hw => ⟨hw.1, f0 hg.tk rfl, (hA w hw.1).2⟩⟩, rfl, ⟨wkE_refl _, wkE_refl _, wkH_nil _⟩⟩
 ·refine wXR ?_
  refine call1 (node_c _ _ _ _ _ _) ?_
  refine wXR ?_
  refine callG (pick_c g ok q z 4 ⟨by decide, by decide⟩ h3 A (fun w hw => (hA w hw).1)) [0, 1] rfl ⟨rfl, rfl, trivial⟩ rfl fun i hi => ?_
  obtain ⟨m, p1⟩ := i
  obtain ⟨_, g2, g3, _⟩ := hi
  have g2 : q ≤ p1 := g2
  have g3 : p1 ≤ g.l.length := g3
  refine wXR ?_
  refine LoopN.unroll 1 ?_
  refine wXR ?_
  have hg : Gn k.l ⟨51, [], 0, none, [], 0⟩ k.l 1 1 := Gn.leaf (d := 0) rfl (Nat.zero_le _)
  refine brd_dec (fun h6 => ?_) (fun h6 => ?_)
  ·refine wXR ?_
   refine ⟨_, sealG _ _ _ _ _, ⟨⟨51, [], 0, none, [], 0⟩, k, p1, z, _⟩, ⟨.parr (fun _ h => (by cases h)) (fun _ h => (by cases h)) (Nat.zero_le _), trivial, hg.le (by omega) (by omega), kok, ⟨by show p ≤ p1; omega, g3⟩, fun w hw => ⟨hw.1, f0 hg.tk rfl, (hA w hw.1).2⟩⟩, rfl, ⟨wkE_refl _, wkE_refl _, wkH_nil _⟩⟩
  ·refine wXR ?_
   refine ⟨_, sealG _ _ _ _ _, ⟨⟨51, [], 0, none, [], 0⟩, k, p1, z, _⟩, ⟨.parr (fun _ h => (by cases h)) (fun _ h => (by cases h)) (Nat.zero_le _), trivial, hg.le (by omega) (by omega), kok, ⟨by show p ≤ p1; omega, g3⟩, fun w hw => ⟨hw.1, f0 hg.tk rfl, (hA w hw.1).2⟩⟩, rfl, ⟨wkE_refl _, wkE_refl _, wkH_nil _⟩⟩
 ·have h5 := h4 (by decide)
  refine wXR ?_
  refine callG (gleaf_c g ok k kok q z h3 A hA) [0, 1] rfl ⟨rfl, rfl, trivial⟩ rfl fun j hj => ?_
  obtain ⟨t, q3⟩ := j
  have hle : q ≤ q3 ∧ q3 ≤ g.l.length := hj.le
  refine wXR ?_
  refine callR (constant_g t hj.co.1 hj.no hj.co.2 _) fun v hv => ?_
  obtain ⟨b, rfl, hb⟩ := hv
  cases b with
  | true =>
   refine wXR ?_
   refine RwN.known (nodeC t) rfl fun nb => ?_
   refine wXR ?_
   refine call1 (node_c _ _ _ _ _ _) ?_
   refine wXR ?_
   have hg : Gn k.l ⟨48, [], 0, some ⟨nb, 0, none⟩, [t], 1⟩ k.l (1 + 8 * (q3 - p)) 3 := (Gn.q (s := 1 + 8 * (q3 - q)) (d := 2) rfl (.some (Nat.le_refl 1)) (Nat.zero_le _) (by omega) ((hj.gn.le (by show 1 ≤ 1 + 8 * (q3 - q); omega) (by decide))).s).le (by omega) (Nat.le_refl _)
   refine ⟨_, sealG _ _ _ _ _, ⟨⟨48, [], 0, some ⟨nb, 0, none⟩, [t], 1⟩, k, q3, z, _⟩, ⟨.pval1 hj.v (hb rfl), trivial, hg.le (Nat.le_refl _) (by omega), kok, ⟨by show p ≤ q3; omega, by show q3 ≤ _; omega⟩, fun w hw => ⟨hw.1, treeF hg.tk hw.2.1 rfl (one_mem (f0 hj.gn.tk hj.no)), (hA w hw.1).2⟩⟩, rfl, ⟨wkE_refl _, wkE_refl _, wkH_nil _⟩⟩
  | false =>
   refine wXR ?_
   refine call1 (node_c _ _ _ _ _ _) ?_
   refine wXR ?_
   have hg0 : Gn k.l ⟨0, [], 0, none, [], 0⟩ k.l 1 1 := Gn.leaf (d := 0) rfl (Nat.zero_le _)
   refine wXR ?_
   refine RwN.known (nodeC (⟨0, [], 0, none, [], 0⟩ : TP)) rfl fun nb => ?_
   refine wXR ?_
   refine call1 (node_c _ _ _ _ _ _) ?_
   refine wXR ?_
   have hg : Gn k.l ⟨48, [], 0, some ⟨nb, 0, none⟩, [(⟨0, [], 0, none, [], 0⟩ : TP)], 1⟩ k.l (1 + 8 * (q3 - p)) 3 := (Gn.q (s := 1 + 8 * (q3 - q)) (d := 2) rfl (.some (Nat.le_refl 1)) (Nat.zero_le _) (by omega) ((hg0.le (by show 1 ≤ 1 + 8 * (q3 - q); omega) (by decide))).s).le (by omega) (Nat.le_refl _)
   refine ⟨_, sealG _ _ _ _ _, ⟨⟨48, [], 0, some ⟨nb, 0, none⟩, [(⟨0, [], 0, none, [], 0⟩ : TP)], 1⟩, k, q3, z, _⟩, ⟨.pval1 (.bare (.inl rfl)) (.inr (.inr (.inr (.inl rfl)))), trivial, hg.le (Nat.le_refl _) (by omega), kok, ⟨by show p ≤ q3; omega, by show q3 ≤ _; omega⟩, fun w hw => ⟨hw.1, treeF hg.tk hw.2.1 rfl (one_mem (f0 hg0.tk rfl)), (hA w hw.1).2⟩⟩, rfl, ⟨wkE_refl _, wkE_refl _, wkH_nil _⟩⟩
 ·have h5 := h4 (by decide)
  refine wXR ?_
  refine callG (path_c g ok q z h3 A (fun w hw => ⟨(hA w hw).1, trivial⟩)) [0, 1] rfl ⟨rfl, rfl, trivial⟩ rfl fun j hj => ?_
  obtain ⟨t, q3, F3⟩ := j
  have hle : q ≤ q3 ∧ q3 ≤ g.l.length := hj.le
  refine wXR ?_
  refine RwN.known (nodeC t) rfl fun nb => ?_
  refine wXR ?_
  refine call1 (node_c _ _ _ _ _ _) ?_
  refine wXR ?_
  have hg : Gn k.l ⟨48, [], 0, some ⟨nb, 0, none⟩, [t], 1⟩ k.l (1 + 8 * (q3 - p)) 3 := (Gn.q (s := 1 + 8 * (q3 - q)) (d := 2) rfl (.some (Nat.le_refl 1)) (Nat.zero_le _) (by omega) (hj.gn k.l).s).le (by omega) (Nat.le_refl _)
  refine ⟨_, sealG _ _ _ _ _, ⟨⟨48, [], 0, some ⟨nb, 0, none⟩, [t], 1⟩, k, q3, z, _⟩, ⟨.pval1 hj.v (.inr (.inr (.inr (.inr (.inr (.inr (.inr hj.pa))))))), trivial, hg.le (Nat.le_refl _) (by omega), kok, ⟨by show p ≤ q3; omega, by show q3 ≤ _; omega⟩, fun w hw => ⟨(hj.f w hw.1).1, treeF hg.tk hw.2.1 rfl (one_mem ((hj.f w hw.1).2)), (hA w (hj.f w hw.1).1).2⟩⟩, rfl, ⟨wkE_refl _, wkE_refl _, wkH_nil _⟩⟩
 ·have h5 := h4 (by decide)
  refine wXR ?_
  refine callG (gleaf_c g ok k kok q z h3 A hA) [0, 1] rfl ⟨rfl, rfl, trivial⟩ rfl fun j hj => ?_
  obtain ⟨t, q3⟩ := j
  have hle : q ≤ q3 ∧ q3 ≤ g.l.length := hj.le
  refine wXR ?_
  refine callR (constant_g t hj.co.1 hj.no hj.co.2 _) fun v hv => ?_
  obtain ⟨b, rfl, hb⟩ := hv
  cases b with
  | true =>
   refine wXR ?_
   refine RwN.known (nodeC t) rfl fun nb => ?_
   refine wXR ?_
   refine call1 (node_c _ _ _ _ _ _) ?_
   refine wXR ?_
   have hg : Gn k.l ⟨48, [], 0, some ⟨nb, 0, none⟩, [t], 1⟩ k.l (1 + 8 * (q3 - p)) 3 := (Gn.q (s := 1 + 8 * (q3 - q)) (d := 2) rfl (.some (Nat.le_refl 1)) (Nat.zero_le _) (by omega) ((hj.gn.le (by show 1 ≤ 1 + 8 * (q3 - q); omega) (by decide))).s).le (by omega) (Nat.le_refl _)
   refine ⟨_, sealG _ _ _ _ _, ⟨⟨48, [], 0, some ⟨nb, 0, none⟩, [t], 1⟩, k, q3, z, _⟩, ⟨.pval1 hj.v (hb rfl), trivial, hg.le (Nat.le_refl _) (by omega), kok, ⟨by show p ≤ q3; omega, by show q3 ≤ _; omega⟩, fun w hw => ⟨hw.1, treeF hg.tk hw.2.1 rfl (one_mem (f0 hj.gn.tk hj.no)), (hA w hw.1).2⟩⟩, rfl, ⟨wkE_refl _, wkE_refl _, wkH_nil _⟩⟩
  | false =>
   refine wXR ?_
   refine call1 (node_c _ _ _ _ _ _) ?_
   refine wXR ?_
   have hg0 : Gn k.l ⟨0, [], 0, none, [], 0⟩ k.l 1 1 := Gn.leaf (d := 0) rfl (Nat.zero_le _)
   refine wXR ?_
   refine RwN.known (nodeC (⟨0, [], 0, none, [], 0⟩ : TP)) rfl fun nb => ?_
   refine wXR ?_
   refine call1 (node_c _ _ _ _ _ _) ?_
   refine wXR ?_
   have hg : Gn k.l ⟨48, [], 0, some ⟨nb, 0, none⟩, [(⟨0, [], 0, none, [], 0⟩ : TP)], 1⟩ k.l (1 + 8 * (q3 - p)) 3 := (Gn.q (s := 1 + 8 * (q3 - q)) (d := 2) rfl (.some (Nat.le_refl 1)) (Nat.zero_le _) (by omega) ((hg0.le (by show 1 ≤ 1 + 8 * (q3 - q); omega) (by decide))).s).le (by omega) (Nat.le_refl _)
   refine ⟨_, sealG _ _ _ _ _, ⟨⟨48, [], 0, some ⟨nb, 0, none⟩, [(⟨0, [], 0, none, [], 0⟩ : TP)], 1⟩, k, q3, z, _⟩, ⟨.pval1 (.bare (.inl rfl)) (.inr (.inr (.inr (.inl rfl)))), trivial, hg.le (Nat.le_refl _) (by omega), kok, ⟨by show p ≤ q3; omega, by show q3 ≤ _; omega⟩, fun w hw => ⟨hw.1, treeF hg.tk hw.2.1 rfl (one_mem (f0 hg0.tk rfl)), (hA w hw.1).2⟩⟩, rfl, ⟨wkE_refl _, wkE_refl _, wkH_nil _⟩⟩
structure PtI where
 i : SmI
 r : Bool
structure PtInv (g : GD) (A : World → Prop) (k : KD) (p d m : Nat) (j : PtI) : Prop where
 sm : SmInv isRow g A k p d j.i
 ln : j.i.l.length ≤ m
 ct : (j.i.l.filter fun k => k.op == 52).length ≤ if j.r then 1 else 0
theorem seal4 (F0 : World → Prop) (g : GD) (p : Nat) (z : Int) {T U V : TypeId} {cs ds : List CV} {sz n cap : Nat} {xs : List Value} {a : Option Addr} (R : List Ent) : TurnS (.fact F0 :: grE g p z :: .blk T cs :: .blk U ds :: .app V sz xs a n cap :: R) (.fact (fun w => F0 w ∧ Facts R w) :: grE g p z :: .blk T cs :: .blk U ds :: .app V sz xs a n cap :: R.map fun _ => .dead) :=
 turnS ⟨.inr (.inr ⟨_, rfl, fun _ hw => ⟨hw.1, facts_rest R _ rfl hw.2⟩⟩), .inr (.inl rfl), .inr (.inl rfl), .inr (.inl rfl), .inr (.inl rfl), sealed_map _ R⟩
theorem pre_ct {l : List TP} {x : List UInt8} {n : Int} {a : Option Addr} {ks : List TP} {c : Nat} (h : (l.filter fun k => k.op == 52).length ≤ if false = true then 1 else 0) : ((l ++ [(⟨52, x, n, a, ks, c⟩ : TP)]).filter fun k => k.op == 52).length ≤ if true = true then 1 else 0 := by
 rw [if_neg (by decide)] at h
 rw [List.filter_append, List.length_append]
 simp
 simp at h
 exact h
theorem kid_ct {l : List TP} {t : TP} {b : Bool} (ht : t.op ≠ 52) (h : (l.filter fun k => k.op == 52).length ≤ if b = true then 1 else 0) : ((l ++ [t]).filter fun k => k.op == 52).length ≤ if b = true then 1 else 0 := by
 rw [List.filter_append, List.length_append]
 simp [ht]
 simpa using h
set_option maxHeartbeats 4000000 in
theorem gpat_1 (D : Nat) (hD : D ≤ 50) (ih : GPatC D) : GPatC (D + 1) := by
 intro g ok k kok p z hp A hA
 refine ownT hm Tryz.func54 (by kernel_rfl) rfl rfl (fun _ _ => okHB_eq rfl) (fun _ _ => Nat.le_of_ble_eq_true rfl) ?_
 have hlen := ok.len
 refine wXR ?_
 refine callG (pick_c g ok p z 8 ⟨by decide, by decide⟩ hp A (fun w hw => (hA w hw).1)) [0, 1] rfl ⟨rfl, rfl, trivial⟩ rfl fun i hi => ?_
 obtain ⟨x, q⟩ := i
 obtain ⟨h1, h2, h3, h4⟩ := hi
 have h1 : x < 8 := h1
 have h2 : p ≤ q := h2
 have h3 : q ≤ g.l.length := h3
 have h4 : x ≠ 0 → p < q := h4
 rcases (by omega : x = 0 ∨ x = 1 ∨ x = 2 ∨ x = 3 ∨ x = 4 ∨ x = 5 ∨ x = 6 ∨ x = 7) with rfl | rfl | rfl | rfl | rfl | rfl | rfl | rfl
 ·-- any
  refine wXR ?_
  refine call1 (node_c _ _ _ _ _ _) ?_
  refine wXR ?_
  refine ⟨_, sealG _ _ _ _ _, ⟨⟨50, [], 0, none, [], 0⟩, k, q, z, _⟩, ⟨.pany, trivial, (Gn.leaf (d := 0) rfl (Nat.zero_le _)).le (by omega) (by omega), kok, ⟨h2, h3⟩, fun w hw => ⟨hw.1, f0 (Gn.leaf (k := []) (d := 0) rfl (Nat.zero_le _)).tk rfl, (hA w hw.1).2⟩⟩, rfl, ⟨wkE_refl _, wkE_refl _, wkH_nil _⟩⟩
 ·-- a name
  refine wXR ?_
  refine RwN.known (strsC xywL) rfl fun rb => ?_
  refine wXR ?_
  refine SpecH.shut 3 rfl ?_
  refine callG (text_c g ok q z h3 A _ (fun w hw => (hA w hw).1) (some ⟨rb, 0, none⟩) xywL _ ⟨by decide, by decide⟩ rfl (fun w hw => hw)) [0, 1, 3] rfl ⟨rfl, rfl, rfl, trivial⟩ rfl fun i hi2 => ?_
  obtain ⟨x, q3⟩ := i
  obtain ⟨hx, hq2, hq3⟩ := hi2
  have hx : x ∈ xywL := hx
  have hq2 : q ≤ q3 := hq2
  have hq3 : q3 ≤ g.l.length := hq3
  have hxv := xywL_v x hx
  refine wXR ?_
  refine call1 (node_c _ _ _ _ _ _) ?_
  refine wXR ?_
  refine callG (declared_c g k kok x hxv.1 q3 z A (fun w hw => (hA w hw).2)) [0, 1] rfl ⟨rfl, rfl, trivial⟩ rfl fun j hj => ?_
  obtain ⟨k2, F2⟩ := j
  obtain ⟨hk2, hka, hF2⟩ := hj
  have hka : k2.l = kadd k.l x := hka
  refine wX ?_
  have hg : Gn k.l ⟨49, x, 0, none, [], 0⟩ k2.l 1 1 := by rw [hka]; exact Gn.set (d := 0) (.inr (.inl rfl)) hxv.1 (.nil _ _) (by decide) (Gs.nil _ _)
  refine ⟨_, sealG _ _ _ _ _, ⟨⟨49, x, 0, none, [], 0⟩, k2, q3, z, _⟩, ⟨.pbind (nmL_lo x hxv.1) hxv.2, trivial, hg.le (by omega) (by omega), hk2, ⟨by show p ≤ q3; omega, hq3⟩, fun w hw => ⟨(hF2 w hw.1).1, f0 hg.tk rfl, (hF2 w hw.1).2⟩⟩, rfl, ⟨wkE_refl _, wkE_refl _, wkH_nil _⟩⟩
 ·-- a name
  refine wXR ?_
  refine RwN.known (strsC xywL) rfl fun rb => ?_
  refine wXR ?_
  refine SpecH.shut 3 rfl ?_
  refine callG (text_c g ok q z h3 A _ (fun w hw => (hA w hw).1) (some ⟨rb, 0, none⟩) xywL _ ⟨by decide, by decide⟩ rfl (fun w hw => hw)) [0, 1, 3] rfl ⟨rfl, rfl, rfl, trivial⟩ rfl fun i hi2 => ?_
  obtain ⟨x, q3⟩ := i
  obtain ⟨hx, hq2, hq3⟩ := hi2
  have hx : x ∈ xywL := hx
  have hq2 : q ≤ q3 := hq2
  have hq3 : q3 ≤ g.l.length := hq3
  have hxv := xywL_v x hx
  refine wXR ?_
  refine call1 (node_c _ _ _ _ _ _) ?_
  refine wXR ?_
  refine callG (declared_c g k kok x hxv.1 q3 z A (fun w hw => (hA w hw).2)) [0, 1] rfl ⟨rfl, rfl, trivial⟩ rfl fun j hj => ?_
  obtain ⟨k2, F2⟩ := j
  obtain ⟨hk2, hka, hF2⟩ := hj
  have hka : k2.l = kadd k.l x := hka
  refine wX ?_
  have hg : Gn k.l ⟨49, x, 0, none, [], 0⟩ k2.l 1 1 := by rw [hka]; exact Gn.set (d := 0) (.inr (.inl rfl)) hxv.1 (.nil _ _) (by decide) (Gs.nil _ _)
  refine ⟨_, sealG _ _ _ _ _, ⟨⟨49, x, 0, none, [], 0⟩, k2, q3, z, _⟩, ⟨.pbind (nmL_lo x hxv.1) hxv.2, trivial, hg.le (by omega) (by omega), hk2, ⟨by show p ≤ q3; omega, hq3⟩, fun w hw => ⟨(hF2 w hw.1).1, f0 hg.tk rfl, (hF2 w hw.1).2⟩⟩, rfl, ⟨wkE_refl _, wkE_refl _, wkH_nil _⟩⟩
 ·have h5 := h4 (by decide)
  refine wXR ?_
  refine call1 (node_c _ _ _ _ _ _) ?_
  refine wXR ?_
  refine callG (pick_c g ok q z 4 ⟨by decide, by decide⟩ h3 A (fun w hw => (hA w hw).1)) [0, 1] rfl ⟨rfl, rfl, trivial⟩ rfl fun i hi => ?_
  obtain ⟨m, p1⟩ := i
  obtain ⟨g1, g2, g3, g4⟩ := hi
  have g1 : m < 4 := g1
  have g2 : q ≤ p1 := g2
  have g3 : p1 ≤ g.l.length := g3
  have g4 : m ≠ 0 → q < p1 := g4
  refine wXR ?_
  refine LoopN.introS PtI (PtInv g A k p1 (D + 3) m)
   (fun ⟨⟨l, _, _, k', _, _, _⟩, r⟩ => mkS Tryz.f54.ntmps 0 [(0, .c (.v (gP g))), (1, .c (.v (.int .i64 ((D + 1 : Nat) : Int)))), (2, .c (.v (knV k'))), (6, .c (.lp 2 0)), (7, .c (.v (.slice none 0 0))), (9, .c (.lp 3 0)), (10, .c (.v (.bool r))), (11, .c (.v (.int .i64 ((m : Int) - (l.length : Int)))))])
   (fun ⟨⟨l, ob, cap, _, q, z', F⟩, _⟩ => [.fact F, grE g q z', .blk ndT [.v (.int .i64 0), .v (.string (bs [])), .v (.int .i64 0), .v (.slice none 0 0)], .blk ndT [.v (.int .i64 51), .v (.string (bs [])), .v (.int .i64 0), .v (.slice (at0 ob) l.length cap)], rowN4 l ob cap])
   (fun j => m - j.i.l.length) [.app ndT 4 [] none 0 0] rfl (fun _ => rfl) (fun _ => rfl) (fun _ _ => okHB_eq rfl)
   ⟨⟨⟨[], none, 0, k, p1, z, A⟩, false⟩, ⟨⟨(fun _ h => by cases h), (Gs.nil _ _).le (by omega) (Nat.le_refl _), kok, ⟨Nat.le_refl _, g3⟩, fun _ => rfl, Nat.le_refl _, fun w hw => ⟨hw, (fun _ h => by cases h), (hA w hw).2⟩⟩, Nat.zero_le _, Nat.le_refl _⟩, ?_, _, turn_refl _, ⟨wkE_refl _, wkE_refl _, wkE_refl _, wkE_refl _, wkE_refl _, wkH_nil _⟩⟩ ?_
  ·(repeat' (first | exact trivial | refine And.intro (by with_reducible rfl) ?_ | (with_reducible exact wkC_refl _) | (with_reducible exact wkCs_refl _) | refine And.intro ?_ ?_))
   all_goals first | rfl | exact av_int (by simp)
  rintro ⟨⟨l, ob, cap, k', q1, z', F⟩, r⟩ hi
  have hln : l.length ≤ m := hi.ln
  have hnil : at0 ob = none → l = [] := at0_nil hi.sm.nil
  have hcap : l.length ≤ cap := hi.sm.cap
  have hle : p1 ≤ q1 ∧ q1 ≤ g.l.length := hi.sm.le
  have hct : (l.filter fun k => k.op == 52).length ≤ if r then 1 else 0 := hi.ct
  refine wXR ?_
  refine brd_dec (fun h6 => ?_) (fun h6 => ?_)
  ·refine wXR ?_
   refine brd_dec (fun _ => ?_) (fun h => absurd (by omega) h)
   cases r with
   | true =>
    refine wXR ?_
    rw [low D (by omega)]
    refine callG (ih g ok k' hi.sm.kd q1 z' hle.2 F (fun w hw => ⟨(hA w (hi.sm.f w hw).1).1, (hi.sm.f w hw).2.2⟩)) [0, 1] rfl ⟨rfl, rfl, trivial⟩ rfl fun j hj => ?_
    obtain ⟨t, k2, q3, z2, F2⟩ := j
    have hle2 : q1 ≤ q3 ∧ q3 ≤ g.l.length := hj.le
    have htg : Gn k'.l t k2.l (1 + 8 * (q3 - q1)) (D + 3) := hj.gn
    have htv : V (.pat true) t := hj.v
    have hr : isRow t := ⟨fun _ => htv, fun h => absurd h (pat_op htv)⟩
    refine wX ?_
    try refine Nd.mk ⟨Nat.le_refl 1, rfl, rfl⟩ ?_
    (conv => whnf)
    refine AppN.grow 4 (nodesC l) (nodeC t) rfl rfl ⟨Nat.le_refl 1, ⟨by show (l.length + 1) * 56 ≤ _; omega, by show l.length + 1 < _; omega⟩, by decide⟩ fun b' c' g1' g2' => ?_
    refine wX ?_
    have e1 : nodesC l ++ nodeC t = nodesC (l ++ [t]) := by rw [nodesC_one, nodesC_app]
    have e2 : l.length + 1 = (l ++ [t]).length := by simp
    rw [e1, e2]
    refine ⟨⟨⟨l ++ [t], some b', c', k2, q3, _, _⟩, true⟩, ⟨hi.sm.snoc hr (htg.le (by show 1 + 8 * (q3 - q1) ≤ 1 + 8 * (q3 - q1); omega) (Nat.le_refl _)) hj.kd ⟨by show q1 ≤ q3; omega, by omega⟩ (fun w hw => (hj.f w hw.1)) g1', by show (l ++ [t]).length ≤ m; rw [← e2]; omega, kid_ct (pat_op htv) hct⟩, by show m - (l ++ [t]).length < m - l.length; rw [← e2]; omega, ?_, _, seal4 _ _ _ _ _, ⟨wkE_refl _, wkE_refl _, wkE_refl _, wkE_refl _, wkE_refl _, wkH_nil _⟩⟩
    exact wKK
   | false =>
    refine wXR ?_
    refine callG (pick_c g ok q1 z' 4 ⟨by decide, by decide⟩ hle.2 F (fun w hw => (hA w (hi.sm.f w hw).1).1)) [0, 1] rfl ⟨rfl, rfl, trivial⟩ rfl fun i hi3 => ?_
    obtain ⟨y, q2⟩ := i
    obtain ⟨_, j2, j3, j4⟩ := hi3
    have j2 : q1 ≤ q2 := j2
    have j3 : q2 ≤ g.l.length := j3
    have j4 : y ≠ 0 → q1 < q2 := j4
    refine wXR ?_
    refine brd_eq (fun hy => ?_) (fun hy => ?_)
    ·have j5 := j4 (by omega)
     refine wXR ?_
     refine RwN.known (strsC rstL) rfl fun rb => ?_
     refine wXR ?_
     refine SpecH.shut 5 rfl ?_
     refine callG (text_c g ok q2 z' j3 F _ (fun w hw => (hA w (hi.sm.f w hw).1).1) (some ⟨rb, 0, none⟩) rstL _ ⟨by decide, by decide⟩ rfl (fun w hw => hw)) [0, 1, 5] rfl ⟨rfl, rfl, rfl, trivial⟩ rfl fun i hi2 => ?_
     obtain ⟨x, q3⟩ := i
     obtain ⟨hx, hq2, hq3⟩ := hi2
     have hx : x ∈ rstL := hx
     have hq2 : q2 ≤ q3 := hq2
     have hq3 : q3 ≤ g.l.length := hq3
     rcases rstL_v x hx with rfl | hxn
     ·refine wXR ?_
      have hg : Gn k'.l ⟨52, [], 0, none, [], 0⟩ k'.l (1 + 8 * (q3 - q1)) (D + 3) := (Gn.none (d := 0) (.inr rfl)).le (by omega) (by omega)
      have hr : isRow ⟨52, [], 0, none, [], 0⟩ := ⟨fun h => absurd rfl h, fun _ => .prest (.inl rfl)⟩
      refine DrawN.plan [0, 2] [(1, 1), (3, 0), (4, 0)] [(5, 0), (6, 0), (7, 0)] (by decide +kernel) ?_
      refine wXR ?_
      refine call1 (node_c _ _ _ _ _ _) ?_
      refine wXR ?_
      refine RwN.own ?_
      refine wX ?_
      try refine Nd.mk ⟨Nat.le_refl 1, rfl, rfl⟩ ?_
      (conv => whnf)
      refine AppN.grow 4 (nodesC l) (nodeC (⟨52, [], 0, none, [], 0⟩ : TP)) rfl rfl ⟨Nat.le_refl 1, ⟨by show (l.length + 1) * 56 ≤ _; omega, by show l.length + 1 < _; omega⟩, by decide⟩ fun b' c' g1' g2' => ?_
      refine wX ?_
      have e1 : nodesC l ++ nodeC (⟨52, [], 0, none, [], 0⟩ : TP) = nodesC (l ++ [(⟨52, [], 0, none, [], 0⟩ : TP)]) := by rw [nodesC_one, nodesC_app]
      have e2 : l.length + 1 = (l ++ [(⟨52, [], 0, none, [], 0⟩ : TP)]).length := by simp
      rw [e1, e2]
      refine ⟨⟨⟨l ++ [(⟨52, [], 0, none, [], 0⟩ : TP)], some b', c', k', q3, _, _⟩, true⟩, ⟨hi.sm.snoc hr hg hi.sm.kd ⟨by show q1 ≤ q3; omega, by omega⟩ (fun w hw => ⟨hw.1, f0 hg.tk rfl, (hi.sm.f w hw.1).2.2⟩) g1', by show (l ++ [(⟨52, [], 0, none, [], 0⟩ : TP)]).length ≤ m; rw [← e2]; omega, pre_ct hct⟩, by show m - (l ++ [(⟨52, [], 0, none, [], 0⟩ : TP)]).length < m - l.length; rw [← e2]; omega, ?_, _, seal4 _ _ _ _ _, ⟨wkE_refl _, wkE_refl _, wkE_refl _, wkE_refl _, wkE_refl _, wkH_nil _⟩⟩
      exact wKK
     ·have hxe : ((bs x).data.toList == ((⟨#[]⟩ : ByteArray)).data.toList) = false := by
       rw [bs_list]
       have := nmL_ne hxn
       cases x with
       | nil => exact absurd rfl this
       | cons c r => rfl
      refine wXR ?_
      refine brd_intro (fun h7 => ?_) (fun h7 => absurd (h7.symm.trans (congrArg (!·) hxe)) (by decide))
      refine wXR ?_
      refine callG (declared_c g k' hi.sm.kd x hxn q3 z' F (fun w hw => (hi.sm.f w hw).2.2)) [0, 1] rfl ⟨rfl, rfl, trivial⟩ rfl fun j hj => ?_
      obtain ⟨k2, F2⟩ := j
      obtain ⟨hk2, hka, hF2⟩ := hj
      have hka : k2.l = kadd k'.l x := hka
      have hk2 : KdOk k2 := hk2
      have hF2 : ∀ w, F2 w → F w ∧ KnF k2 w := hF2
      have hg : Gn k'.l ⟨52, x, 0, none, [], 0⟩ k2.l (1 + 8 * (q3 - q1)) (D + 3) := by rw [hka]; exact (Gn.set (d := 0) (.inr (.inr ⟨rfl, nmL_ne hxn⟩)) hxn (.nil _ _) (by decide) (Gs.nil _ _)).le (by omega) (by omega)
      have hr : isRow ⟨52, x, 0, none, [], 0⟩ := ⟨fun h => absurd rfl h, fun _ => .prest (.inr (nmL_lo x hxn))⟩
      refine wXR ?_
      refine DrawN.plan [0, 2] [(1, 1), (3, 0), (4, 0)] [(5, 0), (6, 0), (7, 0)] (by decide +kernel) ?_
      refine wXR ?_
      refine call1 (node_c _ _ _ _ _ _) ?_
      refine wXR ?_
      refine RwN.own ?_
      refine wX ?_
      try refine Nd.mk ⟨Nat.le_refl 1, rfl, rfl⟩ ?_
      (conv => whnf)
      refine AppN.grow 4 (nodesC l) (nodeC (⟨52, x, 0, none, [], 0⟩ : TP)) rfl rfl ⟨Nat.le_refl 1, ⟨by show (l.length + 1) * 56 ≤ _; omega, by show l.length + 1 < _; omega⟩, by decide⟩ fun b' c' g1' g2' => ?_
      refine wX ?_
      have e1 : nodesC l ++ nodeC (⟨52, x, 0, none, [], 0⟩ : TP) = nodesC (l ++ [(⟨52, x, 0, none, [], 0⟩ : TP)]) := by rw [nodesC_one, nodesC_app]
      have e2 : l.length + 1 = (l ++ [(⟨52, x, 0, none, [], 0⟩ : TP)]).length := by simp
      rw [e1, e2]
      refine ⟨⟨⟨l ++ [(⟨52, x, 0, none, [], 0⟩ : TP)], some b', c', k2, q3, _, _⟩, true⟩, ⟨hi.sm.snoc hr hg hk2 ⟨by show q1 ≤ q3; omega, by omega⟩ (fun w hw => ⟨(hF2 w hw.1).1, f0 hg.tk rfl, (hF2 w hw.1).2⟩) g1', by show (l ++ [(⟨52, x, 0, none, [], 0⟩ : TP)]).length ≤ m; rw [← e2]; omega, pre_ct hct⟩, by show m - (l ++ [(⟨52, x, 0, none, [], 0⟩ : TP)]).length < m - l.length; rw [← e2]; omega, ?_, _, seal4 _ _ _ _ _, ⟨wkE_refl _, wkE_refl _, wkE_refl _, wkE_refl _, wkE_refl _, wkH_nil _⟩⟩
      exact wKK
    ·-- a pattern; false: whether there was a Prest; q2 j3: where the numbers are, why
     refine wXR ?_
     rw [low D (by omega)]
     refine callG (ih g ok k' hi.sm.kd q2 z' j3 F (fun w hw => ⟨(hA w (hi.sm.f w hw).1).1, (hi.sm.f w hw).2.2⟩)) [0, 1] rfl ⟨rfl, rfl, trivial⟩ rfl fun j hj => ?_
     obtain ⟨t, k2, q3, z2, F2⟩ := j
     have hle2 : q2 ≤ q3 ∧ q3 ≤ g.l.length := hj.le
     have htg : Gn k'.l t k2.l (1 + 8 * (q3 - q2)) (D + 3) := hj.gn
     have htv : V (.pat true) t := hj.v
     have hr : isRow t := ⟨fun _ => htv, fun h => absurd h (pat_op htv)⟩
     refine wX ?_
     try refine Nd.mk ⟨Nat.le_refl 1, rfl, rfl⟩ ?_
     (conv => whnf)
     refine AppN.grow 4 (nodesC l) (nodeC t) rfl rfl ⟨Nat.le_refl 1, ⟨by show (l.length + 1) * 56 ≤ _; omega, by show l.length + 1 < _; omega⟩, by decide⟩ fun b' c' g1' g2' => ?_
     refine wX ?_
     have e1 : nodesC l ++ nodeC t = nodesC (l ++ [t]) := by rw [nodesC_one, nodesC_app]
     have e2 : l.length + 1 = (l ++ [t]).length := by simp
     rw [e1, e2]
     refine ⟨⟨⟨l ++ [t], some b', c', k2, q3, _, _⟩, false⟩, ⟨hi.sm.snoc hr (htg.le (by show 1 + 8 * (q3 - q2) ≤ 1 + 8 * (q3 - q1); omega) (Nat.le_refl _)) hj.kd ⟨by show q1 ≤ q3; omega, by omega⟩ (fun w hw => (hj.f w hw.1)) g1', by show (l ++ [t]).length ≤ m; rw [← e2]; omega, kid_ct (pat_op htv) hct⟩, by show m - (l ++ [t]).length < m - l.length; rw [← e2]; omega, ?_, _, seal4 _ _ _ _ _, ⟨wkE_refl _, wkE_refl _, wkE_refl _, wkE_refl _, wkE_refl _, wkH_nil _⟩⟩
     exact wKK
  ·have hlm : l.length = m := by omega
   have h7 : m ≤ 8 * (p1 - p) := by omega
   refine wXR ?_
   have hg : Gn k.l ⟨51, [], 0, at0 ob, l, cap⟩ k'.l (1 + 8 * (q1 - p)) (D + 1 + 3) := (Gn.q (s := l.length + 8 * (q1 - p1)) (d := D + 3) rfl ⟨hnil, hcap⟩ (Nat.zero_le _) (by omega) hi.sm.gs).le (by omega) (by omega)
   refine ⟨_, sealG _ _ _ _ _, ⟨⟨51, [], 0, at0 ob, l, cap⟩, k', q1, z', _⟩, ⟨.parr (fun t ht => (hi.sm.v t ht).1) (fun t ht => (hi.sm.v t ht).2) (Nat.le_trans hct (by split <;> decide)), trivial, hg, hi.sm.kd, ⟨by show p ≤ q1; omega, hle.2⟩, fun w hw => ?_⟩, rfl, ⟨wkE_refl _, wkE_refl _, wkH_nil _⟩⟩
   obtain ⟨f1, f2, f3⟩ := hi.sm.f w hw.1
   exact ⟨f1, treeF hg.tk hw.2.1 rfl f2, f3⟩
 ·have h5 := h4 (by decide)
  refine wXR ?_
  refine call1 (node_c _ _ _ _ _ _) ?_
  refine wXR ?_
  refine callG (pick_c g ok q z 4 ⟨by decide, by decide⟩ h3 A (fun w hw => (hA w hw).1)) [0, 1] rfl ⟨rfl, rfl, trivial⟩ rfl fun i hi => ?_
  obtain ⟨m, p1⟩ := i
  obtain ⟨g1, g2, g3, g4⟩ := hi
  have g1 : m < 4 := g1
  have g2 : q ≤ p1 := g2
  have g3 : p1 ≤ g.l.length := g3
  have g4 : m ≠ 0 → q < p1 := g4
  refine wXR ?_
  refine LoopN.introS PtI (PtInv g A k p1 (D + 3) m)
   (fun ⟨⟨l, _, _, k', _, _, _⟩, r⟩ => mkS Tryz.f54.ntmps 0 [(0, .c (.v (gP g))), (1, .c (.v (.int .i64 ((D + 1 : Nat) : Int)))), (2, .c (.v (knV k'))), (6, .c (.lp 2 0)), (7, .c (.v (.slice none 0 0))), (9, .c (.lp 3 0)), (10, .c (.v (.bool r))), (11, .c (.v (.int .i64 ((m : Int) - (l.length : Int)))))])
   (fun ⟨⟨l, ob, cap, _, q, z', F⟩, _⟩ => [.fact F, grE g q z', .blk ndT [.v (.int .i64 0), .v (.string (bs [])), .v (.int .i64 0), .v (.slice none 0 0)], .blk ndT [.v (.int .i64 51), .v (.string (bs [])), .v (.int .i64 0), .v (.slice (at0 ob) l.length cap)], rowN4 l ob cap])
   (fun j => m - j.i.l.length) [.app ndT 4 [] none 0 0] rfl (fun _ => rfl) (fun _ => rfl) (fun _ _ => okHB_eq rfl)
   ⟨⟨⟨[], none, 0, k, p1, z, A⟩, false⟩, ⟨⟨(fun _ h => by cases h), (Gs.nil _ _).le (by omega) (Nat.le_refl _), kok, ⟨Nat.le_refl _, g3⟩, fun _ => rfl, Nat.le_refl _, fun w hw => ⟨hw, (fun _ h => by cases h), (hA w hw).2⟩⟩, Nat.zero_le _, Nat.le_refl _⟩, ?_, _, turn_refl _, ⟨wkE_refl _, wkE_refl _, wkE_refl _, wkE_refl _, wkE_refl _, wkH_nil _⟩⟩ ?_
  ·(repeat' (first | exact trivial | refine And.intro (by with_reducible rfl) ?_ | (with_reducible exact wkC_refl _) | (with_reducible exact wkCs_refl _) | refine And.intro ?_ ?_))
   all_goals first | rfl | exact av_int (by simp)
  rintro ⟨⟨l, ob, cap, k', q1, z', F⟩, r⟩ hi
  have hln : l.length ≤ m := hi.ln
  have hnil : at0 ob = none → l = [] := at0_nil hi.sm.nil
  have hcap : l.length ≤ cap := hi.sm.cap
  have hle : p1 ≤ q1 ∧ q1 ≤ g.l.length := hi.sm.le
  have hct : (l.filter fun k => k.op == 52).length ≤ if r then 1 else 0 := hi.ct
  refine wXR ?_
  refine brd_dec (fun h6 => ?_) (fun h6 => ?_)
  ·refine wXR ?_
   refine brd_dec (fun _ => ?_) (fun h => absurd (by omega) h)
   cases r with
   | true =>
    refine wXR ?_
    rw [low D (by omega)]
    refine callG (ih g ok k' hi.sm.kd q1 z' hle.2 F (fun w hw => ⟨(hA w (hi.sm.f w hw).1).1, (hi.sm.f w hw).2.2⟩)) [0, 1] rfl ⟨rfl, rfl, trivial⟩ rfl fun j hj => ?_
    obtain ⟨t, k2, q3, z2, F2⟩ := j
    have hle2 : q1 ≤ q3 ∧ q3 ≤ g.l.length := hj.le
    have htg : Gn k'.l t k2.l (1 + 8 * (q3 - q1)) (D + 3) := hj.gn
    have htv : V (.pat true) t := hj.v
    have hr : isRow t := ⟨fun _ => htv, fun h => absurd h (pat_op htv)⟩
    refine wX ?_
    try refine Nd.mk ⟨Nat.le_refl 1, rfl, rfl⟩ ?_
    (conv => whnf)
    refine AppN.grow 4 (nodesC l) (nodeC t) rfl rfl ⟨Nat.le_refl 1, ⟨by show (l.length + 1) * 56 ≤ _; omega, by show l.length + 1 < _; omega⟩, by decide⟩ fun b' c' g1' g2' => ?_
    refine wX ?_
    have e1 : nodesC l ++ nodeC t = nodesC (l ++ [t]) := by rw [nodesC_one, nodesC_app]
    have e2 : l.length + 1 = (l ++ [t]).length := by simp
    rw [e1, e2]
    refine ⟨⟨⟨l ++ [t], some b', c', k2, q3, _, _⟩, true⟩, ⟨hi.sm.snoc hr (htg.le (by show 1 + 8 * (q3 - q1) ≤ 1 + 8 * (q3 - q1); omega) (Nat.le_refl _)) hj.kd ⟨by show q1 ≤ q3; omega, by omega⟩ (fun w hw => (hj.f w hw.1)) g1', by show (l ++ [t]).length ≤ m; rw [← e2]; omega, kid_ct (pat_op htv) hct⟩, by show m - (l ++ [t]).length < m - l.length; rw [← e2]; omega, ?_, _, seal4 _ _ _ _ _, ⟨wkE_refl _, wkE_refl _, wkE_refl _, wkE_refl _, wkE_refl _, wkH_nil _⟩⟩
    exact wKK
   | false =>
    refine wXR ?_
    refine callG (pick_c g ok q1 z' 4 ⟨by decide, by decide⟩ hle.2 F (fun w hw => (hA w (hi.sm.f w hw).1).1)) [0, 1] rfl ⟨rfl, rfl, trivial⟩ rfl fun i hi3 => ?_
    obtain ⟨y, q2⟩ := i
    obtain ⟨_, j2, j3, j4⟩ := hi3
    have j2 : q1 ≤ q2 := j2
    have j3 : q2 ≤ g.l.length := j3
    have j4 : y ≠ 0 → q1 < q2 := j4
    refine wXR ?_
    refine brd_eq (fun hy => ?_) (fun hy => ?_)
    ·have j5 := j4 (by omega)
     refine wXR ?_
     refine RwN.known (strsC rstL) rfl fun rb => ?_
     refine wXR ?_
     refine SpecH.shut 5 rfl ?_
     refine callG (text_c g ok q2 z' j3 F _ (fun w hw => (hA w (hi.sm.f w hw).1).1) (some ⟨rb, 0, none⟩) rstL _ ⟨by decide, by decide⟩ rfl (fun w hw => hw)) [0, 1, 5] rfl ⟨rfl, rfl, rfl, trivial⟩ rfl fun i hi2 => ?_
     obtain ⟨x, q3⟩ := i
     obtain ⟨hx, hq2, hq3⟩ := hi2
     have hx : x ∈ rstL := hx
     have hq2 : q2 ≤ q3 := hq2
     have hq3 : q3 ≤ g.l.length := hq3
     rcases rstL_v x hx with rfl | hxn
     ·refine wXR ?_
      have hg : Gn k'.l ⟨52, [], 0, none, [], 0⟩ k'.l (1 + 8 * (q3 - q1)) (D + 3) := (Gn.none (d := 0) (.inr rfl)).le (by omega) (by omega)
      have hr : isRow ⟨52, [], 0, none, [], 0⟩ := ⟨fun h => absurd rfl h, fun _ => .prest (.inl rfl)⟩
      refine DrawN.plan [0, 2] [(1, 1), (3, 0), (4, 0)] [(5, 0), (6, 0), (7, 0)] (by decide +kernel) ?_
      refine wXR ?_
      refine call1 (node_c _ _ _ _ _ _) ?_
      refine wXR ?_
      refine RwN.own ?_
      refine wX ?_
      try refine Nd.mk ⟨Nat.le_refl 1, rfl, rfl⟩ ?_
      (conv => whnf)
      refine AppN.grow 4 (nodesC l) (nodeC (⟨52, [], 0, none, [], 0⟩ : TP)) rfl rfl ⟨Nat.le_refl 1, ⟨by show (l.length + 1) * 56 ≤ _; omega, by show l.length + 1 < _; omega⟩, by decide⟩ fun b' c' g1' g2' => ?_
      refine wX ?_
      have e1 : nodesC l ++ nodeC (⟨52, [], 0, none, [], 0⟩ : TP) = nodesC (l ++ [(⟨52, [], 0, none, [], 0⟩ : TP)]) := by rw [nodesC_one, nodesC_app]
      have e2 : l.length + 1 = (l ++ [(⟨52, [], 0, none, [], 0⟩ : TP)]).length := by simp
      rw [e1, e2]
      refine ⟨⟨⟨l ++ [(⟨52, [], 0, none, [], 0⟩ : TP)], some b', c', k', q3, _, _⟩, true⟩, ⟨hi.sm.snoc hr hg hi.sm.kd ⟨by show q1 ≤ q3; omega, by omega⟩ (fun w hw => ⟨hw.1, f0 hg.tk rfl, (hi.sm.f w hw.1).2.2⟩) g1', by show (l ++ [(⟨52, [], 0, none, [], 0⟩ : TP)]).length ≤ m; rw [← e2]; omega, pre_ct hct⟩, by show m - (l ++ [(⟨52, [], 0, none, [], 0⟩ : TP)]).length < m - l.length; rw [← e2]; omega, ?_, _, seal4 _ _ _ _ _, ⟨wkE_refl _, wkE_refl _, wkE_refl _, wkE_refl _, wkE_refl _, wkH_nil _⟩⟩
      exact wKK
     ·have hxe : ((bs x).data.toList == ((⟨#[]⟩ : ByteArray)).data.toList) = false := by
       rw [bs_list]
       have := nmL_ne hxn
       cases x with
       | nil => exact absurd rfl this
       | cons c r => rfl
      refine wXR ?_
      refine brd_intro (fun h7 => ?_) (fun h7 => absurd (h7.symm.trans (congrArg (!·) hxe)) (by decide))
      refine wXR ?_
      refine callG (declared_c g k' hi.sm.kd x hxn q3 z' F (fun w hw => (hi.sm.f w hw).2.2)) [0, 1] rfl ⟨rfl, rfl, trivial⟩ rfl fun j hj => ?_
      obtain ⟨k2, F2⟩ := j
      obtain ⟨hk2, hka, hF2⟩ := hj
      have hka : k2.l = kadd k'.l x := hka
      have hk2 : KdOk k2 := hk2
      have hF2 : ∀ w, F2 w → F w ∧ KnF k2 w := hF2
      have hg : Gn k'.l ⟨52, x, 0, none, [], 0⟩ k2.l (1 + 8 * (q3 - q1)) (D + 3) := by rw [hka]; exact (Gn.set (d := 0) (.inr (.inr ⟨rfl, nmL_ne hxn⟩)) hxn (.nil _ _) (by decide) (Gs.nil _ _)).le (by omega) (by omega)
      have hr : isRow ⟨52, x, 0, none, [], 0⟩ := ⟨fun h => absurd rfl h, fun _ => .prest (.inr (nmL_lo x hxn))⟩
      refine wXR ?_
      refine DrawN.plan [0, 2] [(1, 1), (3, 0), (4, 0)] [(5, 0), (6, 0), (7, 0)] (by decide +kernel) ?_
      refine wXR ?_
      refine call1 (node_c _ _ _ _ _ _) ?_
      refine wXR ?_
      refine RwN.own ?_
      refine wX ?_
      try refine Nd.mk ⟨Nat.le_refl 1, rfl, rfl⟩ ?_
      (conv => whnf)
      refine AppN.grow 4 (nodesC l) (nodeC (⟨52, x, 0, none, [], 0⟩ : TP)) rfl rfl ⟨Nat.le_refl 1, ⟨by show (l.length + 1) * 56 ≤ _; omega, by show l.length + 1 < _; omega⟩, by decide⟩ fun b' c' g1' g2' => ?_
      refine wX ?_
      have e1 : nodesC l ++ nodeC (⟨52, x, 0, none, [], 0⟩ : TP) = nodesC (l ++ [(⟨52, x, 0, none, [], 0⟩ : TP)]) := by rw [nodesC_one, nodesC_app]
      have e2 : l.length + 1 = (l ++ [(⟨52, x, 0, none, [], 0⟩ : TP)]).length := by simp
      rw [e1, e2]
      refine ⟨⟨⟨l ++ [(⟨52, x, 0, none, [], 0⟩ : TP)], some b', c', k2, q3, _, _⟩, true⟩, ⟨hi.sm.snoc hr hg hk2 ⟨by show q1 ≤ q3; omega, by omega⟩ (fun w hw => ⟨(hF2 w hw.1).1, f0 hg.tk rfl, (hF2 w hw.1).2⟩) g1', by show (l ++ [(⟨52, x, 0, none, [], 0⟩ : TP)]).length ≤ m; rw [← e2]; omega, pre_ct hct⟩, by show m - (l ++ [(⟨52, x, 0, none, [], 0⟩ : TP)]).length < m - l.length; rw [← e2]; omega, ?_, _, seal4 _ _ _ _ _, ⟨wkE_refl _, wkE_refl _, wkE_refl _, wkE_refl _, wkE_refl _, wkH_nil _⟩⟩
      exact wKK
    ·-- a pattern; false: whether there was a Prest; q2 j3: where the numbers are, why
     refine wXR ?_
     rw [low D (by omega)]
     refine callG (ih g ok k' hi.sm.kd q2 z' j3 F (fun w hw => ⟨(hA w (hi.sm.f w hw).1).1, (hi.sm.f w hw).2.2⟩)) [0, 1] rfl ⟨rfl, rfl, trivial⟩ rfl fun j hj => ?_
     obtain ⟨t, k2, q3, z2, F2⟩ := j
     have hle2 : q2 ≤ q3 ∧ q3 ≤ g.l.length := hj.le
     have htg : Gn k'.l t k2.l (1 + 8 * (q3 - q2)) (D + 3) := hj.gn
     have htv : V (.pat true) t := hj.v
     have hr : isRow t := ⟨fun _ => htv, fun h => absurd h (pat_op htv)⟩
     refine wX ?_
     try refine Nd.mk ⟨Nat.le_refl 1, rfl, rfl⟩ ?_
     (conv => whnf)
     refine AppN.grow 4 (nodesC l) (nodeC t) rfl rfl ⟨Nat.le_refl 1, ⟨by show (l.length + 1) * 56 ≤ _; omega, by show l.length + 1 < _; omega⟩, by decide⟩ fun b' c' g1' g2' => ?_
     refine wX ?_
     have e1 : nodesC l ++ nodeC t = nodesC (l ++ [t]) := by rw [nodesC_one, nodesC_app]
     have e2 : l.length + 1 = (l ++ [t]).length := by simp
     rw [e1, e2]
     refine ⟨⟨⟨l ++ [t], some b', c', k2, q3, _, _⟩, false⟩, ⟨hi.sm.snoc hr (htg.le (by show 1 + 8 * (q3 - q2) ≤ 1 + 8 * (q3 - q1); omega) (Nat.le_refl _)) hj.kd ⟨by show q1 ≤ q3; omega, by omega⟩ (fun w hw => (hj.f w hw.1)) g1', by show (l ++ [t]).length ≤ m; rw [← e2]; omega, kid_ct (pat_op htv) hct⟩, by show m - (l ++ [t]).length < m - l.length; rw [← e2]; omega, ?_, _, seal4 _ _ _ _ _, ⟨wkE_refl _, wkE_refl _, wkE_refl _, wkE_refl _, wkE_refl _, wkH_nil _⟩⟩
     exact wKK
  ·have hlm : l.length = m := by omega
   have h7 : m ≤ 8 * (p1 - p) := by omega
   refine wXR ?_
   have hg : Gn k.l ⟨51, [], 0, at0 ob, l, cap⟩ k'.l (1 + 8 * (q1 - p)) (D + 1 + 3) := (Gn.q (s := l.length + 8 * (q1 - p1)) (d := D + 3) rfl ⟨hnil, hcap⟩ (Nat.zero_le _) (by omega) hi.sm.gs).le (by omega) (by omega)
   refine ⟨_, sealG _ _ _ _ _, ⟨⟨51, [], 0, at0 ob, l, cap⟩, k', q1, z', _⟩, ⟨.parr (fun t ht => (hi.sm.v t ht).1) (fun t ht => (hi.sm.v t ht).2) (Nat.le_trans hct (by split <;> decide)), trivial, hg, hi.sm.kd, ⟨by show p ≤ q1; omega, hle.2⟩, fun w hw => ?_⟩, rfl, ⟨wkE_refl _, wkE_refl _, wkH_nil _⟩⟩
   obtain ⟨f1, f2, f3⟩ := hi.sm.f w hw.1
   exact ⟨f1, treeF hg.tk hw.2.1 rfl f2, f3⟩
 ·have h5 := h4 (by decide)
  refine wXR ?_
  refine brd_dec (fun _ => ?_) (fun h => absurd (by omega) h)
  refine wXR ?_
  rw [low D (by omega)]
  refine callG (ih g ok k kok q z h3 A hA) [0, 1] rfl ⟨rfl, rfl, trivial⟩ rfl fun i hi => ?_
  obtain ⟨t, k1, q1, z1, F1⟩ := i
  have hle1 : q ≤ q1 ∧ q1 ≤ g.l.length := hi.le
  have hg1 : Gn k.l t k1.l (1 + 8 * (q1 - q)) (D + 3) := hi.gn
  have hk1 : KdOk k1 := hi.kd
  have hv1 : V (.pat true) t := hi.v
  refine wXR ?_
  rw [low D (by omega)]
  refine callG (ih g ok k1 hk1 q1 z1 hle1.2 F1 (fun w hw => ⟨(hA w (hi.f w hw).1).1, (hi.f w hw).2.2⟩)) [0, 1] rfl ⟨rfl, rfl, trivial⟩ rfl fun j hj => ?_
  obtain ⟨u, k2, q2, z2, F2⟩ := j
  have hle2 : q1 ≤ q2 ∧ q2 ≤ g.l.length := hj.le
  have hg2 : Gn k1.l u k2.l (1 + 8 * (q2 - q1)) (D + 3) := hj.gn
  have hv2 : V (.pat true) u := hj.v
  refine wXR ?_
  refine RwN.known (nodesC [t, u]) rfl fun nb => ?_
  refine wXR ?_
  refine call1 (node_c _ _ _ _ _ _) ?_
  refine wXR ?_
  have hg : Gn k.l ⟨53, [], 0, some ⟨nb, 0, none⟩, [t, u], 2⟩ k2.l (1 + 8 * (q2 - p)) (D + 1 + 3) := (Gn.q (s := 1 + 8 * (q1 - q) + (1 + 8 * (q2 - q1))) (d := D + 3) rfl (.some (Nat.le_refl 2)) (Nat.zero_le _) (by omega) (Gs.cons hg1 hg2.s)).le (by omega) (by omega)
  refine ⟨_, sealG _ _ _ _ _, ⟨⟨53, [], 0, some ⟨nb, 0, none⟩, [t, u], 2⟩, k2, q2, z2, _⟩, ⟨.palt1 (two_mem hv1 hv2) (Nat.le_refl 2), trivial, hg, hj.kd, ⟨by show p ≤ q2; omega, hle2.2⟩, fun w hw => ?_⟩, rfl, ⟨wkE_refl _, wkE_refl _, wkH_nil _⟩⟩
  obtain ⟨f1, f2, f3⟩ := hj.f w hw.1
  obtain ⟨f4, f5, f6⟩ := hi.f w f1
  exact ⟨f4, treeF hg.tk hw.2.1 rfl (two_mem f5 f2), f3⟩
 ·have h5 := h4 (by decide)
  refine wXR ?_
  refine callG (path_c g ok q z h3 A (fun w hw => ⟨(hA w hw).1, trivial⟩)) [0, 1] rfl ⟨rfl, rfl, trivial⟩ rfl fun j hj => ?_
  obtain ⟨t, q3, F3⟩ := j
  have hle : q ≤ q3 ∧ q3 ≤ g.l.length := hj.le
  refine wXR ?_
  refine RwN.known (nodeC t) rfl fun nb => ?_
  refine wXR ?_
  refine call1 (node_c _ _ _ _ _ _) ?_
  refine wXR ?_
  have hg : Gn k.l ⟨48, [], 0, some ⟨nb, 0, none⟩, [t], 1⟩ k.l (1 + 8 * (q3 - p)) 3 := (Gn.q (s := 1 + 8 * (q3 - q)) (d := 2) rfl (.some (Nat.le_refl 1)) (Nat.zero_le _) (by omega) (hj.gn k.l).s).le (by omega) (Nat.le_refl _)
  refine ⟨_, sealG _ _ _ _ _, ⟨⟨48, [], 0, some ⟨nb, 0, none⟩, [t], 1⟩, k, q3, z, _⟩, ⟨.pval1 hj.v (.inr (.inr (.inr (.inr (.inr (.inr (.inr hj.pa))))))), trivial, hg.le (Nat.le_refl _) (by omega), kok, ⟨by show p ≤ q3; omega, by show q3 ≤ _; omega⟩, fun w hw => ⟨(hj.f w hw.1).1, treeF hg.tk hw.2.1 rfl (one_mem ((hj.f w hw.1).2)), (hA w (hj.f w hw.1).1).2⟩⟩, rfl, ⟨wkE_refl _, wkE_refl _, wkH_nil _⟩⟩
 ·have h5 := h4 (by decide)
  refine wXR ?_
  refine callG (gleaf_c g ok k kok q z h3 A hA) [0, 1] rfl ⟨rfl, rfl, trivial⟩ rfl fun j hj => ?_
  obtain ⟨t, q3⟩ := j
  have hle : q ≤ q3 ∧ q3 ≤ g.l.length := hj.le
  refine wXR ?_
  refine callR (constant_g t hj.co.1 hj.no hj.co.2 _) fun v hv => ?_
  obtain ⟨b, rfl, hb⟩ := hv
  cases b with
  | true =>
   refine wXR ?_
   refine RwN.known (nodeC t) rfl fun nb => ?_
   refine wXR ?_
   refine call1 (node_c _ _ _ _ _ _) ?_
   refine wXR ?_
   have hg : Gn k.l ⟨48, [], 0, some ⟨nb, 0, none⟩, [t], 1⟩ k.l (1 + 8 * (q3 - p)) 3 := (Gn.q (s := 1 + 8 * (q3 - q)) (d := 2) rfl (.some (Nat.le_refl 1)) (Nat.zero_le _) (by omega) ((hj.gn.le (by show 1 ≤ 1 + 8 * (q3 - q); omega) (by decide))).s).le (by omega) (Nat.le_refl _)
   refine ⟨_, sealG _ _ _ _ _, ⟨⟨48, [], 0, some ⟨nb, 0, none⟩, [t], 1⟩, k, q3, z, _⟩, ⟨.pval1 hj.v (hb rfl), trivial, hg.le (Nat.le_refl _) (by omega), kok, ⟨by show p ≤ q3; omega, by show q3 ≤ _; omega⟩, fun w hw => ⟨hw.1, treeF hg.tk hw.2.1 rfl (one_mem (f0 hj.gn.tk hj.no)), (hA w hw.1).2⟩⟩, rfl, ⟨wkE_refl _, wkE_refl _, wkH_nil _⟩⟩
  | false =>
   refine wXR ?_
   refine call1 (node_c _ _ _ _ _ _) ?_
   refine wXR ?_
   have hg0 : Gn k.l ⟨0, [], 0, none, [], 0⟩ k.l 1 1 := Gn.leaf (d := 0) rfl (Nat.zero_le _)
   refine wXR ?_
   refine RwN.known (nodeC (⟨0, [], 0, none, [], 0⟩ : TP)) rfl fun nb => ?_
   refine wXR ?_
   refine call1 (node_c _ _ _ _ _ _) ?_
   refine wXR ?_
   have hg : Gn k.l ⟨48, [], 0, some ⟨nb, 0, none⟩, [(⟨0, [], 0, none, [], 0⟩ : TP)], 1⟩ k.l (1 + 8 * (q3 - p)) 3 := (Gn.q (s := 1 + 8 * (q3 - q)) (d := 2) rfl (.some (Nat.le_refl 1)) (Nat.zero_le _) (by omega) ((hg0.le (by show 1 ≤ 1 + 8 * (q3 - q); omega) (by decide))).s).le (by omega) (Nat.le_refl _)
   refine ⟨_, sealG _ _ _ _ _, ⟨⟨48, [], 0, some ⟨nb, 0, none⟩, [(⟨0, [], 0, none, [], 0⟩ : TP)], 1⟩, k, q3, z, _⟩, ⟨.pval1 (.bare (.inl rfl)) (.inr (.inr (.inr (.inl rfl)))), trivial, hg.le (Nat.le_refl _) (by omega), kok, ⟨by show p ≤ q3; omega, by show q3 ≤ _; omega⟩, fun w hw => ⟨hw.1, treeF hg.tk hw.2.1 rfl (one_mem (f0 hg0.tk rfl)), (hA w hw.1).2⟩⟩, rfl, ⟨wkE_refl _, wkE_refl _, wkH_nil _⟩⟩
theorem gpat_c : ∀ D, D ≤ 50 → GPatC D
 | 0, _ => gpat_0
 | D + 1, h => gpat_1 D (by omega) (gpat_c D (by omega))
structure GrInv (Q : List TP → Prop) (g : GD) (A : World → Prop) (k : KD) (p d : Nat) (S : Nat → Nat → Nat) (i : SmI) : Prop where
 v : Q i.l
 gs : Gs k.l i.l i.k.l (S i.l.length i.p) d
 kd : KdOk i.k
 le : p ≤ i.p ∧ i.p ≤ g.l.length
 nil : i.ob = none → i.l = []
 cap : i.l.length ≤ i.cap
 f : ∀ w, i.F w → A w ∧ (∀ t ∈ i.l, TreeF w t) ∧ KnF i.k w
theorem GrInv.snoc {Q : List TP → Prop} {g : GD} {A : World → Prop} {k : KD} {p d : Nat} {S : Nat → Nat → Nat} {l : List TP} {ob : Option Nat} {cap : Nat} {k1 : KD} {p1 : Nat} {z : Int} {F : World → Prop} (h : GrInv Q g A k p d S ⟨l, ob, cap, k1, p1, z, F⟩) {t : TP} {k2 : KD} {p2 : Nat} {z2 : Int} {F2 : World → Prop} {s : Nat} (hv : Q l → Q (l ++ [t])) (hg : Gn k1.l t k2.l s d) (hk : KdOk k2) (hl : p1 ≤ p2 ∧ p2 ≤ g.l.length)
  (hS : S l.length p1 + s ≤ S (l.length + 1) p2) (hf : ∀ w, F2 w → F w ∧ TreeF w t ∧ KnF k2 w) {b c : Nat} (hc : l.length + 1 ≤ c) : GrInv Q g A k p d S ⟨l ++ [t], some b, c, k2, p2, z2, F2⟩ where
 v := hv h.v
 gs := (h.gs.snoc hg).le (by show S l.length p1 + s ≤ S (l ++ [t]).length p2; rw [List.length_append]; exact hS) (Nat.le_refl _)
 kd := hk
 le := ⟨Nat.le_trans h.le.1 hl.1, hl.2⟩
 nil := fun h => by cases h
 cap := by show (l ++ [t]).length ≤ c; rw [List.length_append]; exact hc
 f := fun w hw => by
  obtain ⟨h1, h2, h3⟩ := hf w hw
  obtain ⟨h4, h5, _⟩ := h.f w h1
  exact ⟨h4, allV h5 (allC h2 allN), h3⟩
def resL : NL := [[], [101], [120]]
theorem resL_v : ∀ x ∈ resL, x = [] ∨ x ∈ nmL := by decide +kernel
def isBg (s : TP) (l : List TP) : Prop := ∃ rs, l = s :: rs ∧ ∀ t ∈ rs, V .res t
theorem isBg.snoc {s t : TP} (h : V .res t) {l : List TP} : isBg s l → isBg s (l ++ [t]) := fun ⟨rs, e, hr⟩ => ⟨rs ++ [t], by rw [e]; rfl, G_v hr h⟩
theorem seal5 (F0 : World → Prop) (g : GD) (p : Nat) (z : Int) {T U W V : TypeId} {cs ds es : List CV} {sz n cap : Nat} {xs : List Value} {a : Option Addr} (R : List Ent) : TurnS (.fact F0 :: grE g p z :: .blk T cs :: .blk U ds :: .blk W es :: .app V sz xs a n cap :: R) (.fact (fun w => F0 w ∧ Facts R w) :: grE g p z :: .blk T cs :: .blk U ds :: .blk W es :: .app V sz xs a n cap :: R.map fun _ => .dead) :=
 turnS ⟨.inr (.inr ⟨_, rfl, fun _ hw => ⟨hw.1, facts_rest R _ rfl hw.2⟩⟩), .inr (.inl rfl), .inr (.inl rfl), .inr (.inl rfl), .inr (.inl rfl), .inr (.inl rfl), sealed_map _ R⟩
set_option maxHeartbeats 4000000 in
theorem gbegin_c (D : Nat) (hD : D ≤ 50) (hs : SomeC (D + 1)) (hq : SeqC (D + 1)) : NodeKC 39 .ex isAny (D + 1) 9 (4 * (D + 1) + 3) := by
 intro g ok k kok p z hp A hA
 refine ownT hm Tryz.func39 (by kernel_rfl) rfl rfl (fun _ _ => okHB_eq rfl) (fun _ _ => Nat.le_of_ble_eq_true rfl) ?_
 have hlen := ok.len
 refine wX ?_
 refine call1 (node_c _ _ _ _ _ _) ?_
 refine wX ?_
 refine callG (hq g ok k (by assumption) p z hp A hA) [0, 1] rfl ⟨rfl, rfl, trivial⟩ rfl fun j0 hj0 => ?_
 obtain ⟨s0, k0, q0, z0, F0⟩ := j0
 have hls0 : p ≤ q0 ∧ q0 ≤ g.l.length := hj0.le
 have hgq0 : Gn k.l s0 k0.l (1 + 8 * (q0 - p)) (4 * (D + 1)) := hj0.gn
 have hks0 : KdOk k0 := hj0.kd
 have hvs0 : V .ex s0 := hj0.v
 have hos0 : s0.op = 26 := hj0.q
 have hfs0 : ∀ w, F0 w → A w ∧ TreeF w s0 ∧ KnF k0 w := hj0.f
 refine wXR ?_
 refine RwN.known (nodesC [s0]) rfl fun nb => ?_
 refine wXR ?_
 refine callG (pick_c g ok q0 z0 3 ⟨by decide, by decide⟩ hls0.2 F0 (fun w hw => (hA w (hfs0 w hw).1).1)) [0, 1] rfl ⟨rfl, rfl, trivial⟩ rfl fun i hi => ?_
 obtain ⟨m, p1⟩ := i
 obtain ⟨g1, g2, g3, g4⟩ := hi
 have g1 : m < 3 := g1
 have g2 : q0 ≤ p1 := g2
 have g3 : p1 ≤ g.l.length := g3
 have g4 : m ≠ 0 → q0 < p1 := g4
 have g5 : 2 * m ≤ 8 * (p1 - q0) := by
  by_cases h : m = 0
  ·omega
  ·have := g4 h; omega
 refine wXR ?_
 refine LoopN.introS SmI (fun i => GrInv (isBg s0) g A k p (4 * (D + 1) + 1) (fun n q => 1 + 8 * (q0 - p) + 2 * (n - 1) + 8 * (q - p1)) i ∧ i.l.length ≤ m + 1 ∧ 1 ≤ i.l.length ∧ p1 ≤ i.p)
  (fun ⟨l, _, _, k', _, _, _⟩ => mkS Tryz.f39.ntmps 0 [(0, .c (.v (gP g))), (1, .c (.v (.int .i64 ((D + 1 : Nat) : Int)))), (2, .c (.v (knV k'))), (6, .c (.lp 2 0)), (7, .c (.v (.slice none 0 0))), (8, .c (.lp 3 0)), (9, .c (.lp 4 0)), (10, .c (.v (.int .i64 ((m : Int) - ((l.length - 1 : Nat) : Int)))))])
  (fun ⟨l, ob, cap, _, q, z', F⟩ => [.fact F, grE g q z', .blk ndT [.v (.int .i64 0), .v (.string (bs [])), .v (.int .i64 0), .v (.slice none 0 0)], .blk ndT [.v (.int .i64 40), .v (.string (bs [])), .v (.int .i64 0), .v (.slice (at0 ob) l.length cap)], .blk ndT [.any, .any, .any, .any], rowN4 l ob cap])
  (fun i => m + 1 - i.l.length) [] rfl (fun _ => rfl) (fun _ => rfl) (fun _ _ => okHB_eq rfl)
  ⟨⟨[s0], some nb, 1, k0, p1, z0, F0⟩, ⟨⟨⟨[], rfl, fun _ h => by cases h⟩, (hgq0.le (by show 1 + 8 * (q0 - p) ≤ 1 + 8 * (q0 - p) + 2 * ([s0].length - 1) + 8 * (p1 - p1); omega) (by omega)).s, hks0, ⟨Nat.le_trans hls0.1 g2, g3⟩, (fun h => by cases h), Nat.le_refl 1, fun w hw => ⟨(hfs0 w hw).1, one_mem (hfs0 w hw).2.1, (hfs0 w hw).2.2⟩⟩, by show 1 ≤ m + 1; omega, Nat.le_refl 1, Nat.le_refl _⟩, ?_, _, turn_refl _, ⟨wkE_refl _, wkE_refl _, wkE_refl _, wkE_refl _, ⟨rfl, trivial, trivial, trivial, trivial, trivial⟩, wkE_refl _, wkH_nil _⟩⟩ ?_
 ·(repeat' (first | exact trivial | refine And.intro (by with_reducible rfl) ?_ | (with_reducible exact wkC_refl _) | (with_reducible exact wkCs_refl _) | refine And.intro ?_ ?_))
  all_goals first | rfl | exact av_int (by simp)
 rintro ⟨l, ob, cap, k', q1, z', F⟩ ⟨hi, hl1, hl2, hp1⟩
 have hl1 : l.length ≤ m + 1 := hl1
 have hl2 : 1 ≤ l.length := hl2
 have hp1 : p1 ≤ q1 := hp1
 have hcap : l.length ≤ cap := hi.cap
 have hle : p ≤ q1 ∧ q1 ≤ g.l.length := hi.le
 obtain ⟨ob, rfl⟩ : ∃ b, ob = some b := by
  cases ob with
  | none =>
   have h : l = [] := hi.nil rfl
   rw [h] at hl2
   exact absurd hl2 (by show ¬ 1 ≤ 0; decide)
  | some b => exact ⟨b, rfl⟩
 refine wXR ?_
 refine brd_dec (fun h6 => ?_) (fun h6 => ?_)
 ·refine wXR ?_
  refine RwN.known (strsC resL) rfl fun rb => ?_
  refine wXR ?_
  refine SpecH.shut 6 rfl ?_
  refine callG (text_c g ok q1 z' hle.2 F _ (fun w hw => (hA w (hi.f w hw).1).1) (some ⟨rb, 0, none⟩) resL _ ⟨by decide, by decide⟩ rfl (fun w hw => hw)) [0, 1, 6] rfl ⟨rfl, rfl, rfl, trivial⟩ rfl fun i hi2 => ?_
  obtain ⟨x, q2⟩ := i
  obtain ⟨hx, hx2, hx3⟩ := hi2
  have hx : x ∈ resL := hx
  have hx2 : q1 ≤ q2 := hx2
  have hx3 : q2 ≤ g.l.length := hx3
  refine wXR ?_
  refine call1 (node_c _ _ _ _ _ _) ?_
  refine wXR ?_
  refine callG (pick_c g ok q2 z' 3 ⟨by decide, by decide⟩ hx3 F (fun w hw => (hA w (hi.f w hw).1).1)) [0, 1] rfl ⟨rfl, rfl, trivial⟩ rfl fun i hi3 => ?_
  obtain ⟨n, q3⟩ := i
  obtain ⟨j1, j2, j3, j4⟩ := hi3
  have j1 : n < 3 := j1
  have j2 : q2 ≤ q3 := j2
  have j3 : q3 ≤ g.l.length := j3
  have j4 : n ≠ 0 → q2 < q3 := j4
  have j5 : n ≤ 8 * (q3 - q2) := by
   by_cases h : n = 0
   ·omega
   ·have := j4 h; omega
  refine wXR ?_
  refine callG (hs g ok n (by omega) k' hi.kd q3 z' j3 F (fun w hw => ⟨(hA w (hi.f w hw).1).1, (hi.f w hw).2.2⟩)) [0, 1] rfl ⟨rfl, rfl, trivial⟩ rfl fun j hj => ?_
  obtain ⟨l2, ob2, cap2, k4, q4, z4, F4⟩ := j
  obtain ⟨hj, hl3⟩ := hj
  have hl3 : l2.length = n := hl3
  have hle4 : q3 ≤ q4 ∧ q4 ≤ g.l.length := hj.le
  have hq4 := hle4.2
  have hk4 : KdOk k4 := hj.kd
  have hgs4 : Gs k'.l l2 k4.l (l2.length + 8 * (q4 - q3)) (4 * (D + 1) - 1) := hj.gs
  have hf4 : ∀ w, F4 w → F w ∧ (∀ t ∈ l2, TreeF w t) ∧ KnF k4 w := hj.f
  have hcap2 : l2.length ≤ cap2 := hj.cap
  rcases resL_v x hx with rfl | hxn
  ·refine wXR ?_
   refine wX ?_
   refine callG (hq g ok k4 (by assumption) q4 z4 hq4 F4 (fun w hw => ⟨(hA w (hi.f w (hf4 w hw).1).1).1, (hf4 w hw).2.2⟩)) [0, 1] rfl ⟨rfl, rfl, trivial⟩ rfl fun j6 hj6 => ?_
   obtain ⟨s6, k6, q6, z6, F6⟩ := j6
   have hls6 : q4 ≤ q6 ∧ q6 ≤ g.l.length := hj6.le
   have hgq6 : Gn k4.l s6 k6.l (1 + 8 * (q6 - q4)) (4 * (D + 1)) := hj6.gn
   have hks6 : KdOk k6 := hj6.kd
   have hvs6 : V .ex s6 := hj6.v
   have hos6 : s6.op = 26 := hj6.q
   have hfs6 : ∀ w, F6 w → F4 w ∧ TreeF w s6 ∧ KnF k6 w := hj6.f
   refine wX ?_
   try refine Nd.mk ⟨Nat.le_refl 1, rfl, rfl⟩ ?_
   (conv => whnf)
   refine AppN.grow 8 (nodesC l2) (nodeC s6) rfl rfl ⟨Nat.le_refl 1, ⟨by show (l2.length + 1) * 56 ≤ _; omega, by show l2.length + 1 < _; omega⟩, by decide⟩ fun b7 c7 g17 g27 => ?_
   refine wX ?_
   have e17 : nodesC l2 ++ nodeC s6 = nodesC (l2 ++ [s6]) := by rw [nodesC_one, nodesC_app]
   have e27 : l2.length + 1 = (l2 ++ [s6]).length := by simp
   rw [e17, e27]
   try refine Nd.mk ⟨Nat.le_refl 1, rfl, rfl⟩ ?_
   (conv => whnf)
   refine AppN.grow 5 (nodesC l) (nodeC (⟨41, [], 0, some ⟨b7, 0, none⟩, l2 ++ [s6], c7⟩ : TP)) rfl rfl ⟨Nat.le_refl 1, ⟨by show (l.length + 1) * 56 ≤ _; omega, by show l.length + 1 < _; omega⟩, by decide⟩ fun b8 c8 g18 g28 => ?_
   refine wX ?_
   have e18 : nodesC l ++ nodeC (⟨41, [], 0, some ⟨b7, 0, none⟩, l2 ++ [s6], c7⟩ : TP) = nodesC (l ++ [(⟨41, [], 0, some ⟨b7, 0, none⟩, l2 ++ [s6], c7⟩ : TP)]) := by rw [nodesC_one, nodesC_app]
   have e28 : l.length + 1 = (l ++ [(⟨41, [], 0, some ⟨b7, 0, none⟩, l2 ++ [s6], c7⟩ : TP)]).length := by simp
   rw [e18, e28]
   have hg : Gn k'.l ⟨41, [], 0, some ⟨b7, 0, none⟩, l2 ++ [s6], c7⟩ k6.l (2 + 8 * (q6 - q1)) (4 * (D + 1) + 1) := ((Gn.res0 (s := l2.length + 8 * (q4 - q3) + (1 + 8 * (q6 - q4))) (d := 4 * (D + 1)) (.some (by rw [← e27]; exact g17)) (by omega) ((hgs4.le (Nat.le_refl _) (by omega)).snoc hgq6)).le (by omega) (Nat.le_refl _))
   refine ⟨⟨l ++ [⟨41, [], 0, some ⟨b7, 0, none⟩, l2 ++ [s6], c7⟩], some b8, c8, k6, q6, z6, _⟩, ⟨hi.snoc (isBg.snoc (.res (.inl rfl) hj.v hvs6 hos6)) hg hks6 ⟨by omega, hls6.2⟩ (by show 1 + 8 * (q0 - p) + 2 * (l.length - 1) + 8 * (q1 - p1) + (2 + 8 * (q6 - q1)) ≤ 1 + 8 * (q0 - p) + 2 * (l.length + 1 - 1) + 8 * (q6 - p1); omega) (fun w hw => ?_) g18, by show (l ++ [_]).length ≤ m + 1; rw [← e28]; omega, by show 1 ≤ (l ++ [_]).length; rw [← e28]; omega, by show p1 ≤ q6; omega⟩, by show m + 1 - (l ++ [_]).length < m + 1 - l.length; rw [← e28]; omega, ?_, _, seal5 _ _ _ _ _, ⟨wkE_refl _, wkE_refl _, wkE_refl _, wkE_refl _, ⟨rfl, trivial, trivial, trivial, trivial, trivial⟩, wkE_refl _, wkH_nil _⟩⟩
   ·obtain ⟨f1, f2, f3⟩ := hfs6 w hw.1
    have f4 := f1
    exact ⟨(hf4 w f4).1, treeF hg.tk hw.2.2.1 rfl (allV (hf4 w f4).2.1 (allC f2 allN)), f3⟩
   ·exact wKK
  ·have hxe : ((bs x).data.toList == ((⟨#[]⟩ : ByteArray)).data.toList) = false := by
    rw [bs_list]
    have := nmL_ne hxn
    cases x with
    | nil => exact absurd rfl this
    | cons c r => rfl
   refine wXR ?_
   refine brd_intro (fun h7 => ?_) (fun h7 => absurd (h7.symm.trans (congrArg (!·) hxe)) (by decide))
   refine wXR ?_
   refine callG (declared_c g k4 hk4 x hxn q4 z4 F4 (fun w hw => (hf4 w hw).2.2)) [0, 1] rfl ⟨rfl, rfl, trivial⟩ rfl fun j hj5 => ?_
   obtain ⟨k5, F5⟩ := j
   obtain ⟨hk5, hka, hF5⟩ := hj5
   have hka : k5.l = kadd k4.l x := hka
   have hk5 : KdOk k5 := hk5
   have hF5 : ∀ w, F5 w → F4 w ∧ KnF k5 w := hF5
   refine wX ?_
   refine callG (hq g ok k5 (by assumption) q4 z4 hq4 F5 (fun w hw => ⟨(hA w (hi.f w (hf4 w (hF5 w hw).1).1).1).1, (hF5 w hw).2⟩)) [0, 1] rfl ⟨rfl, rfl, trivial⟩ rfl fun j6 hj6 => ?_
   obtain ⟨s6, k6, q6, z6, F6⟩ := j6
   have hls6 : q4 ≤ q6 ∧ q6 ≤ g.l.length := hj6.le
   have hgq6 : Gn k5.l s6 k6.l (1 + 8 * (q6 - q4)) (4 * (D + 1)) := hj6.gn
   have hks6 : KdOk k6 := hj6.kd
   have hvs6 : V .ex s6 := hj6.v
   have hos6 : s6.op = 26 := hj6.q
   have hfs6 : ∀ w, F6 w → F5 w ∧ TreeF w s6 ∧ KnF k6 w := hj6.f
   refine wX ?_
   try refine Nd.mk ⟨Nat.le_refl 1, rfl, rfl⟩ ?_
   (conv => whnf)
   refine AppN.grow 8 (nodesC l2) (nodeC s6) rfl rfl ⟨Nat.le_refl 1, ⟨by show (l2.length + 1) * 56 ≤ _; omega, by show l2.length + 1 < _; omega⟩, by decide⟩ fun b7 c7 g17 g27 => ?_
   refine wX ?_
   have e17 : nodesC l2 ++ nodeC s6 = nodesC (l2 ++ [s6]) := by rw [nodesC_one, nodesC_app]
   have e27 : l2.length + 1 = (l2 ++ [s6]).length := by simp
   rw [e17, e27]
   try refine Nd.mk ⟨Nat.le_refl 1, rfl, rfl⟩ ?_
   (conv => whnf)
   refine AppN.grow 5 (nodesC l) (nodeC (⟨41, x, 0, some ⟨b7, 0, none⟩, l2 ++ [s6], c7⟩ : TP)) rfl rfl ⟨Nat.le_refl 1, ⟨by show (l.length + 1) * 56 ≤ _; omega, by show l.length + 1 < _; omega⟩, by decide⟩ fun b8 c8 g18 g28 => ?_
   refine wX ?_
   have e18 : nodesC l ++ nodeC (⟨41, x, 0, some ⟨b7, 0, none⟩, l2 ++ [s6], c7⟩ : TP) = nodesC (l ++ [(⟨41, x, 0, some ⟨b7, 0, none⟩, l2 ++ [s6], c7⟩ : TP)]) := by rw [nodesC_one, nodesC_app]
   have e28 : l.length + 1 = (l ++ [(⟨41, x, 0, some ⟨b7, 0, none⟩, l2 ++ [s6], c7⟩ : TP)]).length := by simp
   rw [e18, e28]
   have hg : Gn k'.l ⟨41, x, 0, some ⟨b7, 0, none⟩, l2 ++ [s6], c7⟩ k6.l (2 + 8 * (q6 - q1)) (4 * (D + 1) + 1) := ((Gn.res (s := l2.length + 8 * (q4 - q3) + (1 + 8 * (q6 - q4))) (d := 4 * (D + 1)) hxn (.some (by rw [← e27]; exact g17)) (by omega) (hgs4.le (Nat.le_refl _) (by omega)) (by rw [← hka]; exact hgq6) (Nat.le_refl _)).le (by omega) (Nat.le_refl _))
   refine ⟨⟨l ++ [⟨41, x, 0, some ⟨b7, 0, none⟩, l2 ++ [s6], c7⟩], some b8, c8, k6, q6, z6, _⟩, ⟨hi.snoc (isBg.snoc (.res (.inr (nmL_lo x hxn)) hj.v hvs6 hos6)) hg hks6 ⟨by omega, hls6.2⟩ (by show 1 + 8 * (q0 - p) + 2 * (l.length - 1) + 8 * (q1 - p1) + (2 + 8 * (q6 - q1)) ≤ 1 + 8 * (q0 - p) + 2 * (l.length + 1 - 1) + 8 * (q6 - p1); omega) (fun w hw => ?_) g18, by show (l ++ [_]).length ≤ m + 1; rw [← e28]; omega, by show 1 ≤ (l ++ [_]).length; rw [← e28]; omega, by show p1 ≤ q6; omega⟩, by show m + 1 - (l ++ [_]).length < m + 1 - l.length; rw [← e28]; omega, ?_, _, seal5 _ _ _ _ _, ⟨wkE_refl _, wkE_refl _, wkE_refl _, wkE_refl _, ⟨rfl, trivial, trivial, trivial, trivial, trivial⟩, wkE_refl _, wkH_nil _⟩⟩
   ·obtain ⟨f1, f2, f3⟩ := hfs6 w hw.1
    have f4 := (hF5 w f1).1
    exact ⟨(hf4 w f4).1, treeF hg.tk hw.2.2.1 rfl (allV (hf4 w f4).2.1 (allC f2 allN)), f3⟩
   ·exact wKK
 ·have hlm : l.length = m + 1 := by omega
  obtain ⟨rs, hrs, hvr⟩ := hi.v
  have hrs : l = s0 :: rs := hrs
  refine wXR ?_
  refine brd_eq (fun h7 => ?_) (fun h7 => ?_)
  ·-- an Ensure; q1 hle.2: numbers, why
   have hki := hi.kd
   refine wX ?_
   refine callG (hq g ok k' (by assumption) q1 z' hle.2 F (fun w hw => ⟨(hA w (hi.f w hw).1).1, (hi.f w hw).2.2⟩)) [0, 1] rfl ⟨rfl, rfl, trivial⟩ rfl fun j6 hj6 => ?_
   obtain ⟨s6, k6, q6, z6, F6⟩ := j6
   have hls6 : q1 ≤ q6 ∧ q6 ≤ g.l.length := hj6.le
   have hgq6 : Gn k'.l s6 k6.l (1 + 8 * (q6 - q1)) (4 * (D + 1)) := hj6.gn
   have hks6 : KdOk k6 := hj6.kd
   have hvs6 : V .ex s6 := hj6.v
   have hos6 : s6.op = 26 := hj6.q
   have hfs6 : ∀ w, F6 w → F w ∧ TreeF w s6 ∧ KnF k6 w := hj6.f
   refine wXR ?_
   refine DrawN.plan [0] [(1, 1), (2, 1), (3, 0), (4, 0), (5, 0)] [(6, 0), (7, 0), (8, 0)] (by decide +kernel) ?_
   refine wXR ?_
   refine RwN.known (nodeC s6) rfl fun eb => ?_
   refine wXR ?_
   refine call1 (node_c _ _ _ _ _ _) ?_
   refine wXR ?_
   refine RwN.own ?_
   refine wX ?_
   have hge : Gn k'.l ⟨42, [], 0, some ⟨eb, 0, none⟩, [s6], 1⟩ k6.l (2 + 8 * (q6 - q1)) (4 * (D + 1) + 1) := (Gn.q (s := 1 + 8 * (q6 - q1)) (d := 4 * (D + 1)) rfl (.some (Nat.le_refl 1)) (Nat.zero_le _) (by omega) hgq6.s).le (by omega) (Nat.le_refl _)
   try refine Nd.mk ⟨Nat.le_refl 1, rfl, rfl⟩ ?_
   (conv => whnf)
   refine AppN.grow 5 (nodesC l) (nodeC (⟨42, [], 0, some ⟨eb, 0, none⟩, [s6], 1⟩ : TP)) rfl rfl ⟨Nat.le_refl 1, ⟨by show (l.length + 1) * 56 ≤ _; omega, by show l.length + 1 < _; omega⟩, by decide⟩ fun b8 c8 g18 g28 => ?_
   refine wX ?_
   have e18 : nodesC l ++ nodeC (⟨42, [], 0, some ⟨eb, 0, none⟩, [s6], 1⟩ : TP) = nodesC (l ++ [(⟨42, [], 0, some ⟨eb, 0, none⟩, [s6], 1⟩ : TP)]) := by rw [nodesC_one, nodesC_app]
   have e28 : l.length + 1 = (l ++ [(⟨42, [], 0, some ⟨eb, 0, none⟩, [s6], 1⟩ : TP)]).length := by simp
   rw [e18, e28]
   have hg : Gn k.l ⟨40, [], 0, some ⟨b8, 0, none⟩, l ++ [⟨42, [], 0, some ⟨eb, 0, none⟩, [s6], 1⟩], c8⟩ k6.l (9 + 8 * (q6 - p)) (4 * (D + 1) + 3) := (Gn.q (s := 1 + 8 * (q0 - p) + 2 * (l.length - 1) + 8 * (q1 - p1) + (2 + 8 * (q6 - q1))) (d := 4 * (D + 1) + 1) rfl (.some (by rw [← e28]; exact g18)) (Nat.zero_le _) (by omega) (Gs.snoc hi.gs hge)).le (by omega) (by omega)
   refine ⟨_, sealG _ _ _ _ _, ⟨⟨40, [], 0, some ⟨b8, 0, none⟩, l ++ [⟨42, [], 0, some ⟨eb, 0, none⟩, [s6], 1⟩], c8⟩, k6, q6, z6, _⟩, ⟨by rw [hrs]; exact V.begin (e := [⟨42, [], 0, some ⟨eb, 0, none⟩, [s6], 1⟩]) hvs0 hos0 hvr (one_mem (.ens hvs6 hos6)) (Nat.le_refl 1) (Nat.le_add_left _ _), trivial, hg, hks6, ⟨by show p ≤ q6; omega, hls6.2⟩, fun w hw => ?_⟩, rfl, ⟨wkE_refl _, wkE_refl _, wkH_nil _⟩⟩
   obtain ⟨f1, f2, f3⟩ := hfs6 w hw.1
   obtain ⟨f4, f5, f6⟩ := hi.f w f1
   exact ⟨f4, treeF hg.tk hw.2.1 rfl (allV f5 (one_mem (treeF hge.tk hw.2.2.1 rfl (one_mem f2)))), f3⟩
  ·refine wXR ?_
   refine callG (pick_c g ok q1 z' 2 ⟨by decide, by decide⟩ hle.2 F (fun w hw => (hA w (hi.f w hw).1).1)) [0, 1] rfl ⟨rfl, rfl, trivial⟩ rfl fun i hi3 => ?_
   obtain ⟨y, q2⟩ := i
   obtain ⟨_, j2, j3, _⟩ := hi3
   have j2 : q1 ≤ q2 := j2
   have j3 : q2 ≤ g.l.length := j3
   refine wXR ?_
   refine brd_eq (fun h8 => ?_) (fun h8 => ?_)
   ·-- an Ensure; q2 j3: numbers, why
    have hki := hi.kd
    refine wX ?_
    refine callG (hq g ok k' (by assumption) q2 z' j3 F (fun w hw => ⟨(hA w (hi.f w hw).1).1, (hi.f w hw).2.2⟩)) [0, 1] rfl ⟨rfl, rfl, trivial⟩ rfl fun j6 hj6 => ?_
    obtain ⟨s6, k6, q6, z6, F6⟩ := j6
    have hls6 : q2 ≤ q6 ∧ q6 ≤ g.l.length := hj6.le
    have hgq6 : Gn k'.l s6 k6.l (1 + 8 * (q6 - q2)) (4 * (D + 1)) := hj6.gn
    have hks6 : KdOk k6 := hj6.kd
    have hvs6 : V .ex s6 := hj6.v
    have hos6 : s6.op = 26 := hj6.q
    have hfs6 : ∀ w, F6 w → F w ∧ TreeF w s6 ∧ KnF k6 w := hj6.f
    refine wXR ?_
    refine DrawN.plan [0] [(1, 1), (2, 1), (3, 0), (4, 0), (5, 0)] [(6, 0), (7, 0), (8, 0)] (by decide +kernel) ?_
    refine wXR ?_
    refine RwN.known (nodeC s6) rfl fun eb => ?_
    refine wXR ?_
    refine call1 (node_c _ _ _ _ _ _) ?_
    refine wXR ?_
    refine RwN.own ?_
    refine wX ?_
    have hge : Gn k'.l ⟨42, [], 0, some ⟨eb, 0, none⟩, [s6], 1⟩ k6.l (2 + 8 * (q6 - q2)) (4 * (D + 1) + 1) := (Gn.q (s := 1 + 8 * (q6 - q2)) (d := 4 * (D + 1)) rfl (.some (Nat.le_refl 1)) (Nat.zero_le _) (by omega) hgq6.s).le (by omega) (Nat.le_refl _)
    try refine Nd.mk ⟨Nat.le_refl 1, rfl, rfl⟩ ?_
    (conv => whnf)
    refine AppN.grow 5 (nodesC l) (nodeC (⟨42, [], 0, some ⟨eb, 0, none⟩, [s6], 1⟩ : TP)) rfl rfl ⟨Nat.le_refl 1, ⟨by show (l.length + 1) * 56 ≤ _; omega, by show l.length + 1 < _; omega⟩, by decide⟩ fun b8 c8 g18 g28 => ?_
    refine wX ?_
    have e18 : nodesC l ++ nodeC (⟨42, [], 0, some ⟨eb, 0, none⟩, [s6], 1⟩ : TP) = nodesC (l ++ [(⟨42, [], 0, some ⟨eb, 0, none⟩, [s6], 1⟩ : TP)]) := by rw [nodesC_one, nodesC_app]
    have e28 : l.length + 1 = (l ++ [(⟨42, [], 0, some ⟨eb, 0, none⟩, [s6], 1⟩ : TP)]).length := by simp
    rw [e18, e28]
    have hg : Gn k.l ⟨40, [], 0, some ⟨b8, 0, none⟩, l ++ [⟨42, [], 0, some ⟨eb, 0, none⟩, [s6], 1⟩], c8⟩ k6.l (9 + 8 * (q6 - p)) (4 * (D + 1) + 3) := (Gn.q (s := 1 + 8 * (q0 - p) + 2 * (l.length - 1) + 8 * (q1 - p1) + (2 + 8 * (q6 - q2))) (d := 4 * (D + 1) + 1) rfl (.some (by rw [← e28]; exact g18)) (Nat.zero_le _) (by omega) (Gs.snoc hi.gs hge)).le (by omega) (by omega)
    refine ⟨_, sealG _ _ _ _ _, ⟨⟨40, [], 0, some ⟨b8, 0, none⟩, l ++ [⟨42, [], 0, some ⟨eb, 0, none⟩, [s6], 1⟩], c8⟩, k6, q6, z6, _⟩, ⟨by rw [hrs]; exact V.begin (e := [⟨42, [], 0, some ⟨eb, 0, none⟩, [s6], 1⟩]) hvs0 hos0 hvr (one_mem (.ens hvs6 hos6)) (Nat.le_refl 1) (Nat.le_add_left _ _), trivial, hg, hks6, ⟨by show p ≤ q6; omega, hls6.2⟩, fun w hw => ?_⟩, rfl, ⟨wkE_refl _, wkE_refl _, wkH_nil _⟩⟩
    obtain ⟨f1, f2, f3⟩ := hfs6 w hw.1
    obtain ⟨f4, f5, f6⟩ := hi.f w f1
    exact ⟨f4, treeF hg.tk hw.2.1 rfl (allV f5 (one_mem (treeF hge.tk hw.2.2.1 rfl (one_mem f2)))), f3⟩
   ·refine wXR ?_
    have hrl : 1 ≤ rs.length := by
     rw [hrs] at h7
     have h7 : ¬ ((rs.length + 1 : Nat) : Int) = 1 := h7
     omega
    have hg : Gn k.l ⟨40, [], 0, some ⟨ob, 0, none⟩, l, cap⟩ k'.l (9 + 8 * (q2 - p)) (4 * (D + 1) + 3) := (Gn.q (s := 1 + 8 * (q0 - p) + 2 * (l.length - 1) + 8 * (q1 - p1)) (d := 4 * (D + 1) + 1) rfl (.some hcap) (Nat.zero_le _) (by omega) hi.gs).le (by omega) (by omega)
    refine ⟨_, sealG _ _ _ _ _, ⟨⟨40, [], 0, some ⟨ob, 0, none⟩, l, cap⟩, k', q2, z', _⟩, ⟨by rw [hrs, ← List.append_nil rs]; exact V.begin (e := []) hvs0 hos0 hvr (fun _ h => by cases h) (Nat.zero_le _) (by simpa using hrl), trivial, hg, hi.kd, ⟨by show p ≤ q2; omega, j3⟩, fun w hw => ?_⟩, rfl, ⟨wkE_refl _, wkE_refl _, wkH_nil _⟩⟩
    obtain ⟨f1, f2, f3⟩ := hi.f w hw.1
    exact ⟨f1, treeF hg.tk hw.2.1 rfl f2, f3⟩
def isCs (d : Bool) (s : TP) (l : List TP) : Prop := ∃ rs, l = s :: rs ∧ ∀ t ∈ rs, V (.inn d) t
theorem isCs.snoc {d : Bool} {s t : TP} (h : V (.inn d) t) {l : List TP} : isCs d s l → isCs d s (l ++ [t]) := fun ⟨rs, e, hr⟩ => ⟨rs ++ [t], by rw [e]; rfl, G_v hr h⟩
theorem len_two {α : Type} : ∀ {l : List α}, l.length = 2 → ∃ a b, l = [a, b]
 | [a, b], _ => ⟨a, b, rfl⟩
theorem pvals {k k' : NL} {t u : TP} {s d d2 s2 : Nat} (h : Gs k [t, u] k' s d) (hs : s ≤ s2) (hd : d + 1 ≤ d2) {pb pb2 : Addr} : Gs k [⟨48, [], 0, some pb, [t], 1⟩, ⟨48, [], 0, some pb2, [u], 1⟩] k' (s2 + 2) d2 := by
 have hk : ∀ (b : Addr) (v : TP) ch nm, wk ⟨48, [], 0, some b, [v], 1⟩ ch nm = wks [v] ch nm := fun b v ch nm => wk_plain (by decide) ch nm
 have h1 : ∀ (b : Addr) (v : TP) ch nm, (wks [v] ch nm).nm = (wk v ch nm).nm ∧ (wks [v] ch nm).un = (wk v ch nm).un := fun b v ch nm => ⟨rfl, Bool.or_false _⟩
 have hz := h.sz
 have hdp := h.dp
 have ht := h.tk t (List.mem_cons_self ..)
 have hu := h.tk u (List.mem_cons_of_mem _ (List.mem_singleton.2 rfl))
 simp only [szs, dps] at hz hdp
 refine ⟨fun ch nm hc hv => ?_, ?_, ?_, fun x hx => h.hn x ?_, two_mem ?_ ?_⟩
 ·obtain ⟨a1, a2⟩ := h.kn ch nm hc hv
  have e1 : (wks [⟨48, [], 0, some pb, [t], 1⟩, ⟨48, [], 0, some pb2, [u], 1⟩] ch nm).un = (wks [t, u] ch nm).un ∧ (wks [⟨48, [], 0, some pb, [t], 1⟩, ⟨48, [], 0, some pb2, [u], 1⟩] ch nm).nm = (wks [t, u] ch nm).nm := by
   simp [wks, WR.cat, hk]
  rw [e1.1, e1.2]
  exact ⟨a1, a2⟩
 ·simp only [szs, TP.sz]
  omega
 ·simp only [dps, TP.dp]
  omega
 ·simpa [hns, hn, own, hld] using hx
 ·exact treeK (.some (Nat.le_refl 1)) (by show 1 ≤ _; decide) (Nat.zero_le _) (one_mem ht)
 ·exact treeK (.some (Nat.le_refl 1)) (by show 1 ≤ _; decide) (Nat.zero_le _) (one_mem hu)
set_option maxHeartbeats 4000000 in
theorem gmatch_c (D : Nat) (hD : D ≤ 50) (ih : ExprC D) (hs : SomeC (D + 1)) (hq : SeqC (D + 1)) (hpt : GPatC (D + 1)) : NodeKC 38 .ex isAny (D + 1) 9 (4 * (D + 1) + 3) := by
 intro g ok k kok p z hp A hA
 refine ownT hm Tryz.func38 (by kernel_rfl) rfl rfl (fun _ _ => okHB_eq rfl) (fun _ _ => Nat.le_of_ble_eq_true rfl) ?_
 have hlen := ok.len
 refine wX ?_
 refine call1 (node_c _ _ _ _ _ _) ?_
 refine wX ?_
 refine callG (pick_c g ok p z 2 ⟨by decide, by decide⟩ hp A (fun w hw => (hA w hw).1)) [0, 1] rfl ⟨rfl, rfl, trivial⟩ rfl fun i hi => ?_
 obtain ⟨y, pa⟩ := i
 obtain ⟨a1, a2, a3, _⟩ := hi
 have a1 : y < 2 := a1
 have a2 : p ≤ pa := a2
 have a3 : pa ≤ g.l.length := a3
 refine wX ?_
 refine callG (hs g ok 1 (by decide) k kok pa z a3 A hA) [0, 1] rfl ⟨rfl, rfl, trivial⟩ rfl fun i hi0 => ?_
 obtain ⟨l0, ob0, cap0, k0, q0, z0, F0⟩ := i
 obtain ⟨hi0, hl0⟩ := hi0
 have hl0 : l0.length = 1 := hl0
 obtain ⟨t0, rfl⟩ := List.length_eq_one_iff.1 hl0
 obtain ⟨b0, rfl⟩ : ∃ b, ob0 = some b := by
  cases ob0 with
  | none => exact absurd (hi0.nil rfl) (by simp)
  | some b => exact ⟨b, rfl⟩
 have hcap0 : 1 ≤ cap0 := hi0.cap
 have hle00 : pa ≤ q0 ∧ q0 ≤ g.l.length := hi0.le
 have hle0 : p ≤ q0 ∧ q0 ≤ g.l.length := ⟨by omega, hle00.2⟩
 have hk0 : KdOk k0 := hi0.kd
 have hv0 : V .ex t0 := hi0.v t0 (List.mem_singleton.2 rfl)
 have hg0 : Gn k.l t0 k0.l (1 + 8 * (q0 - p)) (4 * (D + 1) - 1) := (Gs.un (s := 1 + 8 * (q0 - pa)) hi0.gs).le (by omega) (Nat.le_refl _)
 rcases (by omega : y = 0 ∨ y = 1) with rfl | rfl
 ·-- 0: the number
  refine wXR ?_
  refine callG (pick_c g ok q0 z0 2 ⟨by decide, by decide⟩ hle0.2 F0 (fun w hw => (hA w (hi0.f w hw).1).1)) [0, 1] rfl ⟨rfl, rfl, trivial⟩ rfl fun i hi => ?_
  obtain ⟨m, p1⟩ := i
  obtain ⟨g1, g2, g3, g4⟩ := hi
  have g1 : m < 2 := g1
  have g2 : q0 ≤ p1 := g2
  have g3 : p1 ≤ g.l.length := g3
  have g4 : m ≠ 0 → q0 < p1 := g4
  have g5 : 4 * m ≤ 8 * (p1 - q0) := by
   by_cases h : m = 0
   ·omega
   ·have := g4 h; omega
  have hmw : IntKind.i64.wrap (1 + (m : Int)) = ((1 + m : Nat) : Int) := by rw [wrap_i64 (by omega)]; omega
  (conv => whnf)
  refine VrN.norm hmw ?_
  refine wXR ?_
  refine LoopN.introS SmI (fun i => GrInv (isCs false t0) g A k p (4 * (D + 1) + 2) (fun n q => 1 + 8 * (q0 - p) + 4 * (n - 1) + 8 * (q - p1)) i ∧ i.l.length ≤ 1 + m + 1 ∧ 1 ≤ i.l.length ∧ p1 ≤ i.p)
   (fun ⟨l, _, _, k', _, _, _⟩ => mkS Tryz.f38.ntmps 0 [(0, .c (.v (gP g))), (1, .c (.v (.int .i64 ((D + 1 : Nat) : Int)))), (2, .c (.v (knV k'))), (6, .c (.lp 2 0)), (7, .c (.v (.slice none 0 0))), (8, .c (.lp 3 0)), (9, .c (.v (.int .i64 (((1 + m : Nat) : Int) - ((l.length - 1 : Nat) : Int)))))])
   (fun ⟨l, ob, cap, _, q, z', F⟩ => [.fact F, grE g q z', .blk ndT [.v (.int .i64 0), .v (.string (bs [])), .v (.int .i64 0), .v (.slice none 0 0)], .blk ndT [.v (.int .i64 46), .v (.string (bs [])), .v (.int .i64 0), .v (.slice (at0 ob) l.length cap)], rowN4 l ob cap])
   (fun i => m + 2 - i.l.length) [] rfl (fun _ => rfl) (fun _ => rfl) (fun _ _ => okHB_eq rfl)
   ⟨⟨[t0], some b0, cap0, k0, p1, z0, F0⟩, ⟨⟨⟨[], rfl, fun _ h => by cases h⟩, (hg0.le (by show 1 + 8 * (q0 - p) ≤ 1 + 8 * (q0 - p) + 4 * ([t0].length - 1) + 8 * (p1 - p1); omega) (by omega)).s, hk0, ⟨Nat.le_trans hle0.1 g2, g3⟩, (fun h => by cases h), hcap0, fun w hw => hi0.f w hw⟩, by show 1 ≤ 1 + m + 1; omega, Nat.le_refl 1, Nat.le_refl _⟩, ?_, _, turn_refl _, ⟨wkE_refl _, wkE_refl _, wkE_refl _, wkE_refl _, wkE_refl _, wkH_nil _⟩⟩ ?_
  ·(repeat' (first | exact trivial | refine And.intro (by with_reducible rfl) ?_ | (with_reducible exact wkC_refl _) | (with_reducible exact wkCs_refl _) | refine And.intro ?_ ?_))
   all_goals first | rfl | exact av_int (by simp)
  rintro ⟨l, ob, cap, k', q1, z', F⟩ ⟨hi, hl1, hl2, hp1⟩
  have hl1 : l.length ≤ 1 + m + 1 := hl1
  have hl2 : 1 ≤ l.length := hl2
  have hp1 : p1 ≤ q1 := hp1
  have hcap : l.length ≤ cap := hi.cap
  have hle : p ≤ q1 ∧ q1 ≤ g.l.length := hi.le
  have hk' : KdOk k' := hi.kd
  have hAF : ∀ w, F w → NumF g w ∧ KnF k' w := fun w hw => ⟨(hA w (hi.f w hw).1).1, (hi.f w hw).2.2⟩
  obtain ⟨ob, rfl⟩ : ∃ b, ob = some b := by
   cases ob with
   | none =>
    have h : l = [] := hi.nil rfl
    rw [h] at hl2
    exact absurd hl2 (by show ¬ 1 ≤ 0; decide)
   | some b => exact ⟨b, rfl⟩
  refine wXR ?_
  refine brd_dec (fun h6 => ?_) (fun h6 => ?_)
  ·refine wXR ?_
   refine call1 (node_c _ _ _ _ _ _) ?_
   refine wXR ?_
   refine callG (pick_c g ok q1 z' 2 ⟨by decide, by decide⟩ hle.2 F (fun w hw => (hAF w hw).1)) [0, 1] rfl ⟨rfl, rfl, trivial⟩ rfl fun i hi3 => ?_
   obtain ⟨c, q2⟩ := i
   obtain ⟨j1, j2, j3, j4⟩ := hi3
   have j1 : c < 2 := j1
   have j2 : q1 ≤ q2 := j2
   have j3 : q2 ≤ g.l.length := j3
   have j4 : c ≠ 0 → q1 < q2 := j4
   have hcw : IntKind.i64.wrap (1 + (c : Int)) = ((1 + c : Nat) : Int) := by rw [wrap_i64 (by omega)]; omega
   refine wXR ?_
   refine SpecH.args (args' := pvs [gP g, .int .i64 ((1 + c : Nat) : Int), .int .i64 ((D + 1 : Nat) : Int), knV k']) (by show pvs [gP g, .int .i64 (IntKind.i64.wrap (1 + (c : Int))), .int .i64 ((D + 1 : Nat) : Int), knV k'] = _; rw [hcw]) ?_
   refine callG (hs g ok (1 + c) (by omega) k' hk' q2 z' j3 F hAF) [0, 1] rfl ⟨rfl, rfl, trivial⟩ rfl fun j hj => ?_
   obtain ⟨l2, ob2, cap2, k2, q3, z2, F2⟩ := j
   obtain ⟨hj, hl2'⟩ := hj
   have hl2' : l2.length = 1 + c := hl2'
   have hle2 : q2 ≤ q3 ∧ q3 ≤ g.l.length := hj.le
   have hk2 : KdOk k2 := hj.kd
   have hgs2 : Gs k'.l l2 k2.l (l2.length + 8 * (q3 - q2)) (4 * (D + 1) - 1) := hj.gs
   have hf2 : ∀ w, F2 w → F w ∧ (∀ t ∈ l2, TreeF w t) ∧ KnF k2 w := hj.f
   have hv2 : ∀ t ∈ l2, V .ex t := hj.v
   have hAF2 : ∀ w, F2 w → NumF g w ∧ KnF k2 w := fun w hw => ⟨(hAF w (hf2 w hw).1).1, (hf2 w hw).2.2⟩
   have hsa2 : (at0 ob2).isSome = true := isT (i := 0) (at0_nil hj.nil) (List.getElem?_eq_getElem (by show 0 < l2.length; omega))
   obtain ⟨t1, ht1⟩ : ∃ t, l2[0]? = some t := ⟨_, List.getElem?_eq_getElem (by omega)⟩
   refine wXR ?_
   refine Nd.mk ⟨hsa2, by omega, by show (0 : Int) < (l2.length : Int); omega⟩ ?_
   refine wXR ?_
   refine LdN.agg (nodeC t1) rfl (fun w hw => hw.2.2.2.1) rfl (fun j hj => nodesC_get l2 0 j hj ht1) ?_
   refine wXR ?_
   refine RwN.known (nodesC [t1]) rfl fun pb => ?_
   refine wXR ?_
   refine call1 (node_c _ _ _ _ _ _) ?_
   refine wXR ?_
   refine brd_dec (fun h7 => ?_) (fun h7 => ?_)
   ·have h7 : (l2.length : Int) > 1 := h7
    have j5 := j4 (by omega)
    obtain ⟨t1', t2, rfl⟩ := len_two (show l2.length = 2 by omega)
    obtain rfl : t1' = t1 := Option.some.inj ht1
    refine wXR ?_
    refine DrawN.plan [1] [(0, 1), (2, 1), (3, 1), (4, 0), (5, 0), (6, 0), (7, 0)] [(8, 0)] (by decide +kernel) ?_
    refine wXR ?_
    refine Nd.mk ⟨hsa2, by omega, by show (1 : Int) < 2; decide⟩ ?_
    refine wXR ?_
    refine LdN.agg (nodeC t2) rfl (fun w hw => hw.2.2.2.1) rfl (fun j hj => nodesC_get [t1', t2] 1 j hj rfl) ?_
    refine wXR ?_
    refine RwN.known (nodesC [t2]) rfl fun pb2 => ?_
    refine wXR ?_
    refine call1 (node_c _ _ _ _ _ _) ?_
    refine wXR ?_
    refine RwN.known (nodesC [⟨48, [], 0, some ⟨pb, 0, none⟩, [t1'], 1⟩, ⟨48, [], 0, some ⟨pb2, 0, none⟩, [t2], 1⟩]) rfl fun ab => ?_
    refine wXR ?_
    refine call1 (node_c _ _ _ _ _ _) ?_
    have hv1 := hv2 t1' (List.mem_cons_self ..)
    have hv3 := hv2 t2 (List.mem_cons_of_mem _ (List.mem_singleton.2 rfl))
    have hgP1 : Gs k'.l [⟨48, [], 0, some ⟨pb, 0, none⟩, [t1'], 1⟩, ⟨48, [], 0, some ⟨pb2, 0, none⟩, [t2], 1⟩] k2.l (4 + 8 * (q3 - q2)) (4 * (D + 1)) := (pvals (s2 := 2 + 8 * (q3 - q2)) hgs2 (Nat.le_refl _) (by omega)).le (by omega) (Nat.le_refl _)
    have hgP : Gn k'.l ⟨53, [], 0, some ⟨ab, 0, none⟩, [⟨48, [], 0, some ⟨pb, 0, none⟩, [t1'], 1⟩, ⟨48, [], 0, some ⟨pb2, 0, none⟩, [t2], 1⟩], 2⟩ k2.l (2 + 8 * (q3 - q1)) (4 * (D + 1) + 1) := (Gn.q (s := 4 + 8 * (q3 - q2)) (d := 4 * (D + 1)) rfl (.some (Nat.le_refl 2)) (Nat.zero_le _) (by omega) hgP1).le (by omega) (by omega)
    have hvP : V (.pat false) ⟨53, [], 0, some ⟨ab, 0, none⟩, [⟨48, [], 0, some ⟨pb, 0, none⟩, [t1'], 1⟩, ⟨48, [], 0, some ⟨pb2, 0, none⟩, [t2], 1⟩], 2⟩ := .palt0 (two_mem (.pval0 hv1) (.pval0 hv3)) (two_mem rfl rfl) (Nat.le_refl 2)
    refine wXR ?_
    refine RwN.known (nodesC [(⟨53, [], 0, some ⟨ab, 0, none⟩, [⟨48, [], 0, some ⟨pb, 0, none⟩, [t1'], 1⟩, ⟨48, [], 0, some ⟨pb2, 0, none⟩, [t2], 1⟩], 2⟩ : TP)]) rfl fun ib => ?_
    refine wX ?_
    refine callG (hq g ok k2 (by assumption) q3 z2 hle2.2 F2 hAF2) [0, 1] rfl ⟨rfl, rfl, trivial⟩ rfl fun j6 hj6 => ?_
    obtain ⟨s6, k6, q6, z6, F6⟩ := j6
    have hls6 : q3 ≤ q6 ∧ q6 ≤ g.l.length := hj6.le
    have hgq6 : Gn k2.l s6 k6.l (1 + 8 * (q6 - q3)) (4 * (D + 1)) := hj6.gn
    have hks6 : KdOk k6 := hj6.kd
    have hvs6 : V .ex s6 := hj6.v
    have hos6 : s6.op = 26 := hj6.q
    have hfs6 : ∀ w, F6 w → F2 w ∧ TreeF w s6 ∧ KnF k6 w := hj6.f
    refine wX ?_
    try refine Nd.mk ⟨Nat.le_refl 1, rfl, rfl⟩ ?_
    (conv => whnf)
    refine AppN.grow 12 (nodesC [(⟨53, [], 0, some ⟨ab, 0, none⟩, [⟨48, [], 0, some ⟨pb, 0, none⟩, [t1'], 1⟩, ⟨48, [], 0, some ⟨pb2, 0, none⟩, [t2], 1⟩], 2⟩ : TP)]) (nodeC s6) rfl rfl ⟨Nat.le_refl 1, ⟨by show ([(⟨53, [], 0, some ⟨ab, 0, none⟩, [⟨48, [], 0, some ⟨pb, 0, none⟩, [t1'], 1⟩, ⟨48, [], 0, some ⟨pb2, 0, none⟩, [t2], 1⟩], 2⟩ : TP)].length + 1) * 56 ≤ _; (try simp only [List.length_cons, List.length_nil]); omega, by show [(⟨53, [], 0, some ⟨ab, 0, none⟩, [⟨48, [], 0, some ⟨pb, 0, none⟩, [t1'], 1⟩, ⟨48, [], 0, some ⟨pb2, 0, none⟩, [t2], 1⟩], 2⟩ : TP)].length + 1 < _; (try simp only [List.length_cons, List.length_nil]); omega⟩, by decide⟩ fun b7 c7 g17 g27 => ?_
    refine wX ?_
    have e17 : nodesC [(⟨53, [], 0, some ⟨ab, 0, none⟩, [⟨48, [], 0, some ⟨pb, 0, none⟩, [t1'], 1⟩, ⟨48, [], 0, some ⟨pb2, 0, none⟩, [t2], 1⟩], 2⟩ : TP)] ++ nodeC s6 = nodesC ([(⟨53, [], 0, some ⟨ab, 0, none⟩, [⟨48, [], 0, some ⟨pb, 0, none⟩, [t1'], 1⟩, ⟨48, [], 0, some ⟨pb2, 0, none⟩, [t2], 1⟩], 2⟩ : TP)] ++ [s6]) := by rw [nodesC_one, nodesC_app]
    have e27 : [(⟨53, [], 0, some ⟨ab, 0, none⟩, [⟨48, [], 0, some ⟨pb, 0, none⟩, [t1'], 1⟩, ⟨48, [], 0, some ⟨pb2, 0, none⟩, [t2], 1⟩], 2⟩ : TP)].length + 1 = ([(⟨53, [], 0, some ⟨ab, 0, none⟩, [⟨48, [], 0, some ⟨pb, 0, none⟩, [t1'], 1⟩, ⟨48, [], 0, some ⟨pb2, 0, none⟩, [t2], 1⟩], 2⟩ : TP)] ++ [s6]).length := by simp
    try refine Nd.mk ⟨Nat.le_refl 1, rfl, rfl⟩ ?_
    (conv => whnf)
    refine AppN.grow 4 (nodesC l) (nodeC (⟨47, [], 0, some ⟨b7, 0, none⟩, [(⟨53, [], 0, some ⟨ab, 0, none⟩, [⟨48, [], 0, some ⟨pb, 0, none⟩, [t1'], 1⟩, ⟨48, [], 0, some ⟨pb2, 0, none⟩, [t2], 1⟩], 2⟩ : TP), s6], c7⟩ : TP)) rfl rfl ⟨Nat.le_refl 1, ⟨by show (l.length + 1) * 56 ≤ _; (try simp only [List.length_cons, List.length_nil]); omega, by show l.length + 1 < _; (try simp only [List.length_cons, List.length_nil]); omega⟩, by decide⟩ fun b8 c8 g18 g28 => ?_
    refine wX ?_
    have e18 : nodesC l ++ nodeC (⟨47, [], 0, some ⟨b7, 0, none⟩, [(⟨53, [], 0, some ⟨ab, 0, none⟩, [⟨48, [], 0, some ⟨pb, 0, none⟩, [t1'], 1⟩, ⟨48, [], 0, some ⟨pb2, 0, none⟩, [t2], 1⟩], 2⟩ : TP), s6], c7⟩ : TP) = nodesC (l ++ [(⟨47, [], 0, some ⟨b7, 0, none⟩, [(⟨53, [], 0, some ⟨ab, 0, none⟩, [⟨48, [], 0, some ⟨pb, 0, none⟩, [t1'], 1⟩, ⟨48, [], 0, some ⟨pb2, 0, none⟩, [t2], 1⟩], 2⟩ : TP), s6], c7⟩ : TP)]) := by rw [nodesC_one, nodesC_app]
    have e28 : l.length + 1 = (l ++ [(⟨47, [], 0, some ⟨b7, 0, none⟩, [(⟨53, [], 0, some ⟨ab, 0, none⟩, [⟨48, [], 0, some ⟨pb, 0, none⟩, [t1'], 1⟩, ⟨48, [], 0, some ⟨pb2, 0, none⟩, [t2], 1⟩], 2⟩ : TP), s6], c7⟩ : TP)]).length := by simp
    rw [e18, e28]
    have hgi : Gn k'.l ⟨47, [], 0, some ⟨b7, 0, none⟩, [(⟨53, [], 0, some ⟨ab, 0, none⟩, [⟨48, [], 0, some ⟨pb, 0, none⟩, [t1'], 1⟩, ⟨48, [], 0, some ⟨pb2, 0, none⟩, [t2], 1⟩], 2⟩ : TP), s6], c7⟩ k6.l (4 + 8 * (q6 - q1)) (4 * (D + 1) + 2) := ((Gn.q (s := 2 + 8 * (q3 - q1) + (1 + 8 * (q6 - q3))) (d := 4 * (D + 1) + 1) rfl (.some (by simpa using g17)) (Nat.zero_le _) (by omega) (Gs.cons hgP (hgq6.le (Nat.le_refl _) (by omega)).s)).le (by omega) (by omega))
    refine ⟨⟨l ++ [(⟨47, [], 0, some ⟨b7, 0, none⟩, [(⟨53, [], 0, some ⟨ab, 0, none⟩, [⟨48, [], 0, some ⟨pb, 0, none⟩, [t1'], 1⟩, ⟨48, [], 0, some ⟨pb2, 0, none⟩, [t2], 1⟩], 2⟩ : TP), s6], c7⟩ : TP)], some b8, c8, k6, q6, z6, _⟩, ⟨hi.snoc (isCs.snoc (.inn hvP hvs6 hos6)) hgi hks6 ⟨by omega, hls6.2⟩ (by show 1 + 8 * (q0 - p) + 4 * (l.length - 1) + 8 * (q1 - p1) + (4 + 8 * (q6 - q1)) ≤ 1 + 8 * (q0 - p) + 4 * (l.length + 1 - 1) + 8 * (q6 - p1); omega) (fun w hw => ?_) g18, by show (l ++ [_]).length ≤ 1 + m + 1; rw [← e28]; omega, by show 1 ≤ (l ++ [_]).length; rw [← e28]; omega, by show p1 ≤ q6; omega⟩, by show m + 2 - (l ++ [_]).length < m + 2 - l.length; rw [← e28]; omega, ?_, _, seal4 _ _ _ _ _, ⟨wkE_refl _, wkE_refl _, wkE_refl _, wkE_refl _, wkE_refl _, wkH_nil _⟩⟩
    ·obtain ⟨f1, f2, f3⟩ := hfs6 w hw.1
     have f4 := hf2 w f1
     exact ⟨f4.1, treeF hgi.tk hw.2.2.2.2.2.1 rfl (two_mem (treeF hgP.tk hw.2.2.2.2.1 rfl (two_mem (treeF (hgP1.tk _ (List.mem_cons_self ..)) hw.2.2.1 rfl (one_mem (f4.2.1 _ (List.mem_cons_self ..)))) (treeF (hgP1.tk _ (List.mem_cons_of_mem _ (List.mem_singleton.2 rfl))) hw.2.2.2.1 rfl (one_mem (f4.2.1 _ (List.mem_cons_of_mem _ (List.mem_singleton.2 rfl))))))) f2), f3⟩
    ·exact wKK
   ·have h7 : ¬ ((l2.length : Int) > 1) := h7
    obtain ⟨t2, rfl⟩ := List.length_eq_one_iff.1 (show l2.length = 1 by omega)
    obtain rfl : t2 = t1 := Option.some.inj ht1
    have hg1 : Gn k'.l t2 k2.l (1 + 8 * (q3 - q1)) (4 * (D + 1) - 1) := (Gs.un (s := 1 + 8 * (q3 - q2)) hgs2).le (by omega) (Nat.le_refl _)
    have hv1 := hv2 t2 (List.mem_singleton.2 rfl)
    have hgP : Gn k'.l ⟨48, [], 0, some ⟨pb, 0, none⟩, [t2], 1⟩ k2.l (2 + 8 * (q3 - q1)) (4 * (D + 1)) := (Gn.q (s := 1 + 8 * (q3 - q1)) (d := 4 * (D + 1) - 1) rfl (.some (Nat.le_refl 1)) (Nat.zero_le _) (by omega) hg1.s).le (by omega) (by omega)
    have hvP : V (.pat false) ⟨48, [], 0, some ⟨pb, 0, none⟩, [t2], 1⟩ := .pval0 hv1
    refine wXR ?_
    refine RwN.known (nodesC [(⟨48, [], 0, some ⟨pb, 0, none⟩, [t2], 1⟩ : TP)]) rfl fun ib => ?_
    refine wX ?_
    refine callG (hq g ok k2 (by assumption) q3 z2 hle2.2 F2 hAF2) [0, 1] rfl ⟨rfl, rfl, trivial⟩ rfl fun j6 hj6 => ?_
    obtain ⟨s6, k6, q6, z6, F6⟩ := j6
    have hls6 : q3 ≤ q6 ∧ q6 ≤ g.l.length := hj6.le
    have hgq6 : Gn k2.l s6 k6.l (1 + 8 * (q6 - q3)) (4 * (D + 1)) := hj6.gn
    have hks6 : KdOk k6 := hj6.kd
    have hvs6 : V .ex s6 := hj6.v
    have hos6 : s6.op = 26 := hj6.q
    have hfs6 : ∀ w, F6 w → F2 w ∧ TreeF w s6 ∧ KnF k6 w := hj6.f
    refine wX ?_
    try refine Nd.mk ⟨Nat.le_refl 1, rfl, rfl⟩ ?_
    (conv => whnf)
    refine AppN.grow 10 (nodesC [(⟨48, [], 0, some ⟨pb, 0, none⟩, [t2], 1⟩ : TP)]) (nodeC s6) rfl rfl ⟨Nat.le_refl 1, ⟨by show ([(⟨48, [], 0, some ⟨pb, 0, none⟩, [t2], 1⟩ : TP)].length + 1) * 56 ≤ _; (try simp only [List.length_cons, List.length_nil]); omega, by show [(⟨48, [], 0, some ⟨pb, 0, none⟩, [t2], 1⟩ : TP)].length + 1 < _; (try simp only [List.length_cons, List.length_nil]); omega⟩, by decide⟩ fun b7 c7 g17 g27 => ?_
    refine wX ?_
    have e17 : nodesC [(⟨48, [], 0, some ⟨pb, 0, none⟩, [t2], 1⟩ : TP)] ++ nodeC s6 = nodesC ([(⟨48, [], 0, some ⟨pb, 0, none⟩, [t2], 1⟩ : TP)] ++ [s6]) := by rw [nodesC_one, nodesC_app]
    have e27 : [(⟨48, [], 0, some ⟨pb, 0, none⟩, [t2], 1⟩ : TP)].length + 1 = ([(⟨48, [], 0, some ⟨pb, 0, none⟩, [t2], 1⟩ : TP)] ++ [s6]).length := by simp
    try refine Nd.mk ⟨Nat.le_refl 1, rfl, rfl⟩ ?_
    (conv => whnf)
    refine AppN.grow 4 (nodesC l) (nodeC (⟨47, [], 0, some ⟨b7, 0, none⟩, [(⟨48, [], 0, some ⟨pb, 0, none⟩, [t2], 1⟩ : TP), s6], c7⟩ : TP)) rfl rfl ⟨Nat.le_refl 1, ⟨by show (l.length + 1) * 56 ≤ _; (try simp only [List.length_cons, List.length_nil]); omega, by show l.length + 1 < _; (try simp only [List.length_cons, List.length_nil]); omega⟩, by decide⟩ fun b8 c8 g18 g28 => ?_
    refine wX ?_
    have e18 : nodesC l ++ nodeC (⟨47, [], 0, some ⟨b7, 0, none⟩, [(⟨48, [], 0, some ⟨pb, 0, none⟩, [t2], 1⟩ : TP), s6], c7⟩ : TP) = nodesC (l ++ [(⟨47, [], 0, some ⟨b7, 0, none⟩, [(⟨48, [], 0, some ⟨pb, 0, none⟩, [t2], 1⟩ : TP), s6], c7⟩ : TP)]) := by rw [nodesC_one, nodesC_app]
    have e28 : l.length + 1 = (l ++ [(⟨47, [], 0, some ⟨b7, 0, none⟩, [(⟨48, [], 0, some ⟨pb, 0, none⟩, [t2], 1⟩ : TP), s6], c7⟩ : TP)]).length := by simp
    rw [e18, e28]
    have hgi : Gn k'.l ⟨47, [], 0, some ⟨b7, 0, none⟩, [(⟨48, [], 0, some ⟨pb, 0, none⟩, [t2], 1⟩ : TP), s6], c7⟩ k6.l (4 + 8 * (q6 - q1)) (4 * (D + 1) + 2) := ((Gn.q (s := 2 + 8 * (q3 - q1) + (1 + 8 * (q6 - q3))) (d := 4 * (D + 1)) rfl (.some (by simpa using g17)) (Nat.zero_le _) (by omega) (Gs.cons hgP hgq6.s)).le (by omega) (by omega))
    refine ⟨⟨l ++ [(⟨47, [], 0, some ⟨b7, 0, none⟩, [(⟨48, [], 0, some ⟨pb, 0, none⟩, [t2], 1⟩ : TP), s6], c7⟩ : TP)], some b8, c8, k6, q6, z6, _⟩, ⟨hi.snoc (isCs.snoc (.inn hvP hvs6 hos6)) hgi hks6 ⟨by omega, hls6.2⟩ (by show 1 + 8 * (q0 - p) + 4 * (l.length - 1) + 8 * (q1 - p1) + (4 + 8 * (q6 - q1)) ≤ 1 + 8 * (q0 - p) + 4 * (l.length + 1 - 1) + 8 * (q6 - p1); omega) (fun w hw => ?_) g18, by show (l ++ [_]).length ≤ 1 + m + 1; rw [← e28]; omega, by show 1 ≤ (l ++ [_]).length; rw [← e28]; omega, by show p1 ≤ q6; omega⟩, by show m + 2 - (l ++ [_]).length < m + 2 - l.length; rw [← e28]; omega, ?_, _, seal4 _ _ _ _ _, ⟨wkE_refl _, wkE_refl _, wkE_refl _, wkE_refl _, wkE_refl _, wkH_nil _⟩⟩
    ·obtain ⟨f1, f2, f3⟩ := hfs6 w hw.1
     have f4 := hf2 w f1
     exact ⟨f4.1, treeF hgi.tk hw.2.2.2.1 rfl (two_mem (treeF hgP.tk hw.2.2.1 rfl f4.2.1) f2), f3⟩
    ·exact wKK
  ·-- behind the Ins; 0: the number, false: the kind
   have hlm : l.length = m + 2 := by omega
   obtain ⟨rs, hrs, hvr⟩ := hi.v
   have hrs : l = t0 :: rs := hrs
   have hrl : rs.length = m + 1 := by
    rw [hrs] at hlm
    simpa using hlm
   refine wXR ?_
   refine callG (pick_c g ok q1 z' 2 ⟨by decide, by decide⟩ hle.2 F (fun w hw => (hAF w hw).1)) [0, 1] rfl ⟨rfl, rfl, trivial⟩ rfl fun i hi3 => ?_
   obtain ⟨y, q2⟩ := i
   obtain ⟨_, j2, j3, j4⟩ := hi3
   have j2 : q1 ≤ q2 := j2
   have j3 : q2 ≤ g.l.length := j3
   have j4 : y ≠ 0 → q1 < q2 := j4
   refine wXR ?_
   refine brd_eq (fun h8 => ?_) (fun h8 => ?_)
   ·have j5 := j4 (by omega)
    refine wX ?_
    refine callG (hq g ok k' (by assumption) q2 z' j3 F hAF) [0, 1] rfl ⟨rfl, rfl, trivial⟩ rfl fun j6 hj6 => ?_
    obtain ⟨s6, k6, q6, z6, F6⟩ := j6
    have hls6 : q2 ≤ q6 ∧ q6 ≤ g.l.length := hj6.le
    have hgq6 : Gn k'.l s6 k6.l (1 + 8 * (q6 - q2)) (4 * (D + 1)) := hj6.gn
    have hks6 : KdOk k6 := hj6.kd
    have hvs6 : V .ex s6 := hj6.v
    have hos6 : s6.op = 26 := hj6.q
    have hfs6 : ∀ w, F6 w → F w ∧ TreeF w s6 ∧ KnF k6 w := hj6.f
    refine wXR ?_
    refine DrawN.plan [0] [(1, 1), (2, 1), (3, 0), (4, 0), (5, 0)] [(6, 0), (7, 0), (8, 0)] (by decide +kernel) ?_
    refine wXR ?_
    refine RwN.known (nodesC [s6]) rfl fun eb => ?_
    refine wXR ?_
    refine call1 (node_c _ _ _ _ _ _) ?_
    refine wXR ?_
    refine RwN.own ?_
    refine wX ?_
    have hge : Gn k'.l ⟨55, [], 0, some ⟨eb, 0, none⟩, [s6], 1⟩ k6.l (2 + 8 * (q6 - q2)) (4 * (D + 1) + 2) := (Gn.q (s := 1 + 8 * (q6 - q2)) (d := 4 * (D + 1)) rfl (.some (Nat.le_refl 1)) (Nat.zero_le _) (by omega) hgq6.s).le (by omega) (by omega)
    try refine Nd.mk ⟨Nat.le_refl 1, rfl, rfl⟩ ?_
    (conv => whnf)
    refine AppN.grow 4 (nodesC l) (nodeC (⟨55, [], 0, some ⟨eb, 0, none⟩, [s6], 1⟩ : TP)) rfl rfl ⟨Nat.le_refl 1, ⟨by show (l.length + 1) * 56 ≤ _; (try simp only [List.length_cons, List.length_nil]); omega, by show l.length + 1 < _; (try simp only [List.length_cons, List.length_nil]); omega⟩, by decide⟩ fun b8 c8 g18 g28 => ?_
    refine wX ?_
    have e18 : nodesC l ++ nodeC (⟨55, [], 0, some ⟨eb, 0, none⟩, [s6], 1⟩ : TP) = nodesC (l ++ [(⟨55, [], 0, some ⟨eb, 0, none⟩, [s6], 1⟩ : TP)]) := by rw [nodesC_one, nodesC_app]
    have e28 : l.length + 1 = (l ++ [(⟨55, [], 0, some ⟨eb, 0, none⟩, [s6], 1⟩ : TP)]).length := by simp
    rw [e18, e28]
    have hg : Gn k.l ⟨46, [], 0, some ⟨b8, 0, none⟩, l ++ [⟨55, [], 0, some ⟨eb, 0, none⟩, [s6], 1⟩], c8⟩ k6.l (9 + 8 * (q6 - p)) (4 * (D + 1) + 3) := (Gn.q (s := 1 + 8 * (q0 - p) + 4 * (l.length - 1) + 8 * (q1 - p1) + (2 + 8 * (q6 - q2))) (d := 4 * (D + 1) + 2) rfl (.some (by rw [← e28]; exact g18)) (Nat.zero_le _) (by omega) (Gs.snoc hi.gs hge)).le (by omega) (by omega)
    refine ⟨_, sealG _ _ _ _ _, ⟨⟨46, [], 0, some ⟨b8, 0, none⟩, l ++ [⟨55, [], 0, some ⟨eb, 0, none⟩, [s6], 1⟩], c8⟩, k6, q6, z6, _⟩, ⟨by rw [hrs]; exact V.cas (d := false) (e := [⟨55, [], 0, some ⟨eb, 0, none⟩, [s6], 1⟩]) rfl hv0 hvr (by omega) (one_mem (.els hvs6 hos6)) (Nat.le_refl 1), trivial, hg, hks6, ⟨by show p ≤ q6; omega, hls6.2⟩, fun w hw => ?_⟩, rfl, ⟨wkE_refl _, wkE_refl _, wkH_nil _⟩⟩
    obtain ⟨f1, f2, f3⟩ := hfs6 w hw.1
    obtain ⟨f4, f5, f6⟩ := hi.f w f1
    exact ⟨f4, treeF hg.tk hw.2.1 rfl (allV f5 (one_mem (treeF hge.tk hw.2.2.1 rfl (one_mem f2)))), f3⟩
   ·refine wXR ?_
    have hg : Gn k.l ⟨46, [], 0, some ⟨ob, 0, none⟩, l, cap⟩ k'.l (9 + 8 * (q2 - p)) (4 * (D + 1) + 3) := (Gn.q (s := 1 + 8 * (q0 - p) + 4 * (l.length - 1) + 8 * (q1 - p1)) (d := 4 * (D + 1) + 2) rfl (.some hcap) (Nat.zero_le _) (by omega) hi.gs).le (by omega) (by omega)
    refine ⟨_, sealG _ _ _ _ _, ⟨⟨46, [], 0, some ⟨ob, 0, none⟩, l, cap⟩, k', q2, z', _⟩, ⟨by rw [hrs, ← List.append_nil rs]; exact V.cas (d := false) (e := []) rfl hv0 hvr (by omega) (fun _ h => by cases h) (Nat.zero_le _), trivial, hg, hi.kd, ⟨by show p ≤ q2; omega, j3⟩, fun w hw => ?_⟩, rfl, ⟨wkE_refl _, wkE_refl _, wkH_nil _⟩⟩
    obtain ⟨f1, f2, f3⟩ := hi.f w hw.1
    exact ⟨f1, treeF hg.tk hw.2.1 rfl f2, f3⟩
 ·-- 1: the number
  refine wXR ?_
  refine callG (pick_c g ok q0 z0 2 ⟨by decide, by decide⟩ hle0.2 F0 (fun w hw => (hA w (hi0.f w hw).1).1)) [0, 1] rfl ⟨rfl, rfl, trivial⟩ rfl fun i hi => ?_
  obtain ⟨m, p1⟩ := i
  obtain ⟨g1, g2, g3, g4⟩ := hi
  have g1 : m < 2 := g1
  have g2 : q0 ≤ p1 := g2
  have g3 : p1 ≤ g.l.length := g3
  have g4 : m ≠ 0 → q0 < p1 := g4
  have g5 : 4 * m ≤ 8 * (p1 - q0) := by
   by_cases h : m = 0
   ·omega
   ·have := g4 h; omega
  have hmw : IntKind.i64.wrap (1 + (m : Int)) = ((1 + m : Nat) : Int) := by rw [wrap_i64 (by omega)]; omega
  (conv => whnf)
  refine VrN.norm hmw ?_
  refine wXR ?_
  refine LoopN.introS SmI (fun i => GrInv (isCs true t0) g A k p (4 * (D + 1) + 2) (fun n q => 1 + 8 * (q0 - p) + 4 * (n - 1) + 8 * (q - p1)) i ∧ i.l.length ≤ 1 + m + 1 ∧ 1 ≤ i.l.length ∧ p1 ≤ i.p)
   (fun ⟨l, _, _, k', _, _, _⟩ => mkS Tryz.f38.ntmps 0 [(0, .c (.v (gP g))), (1, .c (.v (.int .i64 ((D + 1 : Nat) : Int)))), (2, .c (.v (knV k'))), (6, .c (.lp 2 0)), (7, .c (.v (.slice none 0 0))), (8, .c (.lp 3 0)), (9, .c (.v (.int .i64 (((1 + m : Nat) : Int) - ((l.length - 1 : Nat) : Int)))))])
   (fun ⟨l, ob, cap, _, q, z', F⟩ => [.fact F, grE g q z', .blk ndT [.v (.int .i64 0), .v (.string (bs [])), .v (.int .i64 0), .v (.slice none 0 0)], .blk ndT [.v (.int .i64 46), .v (.string (bs [])), .v (.int .i64 1), .v (.slice (at0 ob) l.length cap)], rowN4 l ob cap])
   (fun i => m + 2 - i.l.length) [] rfl (fun _ => rfl) (fun _ => rfl) (fun _ _ => okHB_eq rfl)
   ⟨⟨[t0], some b0, cap0, k0, p1, z0, F0⟩, ⟨⟨⟨[], rfl, fun _ h => by cases h⟩, (hg0.le (by show 1 + 8 * (q0 - p) ≤ 1 + 8 * (q0 - p) + 4 * ([t0].length - 1) + 8 * (p1 - p1); omega) (by omega)).s, hk0, ⟨Nat.le_trans hle0.1 g2, g3⟩, (fun h => by cases h), hcap0, fun w hw => hi0.f w hw⟩, by show 1 ≤ 1 + m + 1; omega, Nat.le_refl 1, Nat.le_refl _⟩, ?_, _, turn_refl _, ⟨wkE_refl _, wkE_refl _, wkE_refl _, wkE_refl _, wkE_refl _, wkH_nil _⟩⟩ ?_
  ·(repeat' (first | exact trivial | refine And.intro (by with_reducible rfl) ?_ | (with_reducible exact wkC_refl _) | (with_reducible exact wkCs_refl _) | refine And.intro ?_ ?_))
   all_goals first | rfl | exact av_int (by simp)
  rintro ⟨l, ob, cap, k', q1, z', F⟩ ⟨hi, hl1, hl2, hp1⟩
  have hl1 : l.length ≤ 1 + m + 1 := hl1
  have hl2 : 1 ≤ l.length := hl2
  have hp1 : p1 ≤ q1 := hp1
  have hcap : l.length ≤ cap := hi.cap
  have hle : p ≤ q1 ∧ q1 ≤ g.l.length := hi.le
  have hk' : KdOk k' := hi.kd
  have hAF : ∀ w, F w → NumF g w ∧ KnF k' w := fun w hw => ⟨(hA w (hi.f w hw).1).1, (hi.f w hw).2.2⟩
  obtain ⟨ob, rfl⟩ : ∃ b, ob = some b := by
   cases ob with
   | none =>
    have h : l = [] := hi.nil rfl
    rw [h] at hl2
    exact absurd hl2 (by show ¬ 1 ≤ 0; decide)
   | some b => exact ⟨b, rfl⟩
  refine wXR ?_
  refine brd_dec (fun h6 => ?_) (fun h6 => ?_)
  ·refine wXR ?_
   refine call1 (node_c _ _ _ _ _ _) ?_
   refine wXR ?_
   refine callG (hpt g ok k' hk' q1 z' hle.2 F hAF) [0, 1] rfl ⟨rfl, rfl, trivial⟩ rfl fun j hj => ?_
   obtain ⟨P, k2, q2, z2, F2⟩ := j
   have hle2 : q1 ≤ q2 ∧ q2 ≤ g.l.length := hj.le
   have hk2 : KdOk k2 := hj.kd
   have hf2 : ∀ w, F2 w → F w ∧ TreeF w P ∧ KnF k2 w := hj.f
   have hAF2 : ∀ w, F2 w → NumF g w ∧ KnF k2 w := fun w hw => ⟨(hAF w (hf2 w hw).1).1, (hf2 w hw).2.2⟩
   have hvP : V (.pat true) P := hj.v
   have hgP : Gn k'.l P k2.l (1 + 8 * (q2 - q1)) (4 * (D + 1) + 1) := Gn.le (s := 1 + 8 * (q2 - q1)) (d := D + 1 + 3) hj.gn (Nat.le_refl _) (by omega)
   refine wXR ?_
   refine RwN.known (nodesC [P]) rfl fun ib => ?_
   refine wXR ?_
   refine callG (pick_c g ok q2 z2 3 ⟨by decide, by decide⟩ hle2.2 F2 (fun w hw => (hAF2 w hw).1)) [0, 1] rfl ⟨rfl, rfl, trivial⟩ rfl fun i hi3 => ?_
   obtain ⟨c, q3⟩ := i
   obtain ⟨j1, j2, j3, j4⟩ := hi3
   have j2 : q2 ≤ q3 := j2
   have j3 : q3 ≤ g.l.length := j3
   have j4 : c ≠ 0 → q2 < q3 := j4
   refine wXR ?_
   refine brd_eq (fun h7 => ?_) (fun h7 => ?_)
   ·have j5 := j4 (by omega)
    refine wX ?_
    rw [low D (by omega)]
    refine callG (ih g ok k2 hk2 q3 z2 j3 F2 hAF2) [0, 1] rfl ⟨rfl, rfl, trivial⟩ rfl fun j hj4 => ?_
    obtain ⟨K, k4, q4, z4, F4⟩ := j
    have hle4 : q3 ≤ q4 ∧ q4 ≤ g.l.length := hj4.le
    have hk4 : KdOk k4 := hj4.kd
    have hf4 : ∀ w, F4 w → F2 w ∧ TreeF w K ∧ KnF k4 w := hj4.f
    have hgK : Gn k2.l K k4.l (1 + 8 * (q4 - q3)) (4 * (D + 1) + 1) := Gn.le (s := 1 + 8 * (q4 - q3)) (d := 4 * D + 3) hj4.gn (Nat.le_refl _) (by omega)
    have hvK : V .ex K := hj4.v
    refine wX ?_
    try refine Nd.mk ⟨Nat.le_refl 1, rfl, rfl⟩ ?_
    (conv => whnf)
    refine AppN.grow 8 (nodesC [P]) (nodeC K) rfl rfl ⟨Nat.le_refl 1, ⟨by show ([P].length + 1) * 56 ≤ _; (try simp only [List.length_cons, List.length_nil]); omega, by show [P].length + 1 < _; (try simp only [List.length_cons, List.length_nil]); omega⟩, by decide⟩ fun b5 c5 g15 g25 => ?_
    refine wX ?_
    have e15 : nodesC [P] ++ nodeC K = nodesC ([P] ++ [K]) := by rw [nodesC_one, nodesC_app]
    have e25 : [P].length + 1 = ([P] ++ [K]).length := by simp
    refine wX ?_
    refine callG (hq g ok k4 (by assumption) q4 z4 hle4.2 F4 (fun w hw => ⟨(hAF2 w (hf4 w hw).1).1, (hf4 w hw).2.2⟩)) [0, 1] rfl ⟨rfl, rfl, trivial⟩ rfl fun j6 hj6 => ?_
    obtain ⟨s6, k6, q6, z6, F6⟩ := j6
    have hls6 : q4 ≤ q6 ∧ q6 ≤ g.l.length := hj6.le
    have hgq6 : Gn k4.l s6 k6.l (1 + 8 * (q6 - q4)) (4 * (D + 1)) := hj6.gn
    have hks6 : KdOk k6 := hj6.kd
    have hvs6 : V .ex s6 := hj6.v
    have hos6 : s6.op = 26 := hj6.q
    have hfs6 : ∀ w, F6 w → F4 w ∧ TreeF w s6 ∧ KnF k6 w := hj6.f
    refine wX ?_
    try refine Nd.mk ⟨Nat.le_refl 1, rfl, rfl⟩ ?_
    (conv => whnf)
    refine AppN.grow 8 (nodesC [P, K]) (nodeC s6) rfl rfl ⟨Nat.le_refl 1, ⟨by show ([P, K].length + 1) * 56 ≤ _; (try simp only [List.length_cons, List.length_nil]); omega, by show [P, K].length + 1 < _; (try simp only [List.length_cons, List.length_nil]); omega⟩, by decide⟩ fun b7 c7 g17 g27 => ?_
    refine wX ?_
    have e17 : nodesC [P, K] ++ nodeC s6 = nodesC ([P, K] ++ [s6]) := by rw [nodesC_one, nodesC_app]
    have e27 : [P, K].length + 1 = ([P, K] ++ [s6]).length := by simp
    try refine Nd.mk ⟨Nat.le_refl 1, rfl, rfl⟩ ?_
    (conv => whnf)
    refine AppN.grow 4 (nodesC l) (nodeC (⟨47, [], 1, some ⟨b7, 0, none⟩, [P, K, s6], c7⟩ : TP)) rfl rfl ⟨Nat.le_refl 1, ⟨by show (l.length + 1) * 56 ≤ _; (try simp only [List.length_cons, List.length_nil]); omega, by show l.length + 1 < _; (try simp only [List.length_cons, List.length_nil]); omega⟩, by decide⟩ fun b8 c8 g18 g28 => ?_
    refine wX ?_
    have e18 : nodesC l ++ nodeC (⟨47, [], 1, some ⟨b7, 0, none⟩, [P, K, s6], c7⟩ : TP) = nodesC (l ++ [(⟨47, [], 1, some ⟨b7, 0, none⟩, [P, K, s6], c7⟩ : TP)]) := by rw [nodesC_one, nodesC_app]
    have e28 : l.length + 1 = (l ++ [(⟨47, [], 1, some ⟨b7, 0, none⟩, [P, K, s6], c7⟩ : TP)]).length := by simp
    rw [e18, e28]
    have hgi : Gn k'.l ⟨47, [], 1, some ⟨b7, 0, none⟩, [P, K, s6], c7⟩ k6.l (4 + 8 * (q6 - q1)) (4 * (D + 1) + 2) := (Gn.q (s := 1 + 8 * (q2 - q1) + (1 + 8 * (q4 - q3) + (1 + 8 * (q6 - q4)))) (d := 4 * (D + 1) + 1) rfl (.some (by simpa using g17)) (Nat.zero_le _) (by omega) (Gs.cons hgP (Gs.cons hgK (hgq6.le (Nat.le_refl _) (by omega)).s))).le (by omega) (by omega)
    refine ⟨⟨l ++ [(⟨47, [], 1, some ⟨b7, 0, none⟩, [P, K, s6], c7⟩ : TP)], some b8, c8, k6, q6, z6, _⟩, ⟨hi.snoc (isCs.snoc (.ing hvP hvK hvs6 hos6)) hgi hks6 ⟨by omega, hls6.2⟩ (by show 1 + 8 * (q0 - p) + 4 * (l.length - 1) + 8 * (q1 - p1) + (4 + 8 * (q6 - q1)) ≤ 1 + 8 * (q0 - p) + 4 * (l.length + 1 - 1) + 8 * (q6 - p1); omega) (fun w hw => ?_) g18, by show (l ++ [_]).length ≤ 1 + m + 1; rw [← e28]; omega, by show 1 ≤ (l ++ [_]).length; rw [← e28]; omega, by show p1 ≤ q6; omega⟩, by show m + 2 - (l ++ [_]).length < m + 2 - l.length; rw [← e28]; omega, ?_, _, seal4 _ _ _ _ _, ⟨wkE_refl _, wkE_refl _, wkE_refl _, wkE_refl _, wkE_refl _, wkH_nil _⟩⟩
    ·obtain ⟨f1, f2, f3⟩ := hfs6 w hw.1
     have f4 := hf4 w f1
     have f5 := hf2 w f4.1
     exact ⟨f5.1, treeF hgi.tk hw.2.1 rfl (allC f5.2.1 (two_mem f4.2.1 f2)), f3⟩
    ·exact wKK
   ·-- a seq; k2: known, q3: numbers, j3: why, z2: z, F2: F, hAF2: facts, 6: names
    refine wX ?_
    refine callG (hq g ok k2 (by assumption) q3 z2 j3 F2 hAF2) [0, 1] rfl ⟨rfl, rfl, trivial⟩ rfl fun j6 hj6 => ?_
    obtain ⟨s6, k6, q6, z6, F6⟩ := j6
    have hls6 : q3 ≤ q6 ∧ q6 ≤ g.l.length := hj6.le
    have hgq6 : Gn k2.l s6 k6.l (1 + 8 * (q6 - q3)) (4 * (D + 1)) := hj6.gn
    have hks6 : KdOk k6 := hj6.kd
    have hvs6 : V .ex s6 := hj6.v
    have hos6 : s6.op = 26 := hj6.q
    have hfs6 : ∀ w, F6 w → F2 w ∧ TreeF w s6 ∧ KnF k6 w := hj6.f
    refine wX ?_
    try refine Nd.mk ⟨Nat.le_refl 1, rfl, rfl⟩ ?_
    (conv => whnf)
    refine AppN.grow 8 (nodesC [P]) (nodeC s6) rfl rfl ⟨Nat.le_refl 1, ⟨by show ([P].length + 1) * 56 ≤ _; (try simp only [List.length_cons, List.length_nil]); omega, by show [P].length + 1 < _; (try simp only [List.length_cons, List.length_nil]); omega⟩, by decide⟩ fun b7 c7 g17 g27 => ?_
    refine wX ?_
    have e17 : nodesC [P] ++ nodeC s6 = nodesC ([P] ++ [s6]) := by rw [nodesC_one, nodesC_app]
    have e27 : [P].length + 1 = ([P] ++ [s6]).length := by simp
    try refine Nd.mk ⟨Nat.le_refl 1, rfl, rfl⟩ ?_
    (conv => whnf)
    refine AppN.grow 4 (nodesC l) (nodeC (⟨47, [], 0, some ⟨b7, 0, none⟩, [P, s6], c7⟩ : TP)) rfl rfl ⟨Nat.le_refl 1, ⟨by show (l.length + 1) * 56 ≤ _; (try simp only [List.length_cons, List.length_nil]); omega, by show l.length + 1 < _; (try simp only [List.length_cons, List.length_nil]); omega⟩, by decide⟩ fun b8 c8 g18 g28 => ?_
    refine wX ?_
    have e18 : nodesC l ++ nodeC (⟨47, [], 0, some ⟨b7, 0, none⟩, [P, s6], c7⟩ : TP) = nodesC (l ++ [(⟨47, [], 0, some ⟨b7, 0, none⟩, [P, s6], c7⟩ : TP)]) := by rw [nodesC_one, nodesC_app]
    have e28 : l.length + 1 = (l ++ [(⟨47, [], 0, some ⟨b7, 0, none⟩, [P, s6], c7⟩ : TP)]).length := by simp
    rw [e18, e28]
    have hgi : Gn k'.l ⟨47, [], 0, some ⟨b7, 0, none⟩, [P, s6], c7⟩ k6.l (4 + 8 * (q6 - q1)) (4 * (D + 1) + 2) := (Gn.q (s := 1 + 8 * (q2 - q1) + (1 + 8 * (q6 - q3))) (d := 4 * (D + 1) + 1) rfl (.some (by simpa using g17)) (Nat.zero_le _) (by omega) (Gs.cons hgP (hgq6.le (Nat.le_refl _) (by omega)).s)).le (by omega) (by omega)
    refine ⟨⟨l ++ [(⟨47, [], 0, some ⟨b7, 0, none⟩, [P, s6], c7⟩ : TP)], some b8, c8, k6, q6, z6, _⟩, ⟨hi.snoc (isCs.snoc (.inn hvP hvs6 hos6)) hgi hks6 ⟨by omega, hls6.2⟩ (by show 1 + 8 * (q0 - p) + 4 * (l.length - 1) + 8 * (q1 - p1) + (4 + 8 * (q6 - q1)) ≤ 1 + 8 * (q0 - p) + 4 * (l.length + 1 - 1) + 8 * (q6 - p1); omega) (fun w hw => ?_) g18, by show (l ++ [_]).length ≤ 1 + m + 1; rw [← e28]; omega, by show 1 ≤ (l ++ [_]).length; rw [← e28]; omega, by show p1 ≤ q6; omega⟩, by show m + 2 - (l ++ [_]).length < m + 2 - l.length; rw [← e28]; omega, ?_, _, seal4 _ _ _ _ _, ⟨wkE_refl _, wkE_refl _, wkE_refl _, wkE_refl _, wkE_refl _, wkH_nil _⟩⟩
    ·obtain ⟨f1, f2, f3⟩ := hfs6 w hw.1
     have f5 := hf2 w f1
     exact ⟨f5.1, treeF hgi.tk hw.2.1 rfl (two_mem f5.2.1 f2), f3⟩
    ·exact wKK
  ·-- behind the Ins; 1: the number, true: the kind
   have hlm : l.length = m + 2 := by omega
   obtain ⟨rs, hrs, hvr⟩ := hi.v
   have hrs : l = t0 :: rs := hrs
   have hrl : rs.length = m + 1 := by
    rw [hrs] at hlm
    simpa using hlm
   refine wXR ?_
   refine callG (pick_c g ok q1 z' 2 ⟨by decide, by decide⟩ hle.2 F (fun w hw => (hAF w hw).1)) [0, 1] rfl ⟨rfl, rfl, trivial⟩ rfl fun i hi3 => ?_
   obtain ⟨y, q2⟩ := i
   obtain ⟨_, j2, j3, j4⟩ := hi3
   have j2 : q1 ≤ q2 := j2
   have j3 : q2 ≤ g.l.length := j3
   have j4 : y ≠ 0 → q1 < q2 := j4
   refine wXR ?_
   refine brd_eq (fun h8 => ?_) (fun h8 => ?_)
   ·have j5 := j4 (by omega)
    refine wX ?_
    refine callG (hq g ok k' (by assumption) q2 z' j3 F hAF) [0, 1] rfl ⟨rfl, rfl, trivial⟩ rfl fun j6 hj6 => ?_
    obtain ⟨s6, k6, q6, z6, F6⟩ := j6
    have hls6 : q2 ≤ q6 ∧ q6 ≤ g.l.length := hj6.le
    have hgq6 : Gn k'.l s6 k6.l (1 + 8 * (q6 - q2)) (4 * (D + 1)) := hj6.gn
    have hks6 : KdOk k6 := hj6.kd
    have hvs6 : V .ex s6 := hj6.v
    have hos6 : s6.op = 26 := hj6.q
    have hfs6 : ∀ w, F6 w → F w ∧ TreeF w s6 ∧ KnF k6 w := hj6.f
    refine wXR ?_
    refine DrawN.plan [0] [(1, 1), (2, 1), (3, 0), (4, 0), (5, 0)] [(6, 0), (7, 0), (8, 0)] (by decide +kernel) ?_
    refine wXR ?_
    refine RwN.known (nodesC [s6]) rfl fun eb => ?_
    refine wXR ?_
    refine call1 (node_c _ _ _ _ _ _) ?_
    refine wXR ?_
    refine RwN.own ?_
    refine wX ?_
    have hge : Gn k'.l ⟨55, [], 0, some ⟨eb, 0, none⟩, [s6], 1⟩ k6.l (2 + 8 * (q6 - q2)) (4 * (D + 1) + 2) := (Gn.q (s := 1 + 8 * (q6 - q2)) (d := 4 * (D + 1)) rfl (.some (Nat.le_refl 1)) (Nat.zero_le _) (by omega) hgq6.s).le (by omega) (by omega)
    try refine Nd.mk ⟨Nat.le_refl 1, rfl, rfl⟩ ?_
    (conv => whnf)
    refine AppN.grow 4 (nodesC l) (nodeC (⟨55, [], 0, some ⟨eb, 0, none⟩, [s6], 1⟩ : TP)) rfl rfl ⟨Nat.le_refl 1, ⟨by show (l.length + 1) * 56 ≤ _; (try simp only [List.length_cons, List.length_nil]); omega, by show l.length + 1 < _; (try simp only [List.length_cons, List.length_nil]); omega⟩, by decide⟩ fun b8 c8 g18 g28 => ?_
    refine wX ?_
    have e18 : nodesC l ++ nodeC (⟨55, [], 0, some ⟨eb, 0, none⟩, [s6], 1⟩ : TP) = nodesC (l ++ [(⟨55, [], 0, some ⟨eb, 0, none⟩, [s6], 1⟩ : TP)]) := by rw [nodesC_one, nodesC_app]
    have e28 : l.length + 1 = (l ++ [(⟨55, [], 0, some ⟨eb, 0, none⟩, [s6], 1⟩ : TP)]).length := by simp
    rw [e18, e28]
    have hg : Gn k.l ⟨46, [], 1, some ⟨b8, 0, none⟩, l ++ [⟨55, [], 0, some ⟨eb, 0, none⟩, [s6], 1⟩], c8⟩ k6.l (9 + 8 * (q6 - p)) (4 * (D + 1) + 3) := (Gn.q (s := 1 + 8 * (q0 - p) + 4 * (l.length - 1) + 8 * (q1 - p1) + (2 + 8 * (q6 - q2))) (d := 4 * (D + 1) + 2) rfl (.some (by rw [← e28]; exact g18)) (Nat.zero_le _) (by omega) (Gs.snoc hi.gs hge)).le (by omega) (by omega)
    refine ⟨_, sealG _ _ _ _ _, ⟨⟨46, [], 1, some ⟨b8, 0, none⟩, l ++ [⟨55, [], 0, some ⟨eb, 0, none⟩, [s6], 1⟩], c8⟩, k6, q6, z6, _⟩, ⟨by rw [hrs]; exact V.cas (d := true) (e := [⟨55, [], 0, some ⟨eb, 0, none⟩, [s6], 1⟩]) rfl hv0 hvr (by omega) (one_mem (.els hvs6 hos6)) (Nat.le_refl 1), trivial, hg, hks6, ⟨by show p ≤ q6; omega, hls6.2⟩, fun w hw => ?_⟩, rfl, ⟨wkE_refl _, wkE_refl _, wkH_nil _⟩⟩
    obtain ⟨f1, f2, f3⟩ := hfs6 w hw.1
    obtain ⟨f4, f5, f6⟩ := hi.f w f1
    exact ⟨f4, treeF hg.tk hw.2.1 rfl (allV f5 (one_mem (treeF hge.tk hw.2.2.1 rfl (one_mem f2)))), f3⟩
   ·refine wXR ?_
    have hg : Gn k.l ⟨46, [], 1, some ⟨ob, 0, none⟩, l, cap⟩ k'.l (9 + 8 * (q2 - p)) (4 * (D + 1) + 3) := (Gn.q (s := 1 + 8 * (q0 - p) + 4 * (l.length - 1) + 8 * (q1 - p1)) (d := 4 * (D + 1) + 2) rfl (.some hcap) (Nat.zero_le _) (by omega) hi.gs).le (by omega) (by omega)
    refine ⟨_, sealG _ _ _ _ _, ⟨⟨46, [], 1, some ⟨ob, 0, none⟩, l, cap⟩, k', q2, z', _⟩, ⟨by rw [hrs, ← List.append_nil rs]; exact V.cas (d := true) (e := []) rfl hv0 hvr (by omega) (fun _ h => by cases h) (Nat.zero_le _), trivial, hg, hi.kd, ⟨by show p ≤ q2; omega, j3⟩, fun w hw => ?_⟩, rfl, ⟨wkE_refl _, wkE_refl _, wkH_nil _⟩⟩
    obtain ⟨f1, f2, f3⟩ := hi.f w hw.1
    exact ⟨f1, treeF hg.tk hw.2.1 rfl f2, f3⟩
end Go.Proofs.YtpikpjlhdkkigaaGreatDoor
