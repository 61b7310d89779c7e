/-
  TreeBackCardSaid is proved: of every list of numbers and every number TreeBack returns true and leaves its argument as it was; the listed tables are tied to the program's text.
-/
import Derived.Test.YtpikpjlhdkkigaaGreatDoorCards
import Derived.Test.YtpikpjlhdkkigaaGreatDoorTie
import Derived.Test.YtpikpjlhdkkigaaGreatDoorTbk10
set_option linter.unusedVariables false
set_option linter.unusedSimpArgs false
namespace Go.Proofs.YtpikpjlhdkkigaaGreatDoor
open Go.ChangeShapes Go.WideShapes Go.ChangeAt Go.RowKit Go.AX
set_option maxRecDepth 100000
namespace TreeBack
theorem own : ownKnob Tryz.prog.godebug = none := own0
theorem walk {H : Type} {enc : TypeId × Value → H} (W : World) (base : Nat) (args : Array Value) (ds : List (DataW H)) (p : List MemPlace) (k : Known enc Tryz.prog Tryz.f5 W base args ds p) (_hL : laidMetH Tryz.prog laid3 W) : Walk Tryz.prog 5 args W := by
 obtain ⟨u, v, rfl⟩ := arr2 (trodAll_len k.trod).2
 obtain ⟨a, l, cap, rfl, ⟨_, ha, hs⟩, hcap, _⟩ := k.low.ints (e := 3) (i := .i64) 0 rfl rfl (by kernel_rfl) (by kernel_rfl) (by kernel_rfl) (by decide +kernel)
 obtain ⟨n, rfl⟩ := k.low.int (i := .i64) 1 rfl rfl (by kernel_rfl)
 exact walkH [.fact fun w => ScanF w ∧ SlAt a l.length (intG l) w] (fun _ he => ⟨_, List.mem_singleton.1 he, (scan_imm (scan_of k.shaped _hL)).and hs⟩) (TreeBack_c a l cap hcap (fun h => by
  rcases ha with ha | ha
  ·rw [h] at ha; cases ha
  ·exact List.length_eq_zero_iff.1 ha) n _ fun w hw => hw.1)
theorem lifted (os : Os) (started : os.Started) (H : Type) (enc : TypeId × Value → H) :
  ReturnsInHanded {} Tryz.checked os 5 .any (fun w args => (Rows.treeBackSpec.pre enc Tryz.prog Tryz.f5 [] false w args ∧ laidMetH Tryz.prog laid3 w) ∧ sizedMet enc Tryz.prog Tryz.f5 (OpenSpec.ofChange Rows.treeBackSpec) false w args) (Rows.treeBackSpec.post enc Tryz.prog Tryz.f5 false true false false) := by
 refine liftS (C := Tryz.checked) own started (by kernel_rfl) Tryz.func5
  (ChangeSpec.witness_shaped (enc := enc) (C := Tryz.checked) (os := os) (X := fun w _ => laidMetH Tryz.prog laid3 w) false (World.laidAll Tryz.prog os laid3) #[.slice none 0 0, .int .i64 0] 8 (World.laidAll_os _ _ _) (World.shaped_of_ZipB (by kernel_rfl) (by kernel_rfl)) (by kernel_rfl) (by kernel_rfl) (by kernel_rfl) (door_met os _))
  laidOut rfl (t := _) rfl (by kernel_rfl) (by kernel_rfl) ?_ walk
 intro ds hd
 match ds, hd with
 | [d0, d1], _ => rfl
theorem over : Rows.treeBackRow.holds Tryz.pinned (OpenSpec.ofChange Rows.treeBackSpec) :=
 OpenClaim.holds_of_wide 5 Tryz.f5 rfl rfl rfl rfl rfl rfl rfl ⟨rfl, rfl, rfl, rfl, rfl⟩ rfl rfl rfl rfl rfl (by kernel_rfl) Tryz.func5 (by kernel_rfl)
  (of_decide_eq_true (by kernel_rfl)) (by unfold Func.isWrapper; first | (rw [if_pos (by decide +kernel)]; kernel_rfl) | (rw [if_neg (by decide +kernel)]; exact ⟨rfl, rfl⟩))
  (fun os started H enc _ => lifted os started H enc)
theorem proved : Rows.TreeBackCardSaid :=
 Claim7.holds_tied_plain_at .later [] [.listed, .data] true (true, "c70e3fd3eb38bbba570cdd618e26b8a318203a80d4059d4e3311ee86faec173c") false
  over (fun _ h => by cases h) (by kernel_rfl) (fun _ h => by cases h) treeBack_row_tie rfl ⟨rfl, rfl⟩ (by kernel_rfl) rfl
  (fun f fn hf hfn => by
   obtain rfl : f = 5 := Option.some.inj ((show Tryz.prog.funcNamed "cabochon/cabochonlaw15.TreeBack" = some 5 by kernel_rfl).symm.trans hf) |>.symm
   obtain rfl : fn = Tryz.f5 := (Option.some.inj (Tryz.func5.symm.trans hfn)).symm
   exact ⟨by kernel_rfl, fun j t ht => by
    have hm : t ∈ Tryz.f5.params.toList := by simpa using Array.mem_of_getElem? ht
    have hall : (Tryz.f5.params.toList.all fun u => !Tryz.prog.wantsStandIn u) = true := by kernel_rfl
    exact (show Tryz.prog.wantsStandIn t = false by simpa using List.all_eq_true.1 hall t hm)⟩)
  (by kernel_rfl)
#print axioms proved
end TreeBack
end Go.Proofs.YtpikpjlhdkkigaaGreatDoor
