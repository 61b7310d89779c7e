/-
  ErbWritesCardSaid is proved: of all parts ErbWrites returns true and leaves its argument as it was; the listed tables are tied to the program's text.
-/
import Derived.Test.YtfcjgklghgpddaaDoorR0
import Derived.Test.YtfcjgklghgpddaaDoorH11
import Derived.Test.YtfcjgklghgpddaaDoorAx19
import Derived.Test.YtfcjgklghgpddaaDoorCards
import Derived.Test.YtfcjgklghgpddaaDoorTie
import Derived.Lay
namespace Go.Proofs.YtfcjgklghgpddaaDoor
open Go.ChangeShapes Go.WideShapes Go.ChangeAt Go.RowKit Go.AX
set_option maxRecDepth 100000

/-- What the rows list. -/
def laid3 : List (String × DataW Unit) := [("unicode/utf8.acceptRanges", Rows.laid_unicode_utf8_acceptRanges), ("unicode/utf8.first", Rows.laid_unicode_utf8_first)]
theorem door_met (os : Os) (args : Array Value) : laidMetH Tryd.prog laid3 ((World.laidAll Tryd.prog os laid3).forCall (fun _ _ => 0) ⟨#[], args, []⟩).memory := by
  rw [MakeChecks.laidMetH_plain _ _ _ (by kernel_rfl)]; exact laidMet_laidAll _ (by kernel_rfl) (by kernel_rfl)
namespace ErbWrites
theorem walk {H : Type} {enc : TypeId × Value → H} (W : World) (base : Nat) (args : Array Value) (ds : List (DataW H)) (p : List MemPlace) (k : Known enc Tryd.prog Tryd.f4 W base args ds p) (_hL : laidMetH Tryd.prog laid3 W) : Walk Tryd.prog 4 args W := by
  obtain ⟨v, rfl⟩ := arr1 (trodAll_len k.trod).2
  obtain ⟨d, q, hd, h⟩ := trodAll_get k.trod 0 _ v rfl rfl
  obtain ⟨a, l, cap, rfl, hl, hs, ha, hQ⟩ := known_rows (e := 35) (m := 3) partC (fun _ => rfl) Tryd.underlying24 (by kernel_rfl) (by decide +kernel) part_read k.weights rfl hd (k.val 0 _ v rfl rfl) h
  exact walkH [.fact fun w => MaxF w ∧ SlAt a (l.length * 3) (partsC l) w] (fun _ he => ⟨_, List.mem_singleton.1 he, (max_imm (max_of k.shaped)).and hs⟩) (ErbWrites_c a cap l hl hQ ha _ fun w hw => hw.1)

theorem lifted (os : Os) (started : os.Started) (H : Type) (enc : TypeId × Value → H) :
    ReturnsInHanded {} Tryd.checked os 4 .any (fun w args => (Rows.erbWritesSpec.pre enc Tryd.prog Tryd.f4 [] false w args ∧ laidMetH Tryd.prog laid3 w) ∧ sizedMet enc Tryd.prog Tryd.f4 (OpenSpec.ofChange Rows.erbWritesSpec) false w args) (Rows.erbWritesSpec.post enc Tryd.prog Tryd.f4 false true false false) := by
  refine liftS (C := Tryd.checked) own started (by kernel_rfl) Tryd.func4
    (ChangeSpec.witness_shaped (enc := enc) (C := Tryd.checked) (os := os) (X := fun w _ => laidMetH Tryd.prog laid3 w) false (World.laidAll Tryd.prog os laid3) #[.slice none 0 0] 8 (World.laidAll_os _ _ _) (World.shaped_of_ZipB (by kernel_rfl) (by kernel_rfl)) (by kernel_rfl) (by kernel_rfl) (by kernel_rfl) (door_met os _))
    laidOut rfl (t := _) rfl (by kernel_rfl) (by kernel_rfl) ?_ walk
  intro ds hd
  match ds, hd with
  | [d0], _ => rfl

theorem over : Rows.erbWritesRow.holds Tryd.pinned (OpenSpec.ofChange Rows.erbWritesSpec) :=
  OpenClaim.holds_of_wide 4 Tryd.f4 rfl rfl rfl rfl rfl rfl rfl ⟨rfl, rfl, rfl, rfl, rfl⟩ rfl rfl rfl rfl rfl (by kernel_rfl) Tryd.func4 (by kernel_rfl)
    (of_decide_eq_true (by kernel_rfl)) (by unfold Func.isWrapper; first | (rw [if_pos (by decide +kernel)]; kernel_rfl) | (rw [if_neg (by decide +kernel)]; exact ⟨rfl, rfl⟩))
    (fun os started H enc _ => lifted os started H enc)

theorem proved : Rows.ErbWritesCardSaid :=
  Claim7.holds_tied_plain_at .later [] [.data, .pinned] true (true, "65c025c1c0d2f4f10074763a6b0696f9e68e06ee85aafcc2e186a440602dcf7b") false
    over (fun _ h => by cases h) (by kernel_rfl) (fun _ h => by cases h) erbWrites_row_tie rfl ⟨rfl, rfl⟩ (by kernel_rfl) rfl
    (fun f fn hf hfn => by
      obtain rfl : f = 4 := Option.some.inj ((show Tryd.prog.funcNamed "cabochon/cabochonlaw10.ErbWrites" = some 4 by kernel_rfl).symm.trans hf) |>.symm
      obtain rfl : fn = Tryd.f4 := (Option.some.inj (Tryd.func4.symm.trans hfn)).symm
      exact ⟨by kernel_rfl, fun j t ht => by
        have hm : t ∈ Tryd.f4.params.toList := by simpa using Array.mem_of_getElem? ht
        have hall : (Tryd.f4.params.toList.all fun u => !Tryd.prog.wantsStandIn u) = true := by kernel_rfl
        exact (show Tryd.prog.wantsStandIn t = false by simpa using List.all_eq_true.1 hall t hm)⟩)
    (by kernel_rfl)
#print axioms proved
end ErbWrites
end Go.Proofs.YtfcjgklghgpddaaDoor
