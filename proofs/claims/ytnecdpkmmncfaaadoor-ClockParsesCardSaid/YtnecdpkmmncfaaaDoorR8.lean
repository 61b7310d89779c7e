/-
  ClockParsesCardSaid is proved: of every text and every number ClockParses returns true and leaves its arguments as they were; the listed tables are tied to the program's text.
-/
import Derived.Test.YtnecdpkmmncfaaaDoorR0
import Derived.Test.YtnecdpkmmncfaaaDoorF7
import Derived.Test.YtnecdpkmmncfaaaDoorR7
import Derived.Test.YtnecdpkmmncfaaaDoorAx19
import Derived.Test.YtnecdpkmmncfaaaDoorCards
import Derived.Test.YtnecdpkmmncfaaaDoorTie
namespace Go.Proofs.YtnecdpkmmncfaaaDoor
open Go.ChangeShapes Go.WideShapes Go.ChangeAt Go.RowKit Go.AX
set_option maxRecDepth 100000

namespace ClockParses
theorem walk {H : Type} {enc : TypeId × Value → H} (W : World) (base : Nat) (args : Array Value) (ds : List (DataW H)) (p : List MemPlace) (k : Known0 enc Tryd.prog Tryd.f4 W base args ds p) (hL : laidMetH Tryd.prog laid3 W) : Walk Tryd.prog 4 args W := by
  obtain ⟨u, v, rfl⟩ := arr2 (trodAll_len k.trod).2
  obtain ⟨s, rfl, hs⟩ := k.string 0 rfl rfl (by kernel_rfl)
  obtain ⟨n, rfl⟩ := k.int (i := .i64) 1 rfl rfl (by kernel_rfl)
  exact walkH [.fact Tab] (fun e he => ⟨_, List.mem_singleton.1 he, tab_imm (tab_of hL)⟩) (ClockParses_c s.data.toList n hs _ fun w hw => hw.1)

theorem lifted (os : Os) (started : os.Started) (H : Type) (enc : TypeId × Value → H) :
    ReturnsInHanded {} Tryd.checked os 4 .any (fun w args => (Rows.clockParsesSpec.pre enc Tryd.prog Tryd.f4 [] false w args ∧ laidMetH Tryd.prog laid3 w) ∧ sizedMet enc Tryd.prog Tryd.f4 (OpenSpec.ofChange Rows.clockParsesSpec) false w args) (Rows.clockParsesSpec.post enc Tryd.prog Tryd.f4 false true false false) := by
  refine liftL (C := Tryd.checked) own started (by kernel_rfl) Tryd.func4
    (ChangeSpec.witness_shaped (enc := enc) (C := Tryd.checked) (os := os) (X := fun w _ => laidMetH Tryd.prog laid3 w) false (World.doorLaid Tryd.prog 400 os) #[.string ⟨#[]⟩, .int .i64 0] 8 rfl (World.shaped_of_RefB (by kernel_rfl) (by kernel_rfl)) (by kernel_rfl) (by kernel_rfl) (by kernel_rfl) (door_met os _))
    laidOut rfl (t := _) rfl (by kernel_rfl) (by kernel_rfl) ?_ walk
  intro ds hd
  match ds, hd with
  | [d0, d1], _ => rfl

theorem over : Rows.clockParsesRow.holds Tryd.pinned (OpenSpec.ofChange Rows.clockParsesSpec) :=
  OpenClaim.holds_of_wide 4 Tryd.f4 rfl rfl rfl rfl rfl rfl rfl ⟨rfl, rfl, rfl, rfl, rfl⟩ rfl rfl rfl rfl rfl (by kernel_rfl) Tryd.func4 (by kernel_rfl)
    (of_decide_eq_true (by kernel_rfl)) (by unfold Func.isWrapper; first | (rw [if_pos (by decide +kernel)]; kernel_rfl) | (rw [if_neg (by decide +kernel)]; exact ⟨rfl, rfl⟩))
    (fun os started H enc _ => lifted os started H enc)

theorem proved : Rows.ClockParsesCardSaid :=
  Claim7.holds_tied_plain_at .later [] [.data, .data, .data] true (true, "9053b73347983b2093c328cc46a28d30ea270d95e0de117404d5ed97b4c382a0") false
    over (fun _ h => by cases h) (by kernel_rfl) (fun _ h => by cases h) clockParses_row_tie rfl ⟨rfl, rfl⟩ (by kernel_rfl) rfl
    (fun f fn hf hfn => by
      obtain rfl : f = 4 := Option.some.inj ((show Tryd.prog.funcNamed "cabochon/cabochonlaw05.ClockParses" = some 4 by kernel_rfl).symm.trans hf) |>.symm
      obtain rfl : fn = Tryd.f4 := (Option.some.inj (Tryd.func4.symm.trans hfn)).symm
      exact ⟨by kernel_rfl, fun j t ht => by
        have hm : t ∈ Tryd.f4.params.toList := by simpa using Array.mem_of_getElem? ht
        have hall : (Tryd.f4.params.toList.all fun u => !Tryd.prog.wantsStandIn u) = true := by kernel_rfl
        exact (show Tryd.prog.wantsStandIn t = false by simpa using List.all_eq_true.1 hall t hm)⟩)
    (by kernel_rfl)
#print axioms proved
end ClockParses
end Go.Proofs.YtnecdpkmmncfaaaDoor
