/-
  ClockDatesCardSaid is proved: of every date and every number ClockDates returns true and leaves its arguments as they were; the listed tables are tied to the program's text.
-/
import Derived.Test.YtnecdpkmmncfaaaDoorR0
import Derived.Test.YtnecdpkmmncfaaaDoorE4
import Derived.Test.YtnecdpkmmncfaaaDoorAx19
import Derived.Test.YtnecdpkmmncfaaaDoorCards
import Derived.Test.YtnecdpkmmncfaaaDoorTie
namespace Go.Proofs.YtnecdpkmmncfaaaDoor
open Go.ChangeShapes Go.WideShapes Go.ChangeAt Go.RowKit Go.AX
set_option maxRecDepth 100000

/-- What the rows list. -/
def laid3 : List (String × DataW Unit) := [("math/bits.deBruijn32tab", Rows.laid_math_bits_deBruijn32tab), ("math/bits.deBruijn64tab", Rows.laid_math_bits_deBruijn64tab), ("internal/strconv.uint64pow10", Rows.laid_internal_strconv_uint64pow10)]
theorem door_met (os : Os) (args : Array Value) : laidMetH Tryd.prog laid3 ((World.doorLaid Tryd.prog 400 os).forCall (fun _ _ => 0) ⟨#[], args, []⟩).memory :=
  laidMetH_of_parts3 (fuel := 8) (laidMet_of_run' 8 (by kernel_rfl) (by kernel_rfl)) (by kernel_rfl) (by kernel_rfl)
theorem tab_of {W : World} (h : laidMetH Tryd.prog laid3 W) : Tab W := by
  rw [MakeChecks.laidMetH_plain _ _ _ (by kernel_rfl)] at h
  exact Lib.tabIs_of_head (rest := []) (g := 0) (t := 100) (e := 87) (n := 20) (by kernel_rfl) (by kernel_rfl) (by kernel_rfl) (by kernel_rfl) (by kernel_rfl) (by kernel_rfl) (laid_tail (laid_tail h))

namespace ClockDates
theorem walk {H : Type} {enc : TypeId × Value → H} (W : World) (base : Nat) (args : Array Value) (ds : List (DataW H)) (p : List MemPlace) (k : Known0 enc Tryd.prog Tryd.f3 W base args ds p) (hL : laidMetH Tryd.prog laid3 W) : Walk Tryd.prog 3 args W := by
  obtain ⟨u, v, rfl⟩ := arr2 (trodAll_len k.trod).2
  obtain ⟨l, rfl, hl⟩ := struct_ints (n := 6) Tryd.underlying23 (by kernel_rfl) (k.val 0 _ u rfl rfl)
  obtain ⟨n, rfl⟩ := k.int (i := .i64) 1 rfl rfl (by kernel_rfl)
  match l, hl with
  | [y, m, d, h, i, s], _ => exact walkH [.fact Tab] (fun e he => ⟨_, List.mem_singleton.1 he, tab_imm (tab_of hL)⟩) (ClockDates_c y m d h i s n _ fun w hw => hw.1)

theorem lifted (os : Os) (started : os.Started) (H : Type) (enc : TypeId × Value → H) :
    ReturnsInHanded {} Tryd.checked os 3 .any (fun w args => (Rows.clockDatesSpec.pre enc Tryd.prog Tryd.f3 [] false w args ∧ laidMetH Tryd.prog laid3 w) ∧ sizedMet enc Tryd.prog Tryd.f3 (OpenSpec.ofChange Rows.clockDatesSpec) false w args) (Rows.clockDatesSpec.post enc Tryd.prog Tryd.f3 false true false false) := by
  refine liftL (C := Tryd.checked) own started (by kernel_rfl) Tryd.func3
    (ChangeSpec.witness_shaped (enc := enc) (C := Tryd.checked) (os := os) (X := fun w _ => laidMetH Tryd.prog laid3 w) false (World.doorLaid Tryd.prog 400 os) #[.agg #[.int .i64 0, .int .i64 0, .int .i64 0, .int .i64 0, .int .i64 0, .int .i64 0], .int .i64 0] 8 rfl (World.shaped_of_RefB (by kernel_rfl) (by kernel_rfl)) (by kernel_rfl) (by kernel_rfl) (by kernel_rfl) (door_met os _))
    laidOut rfl (t := _) rfl (by kernel_rfl) (by kernel_rfl) ?_ walk
  intro ds hd
  match ds, hd with
  | [d0, d1], _ => rfl

theorem over : Rows.clockDatesRow.holds Tryd.pinned (OpenSpec.ofChange Rows.clockDatesSpec) :=
  OpenClaim.holds_of_wide 3 Tryd.f3 rfl rfl rfl rfl rfl rfl rfl ⟨rfl, rfl, rfl, rfl, rfl⟩ rfl rfl rfl rfl rfl (by kernel_rfl) Tryd.func3 (by kernel_rfl)
    (of_decide_eq_true (by kernel_rfl)) (by unfold Func.isWrapper; first | (rw [if_pos (by decide +kernel)]; kernel_rfl) | (rw [if_neg (by decide +kernel)]; exact ⟨rfl, rfl⟩))
    (fun os started H enc _ => lifted os started H enc)

theorem proved : Rows.ClockDatesCardSaid :=
  Claim7.holds_tied_plain_at .later [] [.data, .data, .data] true (true, "9053b73347983b2093c328cc46a28d30ea270d95e0de117404d5ed97b4c382a0") false
    over (fun _ h => by cases h) (by kernel_rfl) (fun _ h => by cases h) clockDates_row_tie rfl ⟨rfl, rfl⟩ (by kernel_rfl) rfl
    (fun f fn hf hfn => by
      obtain rfl : f = 3 := Option.some.inj ((show Tryd.prog.funcNamed "cabochon/cabochonlaw05.ClockDates" = some 3 by kernel_rfl).symm.trans hf) |>.symm
      obtain rfl : fn = Tryd.f3 := (Option.some.inj (Tryd.func3.symm.trans hfn)).symm
      exact ⟨by kernel_rfl, fun j t ht => by
        have hm : t ∈ Tryd.f3.params.toList := by simpa using Array.mem_of_getElem? ht
        have hall : (Tryd.f3.params.toList.all fun u => !Tryd.prog.wantsStandIn u) = true := by kernel_rfl
        exact (show Tryd.prog.wantsStandIn t = false by simpa using List.all_eq_true.1 hall t hm)⟩)
    (by kernel_rfl)
#print axioms proved
end ClockDates
end Go.Proofs.YtnecdpkmmncfaaaDoor
