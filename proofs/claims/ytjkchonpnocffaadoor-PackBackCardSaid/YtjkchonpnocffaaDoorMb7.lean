/-
  PackBackCardSaid is proved: of every list of numbers PackBack returns true and leaves its argument as it was; the listed tables are tied to the program's text.
-/
import Derived.Test.YtjkchonpnocffaaDoorCards
import Derived.Test.YtjkchonpnocffaaDoorTie
import Derived.Test.YtjkchonpnocffaaDoorMb6
/-
  Contracts: items for the program; a form and items that numbers make (law, document).
-/
namespace Go.Proofs.YtjkchonpnocffaaDoor
open Go.AX Go.RowKit Go.Pack
set_option maxRecDepth 20000

theorem back_c (ia : Option Addr) (l : List Pack.Item) (cap : Nat) (hl : l.length ≤ 1000000) (ha : l ≠ [] → ia.isSome = true) : SpecF Tryd.prog 20 [.slice ia l.length cap] (ItemsF ia l) (ItR l) := by
-- the function: cabochon/cabochonlaw03.back, the type of the items that are made: pack.Item
  refine specF hm Tryd.func20 (by kernel_rfl) rfl rfl ?_
  (first | refine wX ?_ | exact wZ)
  refine LoopN.intro (Nat × Option Nat × Nat) (fun ⟨i, ob, oc⟩ => i ≤ l.length ∧ ((ob = none → i = 0 ∧ oc = 0) ∧ i ≤ oc)) (fun ⟨i, ob, oc⟩ => mkS Tryd.f20.ntmps 0 [(0, .c (.v (.slice ia l.length cap))), (3, .c (.v (.slice (at0 ob) i oc))), (4, .c (.v (.int .i64 (i : Int))))])
    (fun ⟨i, ob, oc⟩ => [.fact (ItemsF ia l), .app 49 3 (itemsC (l.take i)) (at0 ob) i oc]) (fun ⟨i, _, _⟩ => l.length - i) [.app 0 0 [] none 0 0] rfl
    (fun _ => rfl) (fun _ => rfl) (fun _ _ => okHB_eq rfl) ⟨(0, none, 0), ⟨Nat.zero_le _, ⟨fun _ => ⟨rfl, rfl⟩, Nat.le_refl _⟩⟩, ?_, ⟨wkE_refl _, wkE_nil, wkH_nil _⟩⟩ ?_
  · (repeat' (first | exact trivial | refine And.intro (by with_reducible rfl) ?_ | (with_reducible exact wkC_refl _) | (with_reducible exact wkCs_refl _) | refine And.intro ?_ ?_))
    all_goals rfl
  rintro ⟨i, ob, oc⟩ ⟨hi, ok⟩
  (first | refine wX ?_ | exact wZ)
  refine brd_dec (fun h1 => ?_) (fun h1 => ?_)
  · obtain ⟨p, hp⟩ : ∃ p, l[i]? = some p := ⟨_, List.getElem?_eq_getElem (by omega)⟩
    have hsa : ia.isSome = true := ha (fun h => by rw [h] at hp; cases hp)
    have hsn : l.take (i + 1) = l.take i ++ [p] := by rw [List.take_add_one, hp]; rfl
    have hce : itemsC (l.take i) ++ itemC p = itemsC (l.take (i + 1)) := by rw [hsn, itemsC_snoc]
    (first | refine wX ?_ | exact wZ)
    refine DrawN.plan [0, 1, 2, 6, 7, 11, 12] [(3, 1), (4, 1), (5, 1), (8, 1), (9, 1), (10, 1), (13, 1), (14, 1), (15, 1), (16, 1), (17, 0)] [(18, 0), (19, 0)] (by decide +kernel) ?_
    (first | refine wX ?_ | exact wZ)
    refine Nd.mk ⟨hsa, by omega, by omega⟩ ?_
    (first | refine wX ?_ | exact wZ)
    refine LdN.fld (.bool p.isText) rfl (fun w hw => hw.1) (by rw [Int.toNat_natCast]; exact itemsC_get l i 0 (by decide) hp) ?_
    (first | refine wX ?_ | exact wZ)
    refine Nd.mk ⟨hsa, by omega, by omega⟩ ?_
    (first | refine wX ?_ | exact wZ)
    refine LdN.fld (.int .i64 p.int) rfl (fun w hw => hw.1) (by rw [Int.toNat_natCast]; exact itemsC_get l i 1 (by decide) hp) ?_
    (first | refine wX ?_ | exact wZ)
    refine Nd.mk ⟨hsa, by omega, by omega⟩ ?_
    (first | refine wX ?_ | exact wZ)
    refine LdN.fld (.string (bs p.text)) rfl (fun w hw => hw.1) (by rw [Int.toNat_natCast]; exact itemsC_get l i 2 (by decide) hp) ?_
    (first | refine wX ?_ | exact wZ)
    refine Nd.mk ⟨by omega, rfl, rfl⟩ ?_
    (conv => whnf)
    refine AppN.grow 1 (itemsC (l.take i)) _ rfl rfl ⟨by omega, ⟨by show (i + 1) * 32 ≤ _; omega, by show i + 1 < _; omega⟩, by decide⟩ fun b' cap' h3 h4 => ?_
    (first | refine wX ?_ | exact wZ)
    refine ⟨(i + 1, some b', cap'), ⟨by omega, ⟨(fun h => by cases h), h3⟩⟩, by show l.length - (i + 1) < l.length - i; omega, ?_, ⟨wkE_refl _, .inl ⟨rfl, rfl, hce, rfl, rfl, rfl⟩, wkH_nil _⟩⟩
    · (repeat' (first | exact trivial | refine And.intro (by with_reducible rfl) ?_ | (with_reducible exact wkC_refl _) | (with_reducible exact wkCs_refl _) | refine And.intro ?_ ?_))
      all_goals first | rfl | exact av_int (by first | omega | (rw [wrap_i64 (by omega)]; omega))
  · have hil : i = l.length := by omega
    subst hil
    rw [List.take_length]
    (first | refine wX ?_ | exact wZ)
    refine fin_p (fun w => SlAt (at0 ob) (l.length * 3) (itemsC l) w) ⟨ob, oc, rfl, fun h => ?_, fun _ h => h⟩ (fun w hw => hw.2.1)
    exact List.eq_nil_of_length_eq_zero (ok.1 h).1
theorem Repeat7a_c (c : Nat) (hc : c < 4) : ∀ H, SpecH Tryd.prog 38 (pvs [.string ⟨#[55, 97]⟩, .int .i64 c]) H (Ret (.string (bs (Lib.repeatL [55, 97] c))) H) := fun H =>
  SpecH.rawP (R := fun r => r = .string (bs (Lib.repeatL [55, 97] c))) (callOk Tryd.func38 (by kernel_rfl) rfl) (fun w hw => (Tryd.strings_Repeat ⟨#[55, 97]⟩ c w (by omega) (by simp [ByteArray.size]; omega)).mono fun e w' ⟨he, bel⟩ => ⟨_, he, rfl, bel⟩) fun r hr => by subst hr; exact ⟨rfl, rfl⟩
def IntsF (a : Option Addr) (l : List Int) (w : World) : Prop := SlAt a l.length (l.map (Value.int .i64)) w
/-- Round: a form and items that fit it. -/
def RoundR (v : Value) (G : World → Prop) : Prop := ∃ (form : List UInt8) (ds : List Dir) (out : List UInt8) (items : List Pack.Item) (ob : Option Nat) (cap : Nat),
  v = .tuple #[.string (bs form), .slice (at0 ob) items.length cap] ∧ ROut form items ds out ∧ (ob = none → items = []) ∧ ∀ w, G w → SlAt (at0 ob) (items.length * 3) (itemsC items) w
theorem lt15 (k : Nat) (h : k < 15) : (lets15.take (k + 1)).drop k = [lets15.getD k 0] := by
  have h2 : k = 0 ∨ k = 1 ∨ k = 2 ∨ k = 3 ∨ k = 4 ∨ k = 5 ∨ k = 6 ∨ k = 7 ∨ k = 8 ∨ k = 9 ∨ k = 10 ∨ k = 11 ∨ k = 12 ∨ k = 13 ∨ k = 14 := by omega
  rcases h2 with rfl | rfl | rfl | rfl | rfl | rfl | rfl | rfl | rfl | rfl | rfl | rfl | rfl | rfl | rfl <;> rfl
theorem wrap_u64m (n : Int) : IntKind.u64.wrap n = n % 18446744073709551616 := by
  simp [IntKind.wrap, IntKind.bits, IntKind.signed]
theorem u_nat (n : Int) : ∃ U : Nat, IntKind.u64.wrap n = (U : Int) ∧ U < 18446744073709551616 := ⟨(n % 18446744073709551616).toNat, by rw [wrap_u64m]; omega, by omega⟩
theorem tdiv2 (n : Int) : (n.tdiv 2).natAbs * 2 ≤ n.natAbs := by
  rw [Int.natAbs_tdiv]
  exact Nat.div_mul_le_self n.natAbs 2
theorem av_bs2 {a b : List UInt8} (h : a = b) : AV.c (.v (.string (bs a))) = AV.c (.v (.string (bs b))) := by rw [h]
theorem neg_w {m : Int} (h : -9223372036854775808 ≤ m) (h2 : m < 0) : IntKind.i64.wrap (0 - IntKind.i64.wrap (m + 1)) = -(m + 1) := by
  rw [wrap_i64 (x := m + 1) (by omega), wrap_i64 (by omega)]
  omega
theorem rep7 : ∀ c : Fin 4, (Lib.repeatL [55, 97] c.val).length ≤ 6 ∧ (Lib.repeatL [55, 97] c.val).contains 0 = false ∧ (Lib.repeatL [55, 97] c.val).length % 2 = 0 ∧ hexP (Lib.repeatL [55, 97] c.val) = some (List.replicate c.val 122) ∧ hex (List.replicate c.val 122) = Lib.repeatL [55, 97] c.val := by decide +kernel
theorem big_k : ∀ k : Fin 12, [83, 115, 76, 108, 81, 113].contains (lets15.getD k.val 0) = true → 2 ≤ k.val ∧ k.val < 8 := by decide +kernel
set_option maxHeartbeats 4000000 in
theorem Round_c (ia : Option Addr) (l : List Int) (pcap : Nat) (ha : l ≠ [] → ia.isSome = true) (hr : ∀ p ∈ l, -9223372036854775808 ≤ p ∧ p < 9223372036854775808) :
    SpecF Tryd.prog 19 [.slice ia l.length pcap] (IntsF ia l) RoundR := by
  refine specFJ hm Tryd.func19 (by kernel_rfl) rfl rfl ?_
  ((conv => whnf); (repeat ((first | refine SeqN.plain ?_ | refine BoxN.own ?_ | refine RwN.own ?_ | refine VrN.norm (wrap_i64 (by omega)) ?_ | refine VrN.keep ?_ | refine DrawN.calm (by decide +kernel) ?_ | refine Nd.mk (by decide +kernel) ?_ | refine Nd.mk (by omega) ?_ | (refine Nd.mk ?_ ?_; focus ((repeat' (first | exact trivial | exact wkE_refl _ | refine And.intro ?_ ?_)); done)) | refine RdN.intro _ rfl (by rfl) ?_); (conv => whnf))))
  refine LoopN.intro (Nat × List UInt8 × List Pack.Item × Option Nat × Nat) (fun ⟨i, form, items, ob, cap⟩ => i ≤ 30 ∧ i ≤ l.length ∧ (∃ ds out, RIn i form items ds out ∧ RP ds items out) ∧ ((ob = none → items = [] ∧ cap = 0) ∧ items.length ≤ cap))
    (fun ⟨i, form, items, ob, cap⟩ => mkS Tryd.f19.ntmps 0 [(0, .c (.v (.slice ia l.length pcap))), (4, .c (.v (.string (bs form)))), (5, .c (.v (.slice (at0 ob) items.length cap))), (6, .c (.v (.int .i64 (i : Int))))])
    (fun ⟨_, _, items, ob, cap⟩ => [.fact (IntsF ia l), .app 70 3 (itemsC items) (at0 ob) items.length cap]) (fun ⟨i, _, _, _, _⟩ => 30 - i) [.app 0 0 [] none 0 0] rfl
    (fun _ => rfl) (fun _ => rfl) (fun _ _ => okHB_eq rfl) ⟨(0, [], [], none, 0), ⟨Nat.zero_le _, Nat.zero_le _, ⟨[], [], RIn.nil, RP.nil⟩, ⟨fun _ => ⟨rfl, rfl⟩, Nat.le_refl _⟩⟩, ?_, ?_⟩ ?_
  · (repeat' (first | exact trivial | refine And.intro (by with_reducible rfl) ?_ | (with_reducible exact wkC_refl _) | (with_reducible exact wkCs_refl _) | refine And.intro ?_ ?_))
    all_goals rfl
  · exact ⟨wkE_refl _, wkE_nil, wkH_nil _⟩
  rintro ⟨i, form, items, ob, cap⟩ ⟨hi30, hil, hin, hob⟩
  obtain ⟨ds, out, hR, hP⟩ := hin
  have hitl := hR.items
  have hfsz := hR.size
  ((conv => whnf); (repeat ((first | refine SeqN.plain ?_ | refine BoxN.own ?_ | refine RwN.own ?_ | refine VrN.norm (wrap_i64 (by omega)) ?_ | refine VrN.keep ?_ | refine DrawN.calm (by decide +kernel) ?_ | refine Nd.mk (by decide +kernel) ?_ | refine Nd.mk (by omega) ?_ | (refine Nd.mk ?_ ?_; focus ((repeat' (first | exact trivial | exact wkE_refl _ | refine And.intro ?_ ?_)); done)) | refine RdN.intro _ rfl (by rfl) ?_); (conv => whnf))))
  refine brd_dec (fun h1 => ?_) (fun h1 => ?_)
  · ((conv => whnf); (repeat ((first | refine SeqN.plain ?_ | refine BoxN.own ?_ | refine RwN.own ?_ | refine VrN.norm (wrap_i64 (by omega)) ?_ | refine VrN.keep ?_ | refine DrawN.calm (by decide +kernel) ?_ | refine Nd.mk (by decide +kernel) ?_ | refine Nd.mk (by omega) ?_ | (refine Nd.mk ?_ ?_; focus ((repeat' (first | exact trivial | exact wkE_refl _ | refine And.intro ?_ ?_)); done)) | refine RdN.intro _ rfl (by rfl) ?_); (conv => whnf))))
    refine brd_dec (fun h2 => ?_) (fun h2 => ?_)
    · obtain ⟨p, hp⟩ : ∃ p, l[i]? = some p := ⟨_, List.getElem?_eq_getElem (by omega)⟩
      have hpr := hr p (List.mem_of_getElem? hp)
      have hsa : ia.isSome = true := ha (fun h => by rw [h] at hp; cases hp)
      have hcell : (l.map (Value.int .i64))[i]? = some (.int .i64 p) := by rw [List.getElem?_map, hp]; rfl
      obtain ⟨U, hU, hUl⟩ := u_nat p
      have hU15 : (U : Int).tmod 15 = ((U % 15 : Nat) : Int) := (Int.ofNat_tmod U 15).symm
      have hk15 : U % 15 < 15 := Nat.mod_lt _ (by decide)
      have hlt := lt15 (U % 15) hk15
      ((conv => whnf); (repeat ((first | refine SeqN.plain ?_ | refine BoxN.own ?_ | refine RwN.own ?_ | refine VrN.norm (wrap_i64 (by omega)) ?_ | refine VrN.keep ?_ | refine DrawN.calm (by decide +kernel) ?_ | refine Nd.mk (by decide +kernel) ?_ | refine Nd.mk (by omega) ?_ | (refine Nd.mk ?_ ?_; focus ((repeat' (first | exact trivial | exact wkE_refl _ | refine And.intro ?_ ?_)); done)) | refine RdN.intro _ rfl (by rfl) ?_); (conv => whnf))))
      refine Nd.mk ⟨hsa, by omega, by omega⟩ ?_
      ((conv => whnf); (repeat ((first | refine SeqN.plain ?_ | refine BoxN.own ?_ | refine RwN.own ?_ | refine VrN.norm (wrap_i64 (by omega)) ?_ | refine VrN.keep ?_ | refine DrawN.calm (by decide +kernel) ?_ | refine Nd.mk (by decide +kernel) ?_ | refine Nd.mk (by omega) ?_ | (refine Nd.mk ?_ ?_; focus ((repeat' (first | exact trivial | exact wkE_refl _ | refine And.intro ?_ ?_)); done)) | refine RdN.intro _ rfl (by rfl) ?_); (conv => whnf))))
      refine LdN.one (.int .i64 p) rfl (fun w hw => hw.1) (by show (l.map (Value.int .i64))[Int.toNat _ * 1]? = _; rw [Int.toNat_natCast, Nat.mul_one]; exact hcell) ?_
      ((conv => whnf); (repeat ((first | refine SeqN.plain ?_ | refine BoxN.own ?_ | refine RwN.own ?_ | refine VrN.norm (wrap_i64 (by omega)) ?_ | refine VrN.keep ?_ | refine DrawN.calm (by decide +kernel) ?_ | refine Nd.mk (by decide +kernel) ?_ | refine Nd.mk (by omega) ?_ | (refine Nd.mk ?_ ?_; focus ((repeat' (first | exact trivial | exact wkE_refl _ | refine And.intro ?_ ?_)); done)) | refine RdN.intro _ rfl (by rfl) ?_); (conv => whnf))))
      generalize hkk : U % 15 = k at *
      have hK : IntKind.i64.wrap ((IntKind.u64.wrap p).tmod 15) = (k : Int) := by rw [hU, hU15, wrap_i64 (by omega)]
      try rw [hK]
      try rw [hU]
      refine ReadW.sl_lh k (k + 1) rfl Tryd.underlying9 rfl rfl rfl ⟨by first | rfl | exact hK | (rw [hU15, wrap_i64 (by omega)]), by first | omega | (rw [wrap_i64 (by omega)]; omega), by omega, by show k + 1 ≤ 15; omega⟩ ?_
      rw [show List.drop k (List.take (k + 1) [67, 99, 83, 115, 76, 108, 81, 113, 110, 78, 119, 85, 97, 90, 72]) = [lets15.getD k 0] from hlt]
      ((conv => whnf); (repeat ((first | refine SeqN.plain ?_ | refine BoxN.own ?_ | refine RwN.own ?_ | refine VrN.norm (wrap_i64 (by omega)) ?_ | refine VrN.keep ?_ | refine DrawN.calm (by decide +kernel) ?_ | refine Nd.mk (by decide +kernel) ?_ | refine Nd.mk (by omega) ?_ | (refine Nd.mk ?_ ?_; focus ((repeat' (first | exact trivial | exact wkE_refl _ | refine And.intro ?_ ?_)); done)) | refine RdN.intro _ rfl (by rfl) ?_); (conv => whnf))))
      refine Nd.mk ⟨hsa, by omega, by omega⟩ ?_
      (first | refine wX ?_ | exact wZ)
      refine LdN.one (.int .i64 p) rfl (fun w hw => hw.1) (by show (l.map (Value.int .i64))[Int.toNat _ * 1]? = _; rw [Int.toNat_natCast, Nat.mul_one]; exact hcell) ?_
      have hd2 : (U : Int).tdiv 2 = ((U / 2 : Nat) : Int) := (Int.ofNat_tdiv U 2).symm
      have hd16 : (U : Int).tdiv 16 = ((U / 16 : Nat) : Int) := (Int.ofNat_tdiv U 16).symm
      have hd32 : (U : Int).tdiv 32 = ((U / 32 : Nat) : Int) := (Int.ofNat_tdiv U 32).symm
      have hd64 : (U : Int).tdiv 64 = ((U / 64 : Nat) : Int) := (Int.ofNat_tdiv U 64).symm
      have h322 : ((U / 32 : Nat) : Int).tmod 2 = ((U / 32 % 2 : Nat) : Int) := (Int.ofNat_tmod (U / 32) 2).symm
      have h642 : ((U / 64 : Nat) : Int).tmod 2 = ((U / 64 % 2 : Nat) : Int) := (Int.ofNat_tmod (U / 64) 2).symm
      have h164 : ((U / 16 : Nat) : Int).tmod 4 = ((U / 16 % 4 : Nat) : Int) := (Int.ofNat_tmod (U / 16) 4).symm
      have h16r : ((U / 16 : Nat) : Int).tmod 55296 = ((U / 16 % 55296 : Nat) : Int) := (Int.ofNat_tmod (U / 16) 55296).symm
      have hu16 : IntKind.u64.wrap ((U / 16 : Nat) : Int) = ((U / 16 : Nat) : Int) := by rw [wrap_u64m]; omega
      have hu64 : IntKind.u64.wrap ((U / 64 : Nat) : Int) = ((U / 64 : Nat) : Int) := by rw [wrap_u64m]; omega
      have hu32 : IntKind.u64.wrap ((U / 32 : Nat) : Int) = ((U / 32 : Nat) : Int) := by rw [wrap_u64m]; omega
      clear hU15 hlt hK hkk
      (first | refine wX ?_ | exact wZ)
      refine SeqN.join Int (fun n => (-9223372036854775808 ≤ n ∧ n < 9223372036854775808) ∧ k < 12 ∧ fitR (lets15.getD k 0) n = true) (fun n => mkS Tryd.f19.ntmps 0 [(0, .c (.v (.slice ia l.length pcap))), (4, .c (.v (.string (bs form)))), (5, .c (.v (.slice (at0 ob) items.length cap))), (6, .c (.v (.int .i64 (i : Int)))), (7, .c (.v (.int .u64 (U : Int)))), (9, .c (.v (.string (bs [lets15.getD k 0])))), (10, .c (.v (.int .i64 n)))])
        (fun _ => [.fact (IntsF ia l), .app 70 3 (itemsC items) (at0 ob) items.length cap]) (fun _ _ => Nat.le_refl _) (fun _ _ => rfl) (fun _ _ => okHB_eq rfl) ?_ ?_
      · have hall : k = 0 ∨ k = 1 ∨ k = 2 ∨ k = 3 ∨ k = 4 ∨ k = 5 ∨ k = 8 ∨ k = 9 ∨ k = 6 ∨ k = 10 ∨ k = 7 ∨ k = 11 ∨ k = 12 ∨ k = 13 ∨ k = 14 := by omega
        rcases hall with rfl | rfl | rfl | rfl | rfl | rfl | rfl | rfl | rfl | rfl | rfl | rfl | rfl | rfl | rfl
        -- 67: the letter, -(m + 1): what becomes of a negative half
        · ((conv => whnf); (repeat ((first | refine SeqN.plain ?_ | refine BoxN.own ?_ | refine RwN.own ?_ | refine VrN.norm (wrap_i64 (by omega)) ?_ | refine VrN.keep ?_ | refine DrawN.calm (by decide +kernel) ?_ | refine Nd.mk (by decide +kernel) ?_ | refine Nd.mk (by omega) ?_ | (refine Nd.mk ?_ ?_; focus ((repeat' (first | exact trivial | exact wkE_refl _ | refine And.intro ?_ ?_)); done)) | refine RdN.intro _ rfl (by rfl) ?_); (conv => whnf))))
          refine loopS Int (fun n => -9223372036854775808 ≤ n ∧ n < 9223372036854775808) (fun n => mkS Tryd.f19.ntmps 0 [(0, .c (.v (.slice ia l.length pcap))), (4, .c (.v (.string (bs form)))), (5, .c (.v (.slice (at0 ob) items.length cap))), (6, .c (.v (.int .i64 (i : Int)))), (7, .c (.v (.int .u64 (U : Int)))), (9, .c (.v (.string (bs [67])))), (10, .c (.v (.int .i64 n)))]) (fun n => n.natAbs) rfl (fun _ => rfl) p hpr ?_ ?_
          · (repeat' (first | exact trivial | refine And.intro (by with_reducible rfl) ?_ | (with_reducible exact wkC_refl _) | (with_reducible exact wkCs_refl _) | refine And.intro ?_ ?_))
            all_goals rfl
          intro n hn
          ((conv => whnf); (repeat ((first | refine SeqN.plain ?_ | refine BoxN.own ?_ | refine RwN.own ?_ | refine VrN.norm (wrap_i64 (by omega)) ?_ | refine VrN.keep ?_ | refine DrawN.calm (by decide +kernel) ?_ | refine Nd.mk (by decide +kernel) ?_ | refine Nd.mk (by omega) ?_ | (refine Nd.mk ?_ ?_; focus ((repeat' (first | exact trivial | exact wkE_refl _ | refine And.intro ?_ ?_)); done)) | refine RdN.intro _ rfl (by rfl) ?_); (conv => whnf))))
          refine call1 (fits_r 67 n (.inr (.inr (by decide))) _) ?_
          cases hf : fitR 67 n with
          | true =>
            ((conv => whnf); (repeat ((first | refine SeqN.plain ?_ | refine BoxN.own ?_ | refine RwN.own ?_ | refine VrN.norm (wrap_i64 (by omega)) ?_ | refine VrN.keep ?_ | refine DrawN.calm (by decide +kernel) ?_ | refine Nd.mk (by decide +kernel) ?_ | refine Nd.mk (by omega) ?_ | (refine Nd.mk ?_ ?_; focus ((repeat' (first | exact trivial | exact wkE_refl _ | refine And.intro ?_ ?_)); done)) | refine RdN.intro _ rfl (by rfl) ?_); (conv => whnf))))
            -- n: the number, hn: the letter, hf: that it fits
            refine ⟨n, ⟨hn, by decide, hf⟩, ?_, by (repeat' (first | exact trivial | exact wkE_refl _ | refine And.intro ?_ ?_))⟩
            (repeat' (first | exact trivial | refine And.intro (by with_reducible rfl) ?_ | (with_reducible exact wkC_refl _) | (with_reducible exact wkCs_refl _) | refine And.intro ?_ ?_))
            all_goals first | rfl | exact av_int (by first | omega | (rw [wrap_i64 (by omega)]) | (rw [wrap_u64m, wrap_i64 (by omega)]; omega))
          | false =>
            have h0 : n ≠ 0 := fun h => by subst h; exact absurd hf (by decide)
            have hm2 := tdiv2 n
            obtain ⟨m, hm⟩ : ∃ m, n.tdiv 2 = m := ⟨_, rfl⟩
            rw [hm] at hm2
            ((conv => whnf); (repeat ((first | refine SeqN.plain ?_ | refine BoxN.own ?_ | refine RwN.own ?_ | refine VrN.norm (wrap_i64 (by omega)) ?_ | refine VrN.keep ?_ | refine DrawN.calm (by decide +kernel) ?_ | refine Nd.mk (by decide +kernel) ?_ | refine Nd.mk (by omega) ?_ | (refine Nd.mk ?_ ?_; focus ((repeat' (first | exact trivial | exact wkE_refl _ | refine And.intro ?_ ?_)); done)) | refine RdN.intro _ rfl (by rfl) ?_); (conv => whnf))))
            rw [hm]
            refine brd_dec (fun h3 => ?_) (fun h3 => ?_)
            · ((conv => whnf); (repeat ((first | refine SeqN.plain ?_ | refine BoxN.own ?_ | refine RwN.own ?_ | refine VrN.norm (wrap_i64 (by omega)) ?_ | refine VrN.keep ?_ | refine DrawN.calm (by decide +kernel) ?_ | refine Nd.mk (by decide +kernel) ?_ | refine Nd.mk (by omega) ?_ | (refine Nd.mk ?_ ?_; focus ((repeat' (first | exact trivial | exact wkE_refl _ | refine And.intro ?_ ?_)); done)) | refine RdN.intro _ rfl (by rfl) ?_); (conv => whnf))))
              refine call1 (signed_r 67 _) ?_
              ((conv => whnf); (repeat ((first | refine SeqN.plain ?_ | refine BoxN.own ?_ | refine RwN.own ?_ | refine VrN.norm (wrap_i64 (by omega)) ?_ | refine VrN.keep ?_ | refine DrawN.calm (by decide +kernel) ?_ | refine Nd.mk (by decide +kernel) ?_ | refine Nd.mk (by omega) ?_ | (refine Nd.mk ?_ ?_; focus ((repeat' (first | exact trivial | exact wkE_refl _ | refine And.intro ?_ ?_)); done)) | refine RdN.intro _ rfl (by rfl) ?_); (conv => whnf))))
              refine ⟨-(m + 1), ⟨by omega, by omega⟩, by omega, ?_, by (repeat' (first | exact trivial | exact wkE_refl _ | refine And.intro ?_ ?_))⟩
              (repeat' (first | exact trivial | refine And.intro (by with_reducible rfl) ?_ | (with_reducible exact wkC_refl _) | (with_reducible exact wkCs_refl _) | refine And.intro ?_ ?_))
              all_goals first | rfl | exact av_int (neg_w (by omega) h3)
            · ((conv => whnf); (repeat ((first | refine SeqN.plain ?_ | refine BoxN.own ?_ | refine RwN.own ?_ | refine VrN.norm (wrap_i64 (by omega)) ?_ | refine VrN.keep ?_ | refine DrawN.calm (by decide +kernel) ?_ | refine Nd.mk (by decide +kernel) ?_ | refine Nd.mk (by omega) ?_ | (refine Nd.mk ?_ ?_; focus ((repeat' (first | exact trivial | exact wkE_refl _ | refine And.intro ?_ ?_)); done)) | refine RdN.intro _ rfl (by rfl) ?_); (conv => whnf))))
              refine ⟨m, ⟨by omega, by omega⟩, by omega, ?_, by (repeat' (first | exact trivial | exact wkE_refl _ | refine And.intro ?_ ?_))⟩
              (repeat' (first | exact trivial | refine And.intro (by with_reducible rfl) ?_ | (with_reducible exact wkC_refl _) | (with_reducible exact wkCs_refl _) | refine And.intro ?_ ?_))
              all_goals rfl
        -- 99: the letter, m: what becomes of a negative half
        · ((conv => whnf); (repeat ((first | refine SeqN.plain ?_ | refine BoxN.own ?_ | refine RwN.own ?_ | refine VrN.norm (wrap_i64 (by omega)) ?_ | refine VrN.keep ?_ | refine DrawN.calm (by decide +kernel) ?_ | refine Nd.mk (by decide +kernel) ?_ | refine Nd.mk (by omega) ?_ | (refine Nd.mk ?_ ?_; focus ((repeat' (first | exact trivial | exact wkE_refl _ | refine And.intro ?_ ?_)); done)) | refine RdN.intro _ rfl (by rfl) ?_); (conv => whnf))))
          refine loopS Int (fun n => -9223372036854775808 ≤ n ∧ n < 9223372036854775808) (fun n => mkS Tryd.f19.ntmps 0 [(0, .c (.v (.slice ia l.length pcap))), (4, .c (.v (.string (bs form)))), (5, .c (.v (.slice (at0 ob) items.length cap))), (6, .c (.v (.int .i64 (i : Int)))), (7, .c (.v (.int .u64 (U : Int)))), (9, .c (.v (.string (bs [99])))), (10, .c (.v (.int .i64 n)))]) (fun n => n.natAbs) rfl (fun _ => rfl) p hpr ?_ ?_
          · (repeat' (first | exact trivial | refine And.intro (by with_reducible rfl) ?_ | (with_reducible exact wkC_refl _) | (with_reducible exact wkCs_refl _) | refine And.intro ?_ ?_))
            all_goals rfl
          intro n hn
          ((conv => whnf); (repeat ((first | refine SeqN.plain ?_ | refine BoxN.own ?_ | refine RwN.own ?_ | refine VrN.norm (wrap_i64 (by omega)) ?_ | refine VrN.keep ?_ | refine DrawN.calm (by decide +kernel) ?_ | refine Nd.mk (by decide +kernel) ?_ | refine Nd.mk (by omega) ?_ | (refine Nd.mk ?_ ?_; focus ((repeat' (first | exact trivial | exact wkE_refl _ | refine And.intro ?_ ?_)); done)) | refine RdN.intro _ rfl (by rfl) ?_); (conv => whnf))))
          refine call1 (fits_r 99 n (.inr (.inr (by decide))) _) ?_
          cases hf : fitR 99 n with
          | true =>
            ((conv => whnf); (repeat ((first | refine SeqN.plain ?_ | refine BoxN.own ?_ | refine RwN.own ?_ | refine VrN.norm (wrap_i64 (by omega)) ?_ | refine VrN.keep ?_ | refine DrawN.calm (by decide +kernel) ?_ | refine Nd.mk (by decide +kernel) ?_ | refine Nd.mk (by omega) ?_ | (refine Nd.mk ?_ ?_; focus ((repeat' (first | exact trivial | exact wkE_refl _ | refine And.intro ?_ ?_)); done)) | refine RdN.intro _ rfl (by rfl) ?_); (conv => whnf))))
            -- n: the number, hn: the letter, hf: that it fits
            refine ⟨n, ⟨hn, by decide, hf⟩, ?_, by (repeat' (first | exact trivial | exact wkE_refl _ | refine And.intro ?_ ?_))⟩
            (repeat' (first | exact trivial | refine And.intro (by with_reducible rfl) ?_ | (with_reducible exact wkC_refl _) | (with_reducible exact wkCs_refl _) | refine And.intro ?_ ?_))
            all_goals first | rfl | exact av_int (by first | omega | (rw [wrap_i64 (by omega)]) | (rw [wrap_u64m, wrap_i64 (by omega)]; omega))
          | false =>
            have h0 : n ≠ 0 := fun h => by subst h; exact absurd hf (by decide)
            have hm2 := tdiv2 n
            obtain ⟨m, hm⟩ : ∃ m, n.tdiv 2 = m := ⟨_, rfl⟩
            rw [hm] at hm2
            ((conv => whnf); (repeat ((first | refine SeqN.plain ?_ | refine BoxN.own ?_ | refine RwN.own ?_ | refine VrN.norm (wrap_i64 (by omega)) ?_ | refine VrN.keep ?_ | refine DrawN.calm (by decide +kernel) ?_ | refine Nd.mk (by decide +kernel) ?_ | refine Nd.mk (by omega) ?_ | (refine Nd.mk ?_ ?_; focus ((repeat' (first | exact trivial | exact wkE_refl _ | refine And.intro ?_ ?_)); done)) | refine RdN.intro _ rfl (by rfl) ?_); (conv => whnf))))
            rw [hm]
            refine brd_dec (fun h3 => ?_) (fun h3 => ?_)
            · ((conv => whnf); (repeat ((first | refine SeqN.plain ?_ | refine BoxN.own ?_ | refine RwN.own ?_ | refine VrN.norm (wrap_i64 (by omega)) ?_ | refine VrN.keep ?_ | refine DrawN.calm (by decide +kernel) ?_ | refine Nd.mk (by decide +kernel) ?_ | refine Nd.mk (by omega) ?_ | (refine Nd.mk ?_ ?_; focus ((repeat' (first | exact trivial | exact wkE_refl _ | refine And.intro ?_ ?_)); done)) | refine RdN.intro _ rfl (by rfl) ?_); (conv => whnf))))
              refine call1 (signed_r 99 _) ?_
              ((conv => whnf); (repeat ((first | refine SeqN.plain ?_ | refine BoxN.own ?_ | refine RwN.own ?_ | refine VrN.norm (wrap_i64 (by omega)) ?_ | refine VrN.keep ?_ | refine DrawN.calm (by decide +kernel) ?_ | refine Nd.mk (by decide +kernel) ?_ | refine Nd.mk (by omega) ?_ | (refine Nd.mk ?_ ?_; focus ((repeat' (first | exact trivial | exact wkE_refl _ | refine And.intro ?_ ?_)); done)) | refine RdN.intro _ rfl (by rfl) ?_); (conv => whnf))))
              refine ⟨m, ⟨by omega, by omega⟩, by omega, ?_, by (repeat' (first | exact trivial | exact wkE_refl _ | refine And.intro ?_ ?_))⟩
              (repeat' (first | exact trivial | refine And.intro (by with_reducible rfl) ?_ | (with_reducible exact wkC_refl _) | (with_reducible exact wkCs_refl _) | refine And.intro ?_ ?_))
              all_goals first | rfl | exact av_int (neg_w (by omega) h3)
            · ((conv => whnf); (repeat ((first | refine SeqN.plain ?_ | refine BoxN.own ?_ | refine RwN.own ?_ | refine VrN.norm (wrap_i64 (by omega)) ?_ | refine VrN.keep ?_ | refine DrawN.calm (by decide +kernel) ?_ | refine Nd.mk (by decide +kernel) ?_ | refine Nd.mk (by omega) ?_ | (refine Nd.mk ?_ ?_; focus ((repeat' (first | exact trivial | exact wkE_refl _ | refine And.intro ?_ ?_)); done)) | refine RdN.intro _ rfl (by rfl) ?_); (conv => whnf))))
              refine ⟨m, ⟨by omega, by omega⟩, by omega, ?_, by (repeat' (first | exact trivial | exact wkE_refl _ | refine And.intro ?_ ?_))⟩
              (repeat' (first | exact trivial | refine And.intro (by with_reducible rfl) ?_ | (with_reducible exact wkC_refl _) | (with_reducible exact wkCs_refl _) | refine And.intro ?_ ?_))
              all_goals rfl
        -- 83: the letter, -(m + 1): what becomes of a negative half
        · ((conv => whnf); (repeat ((first | refine SeqN.plain ?_ | refine BoxN.own ?_ | refine RwN.own ?_ | refine VrN.norm (wrap_i64 (by omega)) ?_ | refine VrN.keep ?_ | refine DrawN.calm (by decide +kernel) ?_ | refine Nd.mk (by decide +kernel) ?_ | refine Nd.mk (by omega) ?_ | (refine Nd.mk ?_ ?_; focus ((repeat' (first | exact trivial | exact wkE_refl _ | refine And.intro ?_ ?_)); done)) | refine RdN.intro _ rfl (by rfl) ?_); (conv => whnf))))
          refine loopS Int (fun n => -9223372036854775808 ≤ n ∧ n < 9223372036854775808) (fun n => mkS Tryd.f19.ntmps 0 [(0, .c (.v (.slice ia l.length pcap))), (4, .c (.v (.string (bs form)))), (5, .c (.v (.slice (at0 ob) items.length cap))), (6, .c (.v (.int .i64 (i : Int)))), (7, .c (.v (.int .u64 (U : Int)))), (9, .c (.v (.string (bs [83])))), (10, .c (.v (.int .i64 n)))]) (fun n => n.natAbs) rfl (fun _ => rfl) p hpr ?_ ?_
          · (repeat' (first | exact trivial | refine And.intro (by with_reducible rfl) ?_ | (with_reducible exact wkC_refl _) | (with_reducible exact wkCs_refl _) | refine And.intro ?_ ?_))
            all_goals rfl
          intro n hn
          ((conv => whnf); (repeat ((first | refine SeqN.plain ?_ | refine BoxN.own ?_ | refine RwN.own ?_ | refine VrN.norm (wrap_i64 (by omega)) ?_ | refine VrN.keep ?_ | refine DrawN.calm (by decide +kernel) ?_ | refine Nd.mk (by decide +kernel) ?_ | refine Nd.mk (by omega) ?_ | (refine Nd.mk ?_ ?_; focus ((repeat' (first | exact trivial | exact wkE_refl _ | refine And.intro ?_ ?_)); done)) | refine RdN.intro _ rfl (by rfl) ?_); (conv => whnf))))
          refine call1 (fits_r 83 n (.inr (.inr (by decide))) _) ?_
          cases hf : fitR 83 n with
          | true =>
            ((conv => whnf); (repeat ((first | refine SeqN.plain ?_ | refine BoxN.own ?_ | refine RwN.own ?_ | refine VrN.norm (wrap_i64 (by omega)) ?_ | refine VrN.keep ?_ | refine DrawN.calm (by decide +kernel) ?_ | refine Nd.mk (by decide +kernel) ?_ | refine Nd.mk (by omega) ?_ | (refine Nd.mk ?_ ?_; focus ((repeat' (first | exact trivial | exact wkE_refl _ | refine And.intro ?_ ?_)); done)) | refine RdN.intro _ rfl (by rfl) ?_); (conv => whnf))))
            -- n: the number, hn: the letter, hf: that it fits
            refine ⟨n, ⟨hn, by decide, hf⟩, ?_, by (repeat' (first | exact trivial | exact wkE_refl _ | refine And.intro ?_ ?_))⟩
            (repeat' (first | exact trivial | refine And.intro (by with_reducible rfl) ?_ | (with_reducible exact wkC_refl _) | (with_reducible exact wkCs_refl _) | refine And.intro ?_ ?_))
            all_goals first | rfl | exact av_int (by first | omega | (rw [wrap_i64 (by omega)]) | (rw [wrap_u64m, wrap_i64 (by omega)]; omega))
          | false =>
            have h0 : n ≠ 0 := fun h => by subst h; exact absurd hf (by decide)
            have hm2 := tdiv2 n
            obtain ⟨m, hm⟩ : ∃ m, n.tdiv 2 = m := ⟨_, rfl⟩
            rw [hm] at hm2
            ((conv => whnf); (repeat ((first | refine SeqN.plain ?_ | refine BoxN.own ?_ | refine RwN.own ?_ | refine VrN.norm (wrap_i64 (by omega)) ?_ | refine VrN.keep ?_ | refine DrawN.calm (by decide +kernel) ?_ | refine Nd.mk (by decide +kernel) ?_ | refine Nd.mk (by omega) ?_ | (refine Nd.mk ?_ ?_; focus ((repeat' (first | exact trivial | exact wkE_refl _ | refine And.intro ?_ ?_)); done)) | refine RdN.intro _ rfl (by rfl) ?_); (conv => whnf))))
            rw [hm]
            refine brd_dec (fun h3 => ?_) (fun h3 => ?_)
            · ((conv => whnf); (repeat ((first | refine SeqN.plain ?_ | refine BoxN.own ?_ | refine RwN.own ?_ | refine VrN.norm (wrap_i64 (by omega)) ?_ | refine VrN.keep ?_ | refine DrawN.calm (by decide +kernel) ?_ | refine Nd.mk (by decide +kernel) ?_ | refine Nd.mk (by omega) ?_ | (refine Nd.mk ?_ ?_; focus ((repeat' (first | exact trivial | exact wkE_refl _ | refine And.intro ?_ ?_)); done)) | refine RdN.intro _ rfl (by rfl) ?_); (conv => whnf))))
              refine call1 (signed_r 83 _) ?_
              ((conv => whnf); (repeat ((first | refine SeqN.plain ?_ | refine BoxN.own ?_ | refine RwN.own ?_ | refine VrN.norm (wrap_i64 (by omega)) ?_ | refine VrN.keep ?_ | refine DrawN.calm (by decide +kernel) ?_ | refine Nd.mk (by decide +kernel) ?_ | refine Nd.mk (by omega) ?_ | (refine Nd.mk ?_ ?_; focus ((repeat' (first | exact trivial | exact wkE_refl _ | refine And.intro ?_ ?_)); done)) | refine RdN.intro _ rfl (by rfl) ?_); (conv => whnf))))
              refine ⟨-(m + 1), ⟨by omega, by omega⟩, by omega, ?_, by (repeat' (first | exact trivial | exact wkE_refl _ | refine And.intro ?_ ?_))⟩
              (repeat' (first | exact trivial | refine And.intro (by with_reducible rfl) ?_ | (with_reducible exact wkC_refl _) | (with_reducible exact wkCs_refl _) | refine And.intro ?_ ?_))
              all_goals first | rfl | exact av_int (neg_w (by omega) h3)
            · ((conv => whnf); (repeat ((first | refine SeqN.plain ?_ | refine BoxN.own ?_ | refine RwN.own ?_ | refine VrN.norm (wrap_i64 (by omega)) ?_ | refine VrN.keep ?_ | refine DrawN.calm (by decide +kernel) ?_ | refine Nd.mk (by decide +kernel) ?_ | refine Nd.mk (by omega) ?_ | (refine Nd.mk ?_ ?_; focus ((repeat' (first | exact trivial | exact wkE_refl _ | refine And.intro ?_ ?_)); done)) | refine RdN.intro _ rfl (by rfl) ?_); (conv => whnf))))
              refine ⟨m, ⟨by omega, by omega⟩, by omega, ?_, by (repeat' (first | exact trivial | exact wkE_refl _ | refine And.intro ?_ ?_))⟩
              (repeat' (first | exact trivial | refine And.intro (by with_reducible rfl) ?_ | (with_reducible exact wkC_refl _) | (with_reducible exact wkCs_refl _) | refine And.intro ?_ ?_))
              all_goals rfl
        -- 115: the letter, m: what becomes of a negative half
        · ((conv => whnf); (repeat ((first | refine SeqN.plain ?_ | refine BoxN.own ?_ | refine RwN.own ?_ | refine VrN.norm (wrap_i64 (by omega)) ?_ | refine VrN.keep ?_ | refine DrawN.calm (by decide +kernel) ?_ | refine Nd.mk (by decide +kernel) ?_ | refine Nd.mk (by omega) ?_ | (refine Nd.mk ?_ ?_; focus ((repeat' (first | exact trivial | exact wkE_refl _ | refine And.intro ?_ ?_)); done)) | refine RdN.intro _ rfl (by rfl) ?_); (conv => whnf))))
          refine loopS Int (fun n => -9223372036854775808 ≤ n ∧ n < 9223372036854775808) (fun n => mkS Tryd.f19.ntmps 0 [(0, .c (.v (.slice ia l.length pcap))), (4, .c (.v (.string (bs form)))), (5, .c (.v (.slice (at0 ob) items.length cap))), (6, .c (.v (.int .i64 (i : Int)))), (7, .c (.v (.int .u64 (U : Int)))), (9, .c (.v (.string (bs [115])))), (10, .c (.v (.int .i64 n)))]) (fun n => n.natAbs) rfl (fun _ => rfl) p hpr ?_ ?_
          · (repeat' (first | exact trivial | refine And.intro (by with_reducible rfl) ?_ | (with_reducible exact wkC_refl _) | (with_reducible exact wkCs_refl _) | refine And.intro ?_ ?_))
            all_goals rfl
          intro n hn
          ((conv => whnf); (repeat ((first | refine SeqN.plain ?_ | refine BoxN.own ?_ | refine RwN.own ?_ | refine VrN.norm (wrap_i64 (by omega)) ?_ | refine VrN.keep ?_ | refine DrawN.calm (by decide +kernel) ?_ | refine Nd.mk (by decide +kernel) ?_ | refine Nd.mk (by omega) ?_ | (refine Nd.mk ?_ ?_; focus ((repeat' (first | exact trivial | exact wkE_refl _ | refine And.intro ?_ ?_)); done)) | refine RdN.intro _ rfl (by rfl) ?_); (conv => whnf))))
          refine call1 (fits_r 115 n (.inr (.inr (by decide))) _) ?_
          cases hf : fitR 115 n with
          | true =>
            ((conv => whnf); (repeat ((first | refine SeqN.plain ?_ | refine BoxN.own ?_ | refine RwN.own ?_ | refine VrN.norm (wrap_i64 (by omega)) ?_ | refine VrN.keep ?_ | refine DrawN.calm (by decide +kernel) ?_ | refine Nd.mk (by decide +kernel) ?_ | refine Nd.mk (by omega) ?_ | (refine Nd.mk ?_ ?_; focus ((repeat' (first | exact trivial | exact wkE_refl _ | refine And.intro ?_ ?_)); done)) | refine RdN.intro _ rfl (by rfl) ?_); (conv => whnf))))
            -- n: the number, hn: the letter, hf: that it fits
            refine ⟨n, ⟨hn, by decide, hf⟩, ?_, by (repeat' (first | exact trivial | exact wkE_refl _ | refine And.intro ?_ ?_))⟩
            (repeat' (first | exact trivial | refine And.intro (by with_reducible rfl) ?_ | (with_reducible exact wkC_refl _) | (with_reducible exact wkCs_refl _) | refine And.intro ?_ ?_))
            all_goals first | rfl | exact av_int (by first | omega | (rw [wrap_i64 (by omega)]) | (rw [wrap_u64m, wrap_i64 (by omega)]; omega))
          | false =>
            have h0 : n ≠ 0 := fun h => by subst h; exact absurd hf (by decide)
            have hm2 := tdiv2 n
            obtain ⟨m, hm⟩ : ∃ m, n.tdiv 2 = m := ⟨_, rfl⟩
            rw [hm] at hm2
            ((conv => whnf); (repeat ((first | refine SeqN.plain ?_ | refine BoxN.own ?_ | refine RwN.own ?_ | refine VrN.norm (wrap_i64 (by omega)) ?_ | refine VrN.keep ?_ | refine DrawN.calm (by decide +kernel) ?_ | refine Nd.mk (by decide +kernel) ?_ | refine Nd.mk (by omega) ?_ | (refine Nd.mk ?_ ?_; focus ((repeat' (first | exact trivial | exact wkE_refl _ | refine And.intro ?_ ?_)); done)) | refine RdN.intro _ rfl (by rfl) ?_); (conv => whnf))))
            rw [hm]
            refine brd_dec (fun h3 => ?_) (fun h3 => ?_)
            · ((conv => whnf); (repeat ((first | refine SeqN.plain ?_ | refine BoxN.own ?_ | refine RwN.own ?_ | refine VrN.norm (wrap_i64 (by omega)) ?_ | refine VrN.keep ?_ | refine DrawN.calm (by decide +kernel) ?_ | refine Nd.mk (by decide +kernel) ?_ | refine Nd.mk (by omega) ?_ | (refine Nd.mk ?_ ?_; focus ((repeat' (first | exact trivial | exact wkE_refl _ | refine And.intro ?_ ?_)); done)) | refine RdN.intro _ rfl (by rfl) ?_); (conv => whnf))))
              refine call1 (signed_r 115 _) ?_
              ((conv => whnf); (repeat ((first | refine SeqN.plain ?_ | refine BoxN.own ?_ | refine RwN.own ?_ | refine VrN.norm (wrap_i64 (by omega)) ?_ | refine VrN.keep ?_ | refine DrawN.calm (by decide +kernel) ?_ | refine Nd.mk (by decide +kernel) ?_ | refine Nd.mk (by omega) ?_ | (refine Nd.mk ?_ ?_; focus ((repeat' (first | exact trivial | exact wkE_refl _ | refine And.intro ?_ ?_)); done)) | refine RdN.intro _ rfl (by rfl) ?_); (conv => whnf))))
              refine ⟨m, ⟨by omega, by omega⟩, by omega, ?_, by (repeat' (first | exact trivial | exact wkE_refl _ | refine And.intro ?_ ?_))⟩
              (repeat' (first | exact trivial | refine And.intro (by with_reducible rfl) ?_ | (with_reducible exact wkC_refl _) | (with_reducible exact wkCs_refl _) | refine And.intro ?_ ?_))
              all_goals first | rfl | exact av_int (neg_w (by omega) h3)
            · ((conv => whnf); (repeat ((first | refine SeqN.plain ?_ | refine BoxN.own ?_ | refine RwN.own ?_ | refine VrN.norm (wrap_i64 (by omega)) ?_ | refine VrN.keep ?_ | refine DrawN.calm (by decide +kernel) ?_ | refine Nd.mk (by decide +kernel) ?_ | refine Nd.mk (by omega) ?_ | (refine Nd.mk ?_ ?_; focus ((repeat' (first | exact trivial | exact wkE_refl _ | refine And.intro ?_ ?_)); done)) | refine RdN.intro _ rfl (by rfl) ?_); (conv => whnf))))
              refine ⟨m, ⟨by omega, by omega⟩, by omega, ?_, by (repeat' (first | exact trivial | exact wkE_refl _ | refine And.intro ?_ ?_))⟩
              (repeat' (first | exact trivial | refine And.intro (by with_reducible rfl) ?_ | (with_reducible exact wkC_refl _) | (with_reducible exact wkCs_refl _) | refine And.intro ?_ ?_))
              all_goals rfl
        -- 76: the letter, -(m + 1): what becomes of a negative half
        · ((conv => whnf); (repeat ((first | refine SeqN.plain ?_ | refine BoxN.own ?_ | refine RwN.own ?_ | refine VrN.norm (wrap_i64 (by omega)) ?_ | refine VrN.keep ?_ | refine DrawN.calm (by decide +kernel) ?_ | refine Nd.mk (by decide +kernel) ?_ | refine Nd.mk (by omega) ?_ | (refine Nd.mk ?_ ?_; focus ((repeat' (first | exact trivial | exact wkE_refl _ | refine And.intro ?_ ?_)); done)) | refine RdN.intro _ rfl (by rfl) ?_); (conv => whnf))))
          refine loopS Int (fun n => -9223372036854775808 ≤ n ∧ n < 9223372036854775808) (fun n => mkS Tryd.f19.ntmps 0 [(0, .c (.v (.slice ia l.length pcap))), (4, .c (.v (.string (bs form)))), (5, .c (.v (.slice (at0 ob) items.length cap))), (6, .c (.v (.int .i64 (i : Int)))), (7, .c (.v (.int .u64 (U : Int)))), (9, .c (.v (.string (bs [76])))), (10, .c (.v (.int .i64 n)))]) (fun n => n.natAbs) rfl (fun _ => rfl) p hpr ?_ ?_
          · (repeat' (first | exact trivial | refine And.intro (by with_reducible rfl) ?_ | (with_reducible exact wkC_refl _) | (with_reducible exact wkCs_refl _) | refine And.intro ?_ ?_))
            all_goals rfl
          intro n hn
          ((conv => whnf); (repeat ((first | refine SeqN.plain ?_ | refine BoxN.own ?_ | refine RwN.own ?_ | refine VrN.norm (wrap_i64 (by omega)) ?_ | refine VrN.keep ?_ | refine DrawN.calm (by decide +kernel) ?_ | refine Nd.mk (by decide +kernel) ?_ | refine Nd.mk (by omega) ?_ | (refine Nd.mk ?_ ?_; focus ((repeat' (first | exact trivial | exact wkE_refl _ | refine And.intro ?_ ?_)); done)) | refine RdN.intro _ rfl (by rfl) ?_); (conv => whnf))))
          refine call1 (fits_r 76 n (.inr (.inr (by decide))) _) ?_
          cases hf : fitR 76 n with
          | true =>
            ((conv => whnf); (repeat ((first | refine SeqN.plain ?_ | refine BoxN.own ?_ | refine RwN.own ?_ | refine VrN.norm (wrap_i64 (by omega)) ?_ | refine VrN.keep ?_ | refine DrawN.calm (by decide +kernel) ?_ | refine Nd.mk (by decide +kernel) ?_ | refine Nd.mk (by omega) ?_ | (refine Nd.mk ?_ ?_; focus ((repeat' (first | exact trivial | exact wkE_refl _ | refine And.intro ?_ ?_)); done)) | refine RdN.intro _ rfl (by rfl) ?_); (conv => whnf))))
            -- n: the number, hn: the letter, hf: that it fits
            refine ⟨n, ⟨hn, by decide, hf⟩, ?_, by (repeat' (first | exact trivial | exact wkE_refl _ | refine And.intro ?_ ?_))⟩
            (repeat' (first | exact trivial | refine And.intro (by with_reducible rfl) ?_ | (with_reducible exact wkC_refl _) | (with_reducible exact wkCs_refl _) | refine And.intro ?_ ?_))
            all_goals first | rfl | exact av_int (by first | omega | (rw [wrap_i64 (by omega)]) | (rw [wrap_u64m, wrap_i64 (by omega)]; omega))
          | false =>
            have h0 : n ≠ 0 := fun h => by subst h; exact absurd hf (by decide)
            have hm2 := tdiv2 n
            obtain ⟨m, hm⟩ : ∃ m, n.tdiv 2 = m := ⟨_, rfl⟩
            rw [hm] at hm2
            ((conv => whnf); (repeat ((first | refine SeqN.plain ?_ | refine BoxN.own ?_ | refine RwN.own ?_ | refine VrN.norm (wrap_i64 (by omega)) ?_ | refine VrN.keep ?_ | refine DrawN.calm (by decide +kernel) ?_ | refine Nd.mk (by decide +kernel) ?_ | refine Nd.mk (by omega) ?_ | (refine Nd.mk ?_ ?_; focus ((repeat' (first | exact trivial | exact wkE_refl _ | refine And.intro ?_ ?_)); done)) | refine RdN.intro _ rfl (by rfl) ?_); (conv => whnf))))
            rw [hm]
            refine brd_dec (fun h3 => ?_) (fun h3 => ?_)
            · ((conv => whnf); (repeat ((first | refine SeqN.plain ?_ | refine BoxN.own ?_ | refine RwN.own ?_ | refine VrN.norm (wrap_i64 (by omega)) ?_ | refine VrN.keep ?_ | refine DrawN.calm (by decide +kernel) ?_ | refine Nd.mk (by decide +kernel) ?_ | refine Nd.mk (by omega) ?_ | (refine Nd.mk ?_ ?_; focus ((repeat' (first | exact trivial | exact wkE_refl _ | refine And.intro ?_ ?_)); done)) | refine RdN.intro _ rfl (by rfl) ?_); (conv => whnf))))
              refine call1 (signed_r 76 _) ?_
              ((conv => whnf); (repeat ((first | refine SeqN.plain ?_ | refine BoxN.own ?_ | refine RwN.own ?_ | refine VrN.norm (wrap_i64 (by omega)) ?_ | refine VrN.keep ?_ | refine DrawN.calm (by decide +kernel) ?_ | refine Nd.mk (by decide +kernel) ?_ | refine Nd.mk (by omega) ?_ | (refine Nd.mk ?_ ?_; focus ((repeat' (first | exact trivial | exact wkE_refl _ | refine And.intro ?_ ?_)); done)) | refine RdN.intro _ rfl (by rfl) ?_); (conv => whnf))))
              refine ⟨-(m + 1), ⟨by omega, by omega⟩, by omega, ?_, by (repeat' (first | exact trivial | exact wkE_refl _ | refine And.intro ?_ ?_))⟩
              (repeat' (first | exact trivial | refine And.intro (by with_reducible rfl) ?_ | (with_reducible exact wkC_refl _) | (with_reducible exact wkCs_refl _) | refine And.intro ?_ ?_))
              all_goals first | rfl | exact av_int (neg_w (by omega) h3)
            · ((conv => whnf); (repeat ((first | refine SeqN.plain ?_ | refine BoxN.own ?_ | refine RwN.own ?_ | refine VrN.norm (wrap_i64 (by omega)) ?_ | refine VrN.keep ?_ | refine DrawN.calm (by decide +kernel) ?_ | refine Nd.mk (by decide +kernel) ?_ | refine Nd.mk (by omega) ?_ | (refine Nd.mk ?_ ?_; focus ((repeat' (first | exact trivial | exact wkE_refl _ | refine And.intro ?_ ?_)); done)) | refine RdN.intro _ rfl (by rfl) ?_); (conv => whnf))))
              refine ⟨m, ⟨by omega, by omega⟩, by omega, ?_, by (repeat' (first | exact trivial | exact wkE_refl _ | refine And.intro ?_ ?_))⟩
              (repeat' (first | exact trivial | refine And.intro (by with_reducible rfl) ?_ | (with_reducible exact wkC_refl _) | (with_reducible exact wkCs_refl _) | refine And.intro ?_ ?_))
              all_goals rfl
        -- 108: the letter, m: what becomes of a negative half
        · ((conv => whnf); (repeat ((first | refine SeqN.plain ?_ | refine BoxN.own ?_ | refine RwN.own ?_ | refine VrN.norm (wrap_i64 (by omega)) ?_ | refine VrN.keep ?_ | refine DrawN.calm (by decide +kernel) ?_ | refine Nd.mk (by decide +kernel) ?_ | refine Nd.mk (by omega) ?_ | (refine Nd.mk ?_ ?_; focus ((repeat' (first | exact trivial | exact wkE_refl _ | refine And.intro ?_ ?_)); done)) | refine RdN.intro _ rfl (by rfl) ?_); (conv => whnf))))
          refine loopS Int (fun n => -9223372036854775808 ≤ n ∧ n < 9223372036854775808) (fun n => mkS Tryd.f19.ntmps 0 [(0, .c (.v (.slice ia l.length pcap))), (4, .c (.v (.string (bs form)))), (5, .c (.v (.slice (at0 ob) items.length cap))), (6, .c (.v (.int .i64 (i : Int)))), (7, .c (.v (.int .u64 (U : Int)))), (9, .c (.v (.string (bs [108])))), (10, .c (.v (.int .i64 n)))]) (fun n => n.natAbs) rfl (fun _ => rfl) p hpr ?_ ?_
          · (repeat' (first | exact trivial | refine And.intro (by with_reducible rfl) ?_ | (with_reducible exact wkC_refl _) | (with_reducible exact wkCs_refl _) | refine And.intro ?_ ?_))
            all_goals rfl
          intro n hn
          ((conv => whnf); (repeat ((first | refine SeqN.plain ?_ | refine BoxN.own ?_ | refine RwN.own ?_ | refine VrN.norm (wrap_i64 (by omega)) ?_ | refine VrN.keep ?_ | refine DrawN.calm (by decide +kernel) ?_ | refine Nd.mk (by decide +kernel) ?_ | refine Nd.mk (by omega) ?_ | (refine Nd.mk ?_ ?_; focus ((repeat' (first | exact trivial | exact wkE_refl _ | refine And.intro ?_ ?_)); done)) | refine RdN.intro _ rfl (by rfl) ?_); (conv => whnf))))
          refine call1 (fits_r 108 n (.inr (.inr (by decide))) _) ?_
          cases hf : fitR 108 n with
          | true =>
            ((conv => whnf); (repeat ((first | refine SeqN.plain ?_ | refine BoxN.own ?_ | refine RwN.own ?_ | refine VrN.norm (wrap_i64 (by omega)) ?_ | refine VrN.keep ?_ | refine DrawN.calm (by decide +kernel) ?_ | refine Nd.mk (by decide +kernel) ?_ | refine Nd.mk (by omega) ?_ | (refine Nd.mk ?_ ?_; focus ((repeat' (first | exact trivial | exact wkE_refl _ | refine And.intro ?_ ?_)); done)) | refine RdN.intro _ rfl (by rfl) ?_); (conv => whnf))))
            -- n: the number, hn: the letter, hf: that it fits
            refine ⟨n, ⟨hn, by decide, hf⟩, ?_, by (repeat' (first | exact trivial | exact wkE_refl _ | refine And.intro ?_ ?_))⟩
            (repeat' (first | exact trivial | refine And.intro (by with_reducible rfl) ?_ | (with_reducible exact wkC_refl _) | (with_reducible exact wkCs_refl _) | refine And.intro ?_ ?_))
            all_goals first | rfl | exact av_int (by first | omega | (rw [wrap_i64 (by omega)]) | (rw [wrap_u64m, wrap_i64 (by omega)]; omega))
          | false =>
            have h0 : n ≠ 0 := fun h => by subst h; exact absurd hf (by decide)
            have hm2 := tdiv2 n
            obtain ⟨m, hm⟩ : ∃ m, n.tdiv 2 = m := ⟨_, rfl⟩
            rw [hm] at hm2
            ((conv => whnf); (repeat ((first | refine SeqN.plain ?_ | refine BoxN.own ?_ | refine RwN.own ?_ | refine VrN.norm (wrap_i64 (by omega)) ?_ | refine VrN.keep ?_ | refine DrawN.calm (by decide +kernel) ?_ | refine Nd.mk (by decide +kernel) ?_ | refine Nd.mk (by omega) ?_ | (refine Nd.mk ?_ ?_; focus ((repeat' (first | exact trivial | exact wkE_refl _ | refine And.intro ?_ ?_)); done)) | refine RdN.intro _ rfl (by rfl) ?_); (conv => whnf))))
            rw [hm]
            refine brd_dec (fun h3 => ?_) (fun h3 => ?_)
            · ((conv => whnf); (repeat ((first | refine SeqN.plain ?_ | refine BoxN.own ?_ | refine RwN.own ?_ | refine VrN.norm (wrap_i64 (by omega)) ?_ | refine VrN.keep ?_ | refine DrawN.calm (by decide +kernel) ?_ | refine Nd.mk (by decide +kernel) ?_ | refine Nd.mk (by omega) ?_ | (refine Nd.mk ?_ ?_; focus ((repeat' (first | exact trivial | exact wkE_refl _ | refine And.intro ?_ ?_)); done)) | refine RdN.intro _ rfl (by rfl) ?_); (conv => whnf))))
              refine call1 (signed_r 108 _) ?_
              ((conv => whnf); (repeat ((first | refine SeqN.plain ?_ | refine BoxN.own ?_ | refine RwN.own ?_ | refine VrN.norm (wrap_i64 (by omega)) ?_ | refine VrN.keep ?_ | refine DrawN.calm (by decide +kernel) ?_ | refine Nd.mk (by decide +kernel) ?_ | refine Nd.mk (by omega) ?_ | (refine Nd.mk ?_ ?_; focus ((repeat' (first | exact trivial | exact wkE_refl _ | refine And.intro ?_ ?_)); done)) | refine RdN.intro _ rfl (by rfl) ?_); (conv => whnf))))
              refine ⟨m, ⟨by omega, by omega⟩, by omega, ?_, by (repeat' (first | exact trivial | exact wkE_refl _ | refine And.intro ?_ ?_))⟩
              (repeat' (first | exact trivial | refine And.intro (by with_reducible rfl) ?_ | (with_reducible exact wkC_refl _) | (with_reducible exact wkCs_refl _) | refine And.intro ?_ ?_))
              all_goals first | rfl | exact av_int (neg_w (by omega) h3)
            · ((conv => whnf); (repeat ((first | refine SeqN.plain ?_ | refine BoxN.own ?_ | refine RwN.own ?_ | refine VrN.norm (wrap_i64 (by omega)) ?_ | refine VrN.keep ?_ | refine DrawN.calm (by decide +kernel) ?_ | refine Nd.mk (by decide +kernel) ?_ | refine Nd.mk (by omega) ?_ | (refine Nd.mk ?_ ?_; focus ((repeat' (first | exact trivial | exact wkE_refl _ | refine And.intro ?_ ?_)); done)) | refine RdN.intro _ rfl (by rfl) ?_); (conv => whnf))))
              refine ⟨m, ⟨by omega, by omega⟩, by omega, ?_, by (repeat' (first | exact trivial | exact wkE_refl _ | refine And.intro ?_ ?_))⟩
              (repeat' (first | exact trivial | refine And.intro (by with_reducible rfl) ?_ | (with_reducible exact wkC_refl _) | (with_reducible exact wkCs_refl _) | refine And.intro ?_ ?_))
              all_goals rfl
        -- 110: the letter, -(m + 1): what becomes of a negative half
        · ((conv => whnf); (repeat ((first | refine SeqN.plain ?_ | refine BoxN.own ?_ | refine RwN.own ?_ | refine VrN.norm (wrap_i64 (by omega)) ?_ | refine VrN.keep ?_ | refine DrawN.calm (by decide +kernel) ?_ | refine Nd.mk (by decide +kernel) ?_ | refine Nd.mk (by omega) ?_ | (refine Nd.mk ?_ ?_; focus ((repeat' (first | exact trivial | exact wkE_refl _ | refine And.intro ?_ ?_)); done)) | refine RdN.intro _ rfl (by rfl) ?_); (conv => whnf))))
          refine loopS Int (fun n => -9223372036854775808 ≤ n ∧ n < 9223372036854775808) (fun n => mkS Tryd.f19.ntmps 0 [(0, .c (.v (.slice ia l.length pcap))), (4, .c (.v (.string (bs form)))), (5, .c (.v (.slice (at0 ob) items.length cap))), (6, .c (.v (.int .i64 (i : Int)))), (7, .c (.v (.int .u64 (U : Int)))), (9, .c (.v (.string (bs [110])))), (10, .c (.v (.int .i64 n)))]) (fun n => n.natAbs) rfl (fun _ => rfl) p hpr ?_ ?_
          · (repeat' (first | exact trivial | refine And.intro (by with_reducible rfl) ?_ | (with_reducible exact wkC_refl _) | (with_reducible exact wkCs_refl _) | refine And.intro ?_ ?_))
            all_goals rfl
          intro n hn
          ((conv => whnf); (repeat ((first | refine SeqN.plain ?_ | refine BoxN.own ?_ | refine RwN.own ?_ | refine VrN.norm (wrap_i64 (by omega)) ?_ | refine VrN.keep ?_ | refine DrawN.calm (by decide +kernel) ?_ | refine Nd.mk (by decide +kernel) ?_ | refine Nd.mk (by omega) ?_ | (refine Nd.mk ?_ ?_; focus ((repeat' (first | exact trivial | exact wkE_refl _ | refine And.intro ?_ ?_)); done)) | refine RdN.intro _ rfl (by rfl) ?_); (conv => whnf))))
          refine call1 (fits_r 110 n (.inr (.inr (by decide))) _) ?_
          cases hf : fitR 110 n with
          | true =>
            ((conv => whnf); (repeat ((first | refine SeqN.plain ?_ | refine BoxN.own ?_ | refine RwN.own ?_ | refine VrN.norm (wrap_i64 (by omega)) ?_ | refine VrN.keep ?_ | refine DrawN.calm (by decide +kernel) ?_ | refine Nd.mk (by decide +kernel) ?_ | refine Nd.mk (by omega) ?_ | (refine Nd.mk ?_ ?_; focus ((repeat' (first | exact trivial | exact wkE_refl _ | refine And.intro ?_ ?_)); done)) | refine RdN.intro _ rfl (by rfl) ?_); (conv => whnf))))
            -- n: the number, hn: the letter, hf: that it fits
            refine ⟨n, ⟨hn, by decide, hf⟩, ?_, by (repeat' (first | exact trivial | exact wkE_refl _ | refine And.intro ?_ ?_))⟩
            (repeat' (first | exact trivial | refine And.intro (by with_reducible rfl) ?_ | (with_reducible exact wkC_refl _) | (with_reducible exact wkCs_refl _) | refine And.intro ?_ ?_))
            all_goals first | rfl | exact av_int (by first | omega | (rw [wrap_i64 (by omega)]) | (rw [wrap_u64m, wrap_i64 (by omega)]; omega))
          | false =>
            have h0 : n ≠ 0 := fun h => by subst h; exact absurd hf (by decide)
            have hm2 := tdiv2 n
            obtain ⟨m, hm⟩ : ∃ m, n.tdiv 2 = m := ⟨_, rfl⟩
            rw [hm] at hm2
            ((conv => whnf); (repeat ((first | refine SeqN.plain ?_ | refine BoxN.own ?_ | refine RwN.own ?_ | refine VrN.norm (wrap_i64 (by omega)) ?_ | refine VrN.keep ?_ | refine DrawN.calm (by decide +kernel) ?_ | refine Nd.mk (by decide +kernel) ?_ | refine Nd.mk (by omega) ?_ | (refine Nd.mk ?_ ?_; focus ((repeat' (first | exact trivial | exact wkE_refl _ | refine And.intro ?_ ?_)); done)) | refine RdN.intro _ rfl (by rfl) ?_); (conv => whnf))))
            rw [hm]
            refine brd_dec (fun h3 => ?_) (fun h3 => ?_)
            · ((conv => whnf); (repeat ((first | refine SeqN.plain ?_ | refine BoxN.own ?_ | refine RwN.own ?_ | refine VrN.norm (wrap_i64 (by omega)) ?_ | refine VrN.keep ?_ | refine DrawN.calm (by decide +kernel) ?_ | refine Nd.mk (by decide +kernel) ?_ | refine Nd.mk (by omega) ?_ | (refine Nd.mk ?_ ?_; focus ((repeat' (first | exact trivial | exact wkE_refl _ | refine And.intro ?_ ?_)); done)) | refine RdN.intro _ rfl (by rfl) ?_); (conv => whnf))))
              refine call1 (signed_r 110 _) ?_
              ((conv => whnf); (repeat ((first | refine SeqN.plain ?_ | refine BoxN.own ?_ | refine RwN.own ?_ | refine VrN.norm (wrap_i64 (by omega)) ?_ | refine VrN.keep ?_ | refine DrawN.calm (by decide +kernel) ?_ | refine Nd.mk (by decide +kernel) ?_ | refine Nd.mk (by omega) ?_ | (refine Nd.mk ?_ ?_; focus ((repeat' (first | exact trivial | exact wkE_refl _ | refine And.intro ?_ ?_)); done)) | refine RdN.intro _ rfl (by rfl) ?_); (conv => whnf))))
              refine ⟨-(m + 1), ⟨by omega, by omega⟩, by omega, ?_, by (repeat' (first | exact trivial | exact wkE_refl _ | refine And.intro ?_ ?_))⟩
              (repeat' (first | exact trivial | refine And.intro (by with_reducible rfl) ?_ | (with_reducible exact wkC_refl _) | (with_reducible exact wkCs_refl _) | refine And.intro ?_ ?_))
              all_goals first | rfl | exact av_int (neg_w (by omega) h3)
            · ((conv => whnf); (repeat ((first | refine SeqN.plain ?_ | refine BoxN.own ?_ | refine RwN.own ?_ | refine VrN.norm (wrap_i64 (by omega)) ?_ | refine VrN.keep ?_ | refine DrawN.calm (by decide +kernel) ?_ | refine Nd.mk (by decide +kernel) ?_ | refine Nd.mk (by omega) ?_ | (refine Nd.mk ?_ ?_; focus ((repeat' (first | exact trivial | exact wkE_refl _ | refine And.intro ?_ ?_)); done)) | refine RdN.intro _ rfl (by rfl) ?_); (conv => whnf))))
              refine ⟨m, ⟨by omega, by omega⟩, by omega, ?_, by (repeat' (first | exact trivial | exact wkE_refl _ | refine And.intro ?_ ?_))⟩
              (repeat' (first | exact trivial | refine And.intro (by with_reducible rfl) ?_ | (with_reducible exact wkC_refl _) | (with_reducible exact wkCs_refl _) | refine And.intro ?_ ?_))
              all_goals rfl
        -- 78: the letter, -(m + 1): what becomes of a negative half
        · ((conv => whnf); (repeat ((first | refine SeqN.plain ?_ | refine BoxN.own ?_ | refine RwN.own ?_ | refine VrN.norm (wrap_i64 (by omega)) ?_ | refine VrN.keep ?_ | refine DrawN.calm (by decide +kernel) ?_ | refine Nd.mk (by decide +kernel) ?_ | refine Nd.mk (by omega) ?_ | (refine Nd.mk ?_ ?_; focus ((repeat' (first | exact trivial | exact wkE_refl _ | refine And.intro ?_ ?_)); done)) | refine RdN.intro _ rfl (by rfl) ?_); (conv => whnf))))
          refine loopS Int (fun n => -9223372036854775808 ≤ n ∧ n < 9223372036854775808) (fun n => mkS Tryd.f19.ntmps 0 [(0, .c (.v (.slice ia l.length pcap))), (4, .c (.v (.string (bs form)))), (5, .c (.v (.slice (at0 ob) items.length cap))), (6, .c (.v (.int .i64 (i : Int)))), (7, .c (.v (.int .u64 (U : Int)))), (9, .c (.v (.string (bs [78])))), (10, .c (.v (.int .i64 n)))]) (fun n => n.natAbs) rfl (fun _ => rfl) p hpr ?_ ?_
          · (repeat' (first | exact trivial | refine And.intro (by with_reducible rfl) ?_ | (with_reducible exact wkC_refl _) | (with_reducible exact wkCs_refl _) | refine And.intro ?_ ?_))
            all_goals rfl
          intro n hn
          ((conv => whnf); (repeat ((first | refine SeqN.plain ?_ | refine BoxN.own ?_ | refine RwN.own ?_ | refine VrN.norm (wrap_i64 (by omega)) ?_ | refine VrN.keep ?_ | refine DrawN.calm (by decide +kernel) ?_ | refine Nd.mk (by decide +kernel) ?_ | refine Nd.mk (by omega) ?_ | (refine Nd.mk ?_ ?_; focus ((repeat' (first | exact trivial | exact wkE_refl _ | refine And.intro ?_ ?_)); done)) | refine RdN.intro _ rfl (by rfl) ?_); (conv => whnf))))
          refine call1 (fits_r 78 n (.inr (.inr (by decide))) _) ?_
          cases hf : fitR 78 n with
          | true =>
            ((conv => whnf); (repeat ((first | refine SeqN.plain ?_ | refine BoxN.own ?_ | refine RwN.own ?_ | refine VrN.norm (wrap_i64 (by omega)) ?_ | refine VrN.keep ?_ | refine DrawN.calm (by decide +kernel) ?_ | refine Nd.mk (by decide +kernel) ?_ | refine Nd.mk (by omega) ?_ | (refine Nd.mk ?_ ?_; focus ((repeat' (first | exact trivial | exact wkE_refl _ | refine And.intro ?_ ?_)); done)) | refine RdN.intro _ rfl (by rfl) ?_); (conv => whnf))))
            -- n: the number, hn: the letter, hf: that it fits
            refine ⟨n, ⟨hn, by decide, hf⟩, ?_, by (repeat' (first | exact trivial | exact wkE_refl _ | refine And.intro ?_ ?_))⟩
            (repeat' (first | exact trivial | refine And.intro (by with_reducible rfl) ?_ | (with_reducible exact wkC_refl _) | (with_reducible exact wkCs_refl _) | refine And.intro ?_ ?_))
            all_goals first | rfl | exact av_int (by first | omega | (rw [wrap_i64 (by omega)]) | (rw [wrap_u64m, wrap_i64 (by omega)]; omega))
          | false =>
            have h0 : n ≠ 0 := fun h => by subst h; exact absurd hf (by decide)
            have hm2 := tdiv2 n
            obtain ⟨m, hm⟩ : ∃ m, n.tdiv 2 = m := ⟨_, rfl⟩
            rw [hm] at hm2
            ((conv => whnf); (repeat ((first | refine SeqN.plain ?_ | refine BoxN.own ?_ | refine RwN.own ?_ | refine VrN.norm (wrap_i64 (by omega)) ?_ | refine VrN.keep ?_ | refine DrawN.calm (by decide +kernel) ?_ | refine Nd.mk (by decide +kernel) ?_ | refine Nd.mk (by omega) ?_ | (refine Nd.mk ?_ ?_; focus ((repeat' (first | exact trivial | exact wkE_refl _ | refine And.intro ?_ ?_)); done)) | refine RdN.intro _ rfl (by rfl) ?_); (conv => whnf))))
            rw [hm]
            refine brd_dec (fun h3 => ?_) (fun h3 => ?_)
            · ((conv => whnf); (repeat ((first | refine SeqN.plain ?_ | refine BoxN.own ?_ | refine RwN.own ?_ | refine VrN.norm (wrap_i64 (by omega)) ?_ | refine VrN.keep ?_ | refine DrawN.calm (by decide +kernel) ?_ | refine Nd.mk (by decide +kernel) ?_ | refine Nd.mk (by omega) ?_ | (refine Nd.mk ?_ ?_; focus ((repeat' (first | exact trivial | exact wkE_refl _ | refine And.intro ?_ ?_)); done)) | refine RdN.intro _ rfl (by rfl) ?_); (conv => whnf))))
              refine call1 (signed_r 78 _) ?_
              ((conv => whnf); (repeat ((first | refine SeqN.plain ?_ | refine BoxN.own ?_ | refine RwN.own ?_ | refine VrN.norm (wrap_i64 (by omega)) ?_ | refine VrN.keep ?_ | refine DrawN.calm (by decide +kernel) ?_ | refine Nd.mk (by decide +kernel) ?_ | refine Nd.mk (by omega) ?_ | (refine Nd.mk ?_ ?_; focus ((repeat' (first | exact trivial | exact wkE_refl _ | refine And.intro ?_ ?_)); done)) | refine RdN.intro _ rfl (by rfl) ?_); (conv => whnf))))
              refine ⟨-(m + 1), ⟨by omega, by omega⟩, by omega, ?_, by (repeat' (first | exact trivial | exact wkE_refl _ | refine And.intro ?_ ?_))⟩
              (repeat' (first | exact trivial | refine And.intro (by with_reducible rfl) ?_ | (with_reducible exact wkC_refl _) | (with_reducible exact wkCs_refl _) | refine And.intro ?_ ?_))
              all_goals first | rfl | exact av_int (neg_w (by omega) h3)
            · ((conv => whnf); (repeat ((first | refine SeqN.plain ?_ | refine BoxN.own ?_ | refine RwN.own ?_ | refine VrN.norm (wrap_i64 (by omega)) ?_ | refine VrN.keep ?_ | refine DrawN.calm (by decide +kernel) ?_ | refine Nd.mk (by decide +kernel) ?_ | refine Nd.mk (by omega) ?_ | (refine Nd.mk ?_ ?_; focus ((repeat' (first | exact trivial | exact wkE_refl _ | refine And.intro ?_ ?_)); done)) | refine RdN.intro _ rfl (by rfl) ?_); (conv => whnf))))
              refine ⟨m, ⟨by omega, by omega⟩, by omega, ?_, by (repeat' (first | exact trivial | exact wkE_refl _ | refine And.intro ?_ ?_))⟩
              (repeat' (first | exact trivial | refine And.intro (by with_reducible rfl) ?_ | (with_reducible exact wkC_refl _) | (with_reducible exact wkCs_refl _) | refine And.intro ?_ ?_))
              all_goals rfl
        · ((conv => whnf); (repeat ((first | refine SeqN.plain ?_ | refine BoxN.own ?_ | refine RwN.own ?_ | refine VrN.norm (wrap_i64 (by omega)) ?_ | refine VrN.keep ?_ | refine DrawN.calm (by decide +kernel) ?_ | refine Nd.mk (by decide +kernel) ?_ | refine Nd.mk (by omega) ?_ | (refine Nd.mk ?_ ?_; focus ((repeat' (first | exact trivial | exact wkE_refl _ | refine And.intro ?_ ?_)); done)) | refine RdN.intro _ rfl (by rfl) ?_); (conv => whnf))))
          rw [hd2]
          -- ((U / 2 : Nat) : Int): the number, ⟨by omega, by omega⟩: the letter, (decide_eq_true (show (0 : Int) ≤ ((U / 2 : Nat) : Int) by omega) : decide _ = true): that it fits
          refine ⟨((U / 2 : Nat) : Int), ⟨⟨by omega, by omega⟩, by decide, (decide_eq_true (show (0 : Int) ≤ ((U / 2 : Nat) : Int) by omega) : decide _ = true)⟩, ?_, by (repeat' (first | exact trivial | exact wkE_refl _ | refine And.intro ?_ ?_))⟩
          (repeat' (first | exact trivial | refine And.intro (by with_reducible rfl) ?_ | (with_reducible exact wkC_refl _) | (with_reducible exact wkCs_refl _) | refine And.intro ?_ ?_))
          all_goals first | rfl | exact av_int (by first | omega | (rw [wrap_i64 (by omega)]) | (rw [wrap_u64m, wrap_i64 (by omega)]; omega))
        · ((conv => whnf); (repeat ((first | refine SeqN.plain ?_ | refine BoxN.own ?_ | refine RwN.own ?_ | refine VrN.norm (wrap_i64 (by omega)) ?_ | refine VrN.keep ?_ | refine DrawN.calm (by decide +kernel) ?_ | refine Nd.mk (by decide +kernel) ?_ | refine Nd.mk (by omega) ?_ | (refine Nd.mk ?_ ?_; focus ((repeat' (first | exact trivial | exact wkE_refl _ | refine And.intro ?_ ?_)); done)) | refine RdN.intro _ rfl (by rfl) ?_); (conv => whnf))))
          rw [hd2]
          -- ((U / 2 : Nat) : Int): the number, ⟨by omega, by omega⟩: the letter, (decide_eq_true (show (0 : Int) ≤ ((U / 2 : Nat) : Int) by omega) : decide _ = true): that it fits
          refine ⟨((U / 2 : Nat) : Int), ⟨⟨by omega, by omega⟩, by decide, (decide_eq_true (show (0 : Int) ≤ ((U / 2 : Nat) : Int) by omega) : decide _ = true)⟩, ?_, by (repeat' (first | exact trivial | exact wkE_refl _ | refine And.intro ?_ ?_))⟩
          (repeat' (first | exact trivial | refine And.intro (by with_reducible rfl) ?_ | (with_reducible exact wkC_refl _) | (with_reducible exact wkCs_refl _) | refine And.intro ?_ ?_))
          all_goals first | rfl | exact av_int (by first | omega | (rw [wrap_i64 (by omega)]) | (rw [wrap_u64m, wrap_i64 (by omega)]; omega))
        · ((conv => whnf); (repeat ((first | refine SeqN.plain ?_ | refine BoxN.own ?_ | refine RwN.own ?_ | refine VrN.norm (wrap_i64 (by omega)) ?_ | refine VrN.keep ?_ | refine DrawN.calm (by decide +kernel) ?_ | refine Nd.mk (by decide +kernel) ?_ | refine Nd.mk (by omega) ?_ | (refine Nd.mk ?_ ?_; focus ((repeat' (first | exact trivial | exact wkE_refl _ | refine And.intro ?_ ?_)); done)) | refine RdN.intro _ rfl (by rfl) ?_); (conv => whnf))))
          -- p: the number, hpr: the letter, rfl: that it fits
          refine ⟨p, ⟨hpr, by decide, rfl⟩, ?_, by (repeat' (first | exact trivial | exact wkE_refl _ | refine And.intro ?_ ?_))⟩
          (repeat' (first | exact trivial | refine And.intro (by with_reducible rfl) ?_ | (with_reducible exact wkC_refl _) | (with_reducible exact wkCs_refl _) | refine And.intro ?_ ?_))
          all_goals first | rfl | exact av_int (by first | omega | (rw [wrap_i64 (by omega)]) | (rw [wrap_u64m, wrap_i64 (by omega)]; omega))
        · ((conv => whnf); (repeat ((first | refine SeqN.plain ?_ | refine BoxN.own ?_ | refine RwN.own ?_ | refine VrN.norm (wrap_i64 (by omega)) ?_ | refine VrN.keep ?_ | refine DrawN.calm (by decide +kernel) ?_ | refine Nd.mk (by decide +kernel) ?_ | refine Nd.mk (by omega) ?_ | (refine Nd.mk ?_ ?_; focus ((repeat' (first | exact trivial | exact wkE_refl _ | refine And.intro ?_ ?_)); done)) | refine RdN.intro _ rfl (by rfl) ?_); (conv => whnf))))
          rw [hd16, hu16, h16r]
          -- ((U / 16 % 55296 : Nat) : Int): the number, ⟨by omega, by omega⟩: the letter, (by show rune _ = true; simp only [rune, Bool.and_eq_true, Bool.or_eq_true, decide_eq_true_eq]; omega): that it fits
          refine ⟨((U / 16 % 55296 : Nat) : Int), ⟨⟨by omega, by omega⟩, by decide, (by show rune _ = true; simp only [rune, Bool.and_eq_true, Bool.or_eq_true, decide_eq_true_eq]; omega)⟩, ?_, by (repeat' (first | exact trivial | exact wkE_refl _ | refine And.intro ?_ ?_))⟩
          (repeat' (first | exact trivial | refine And.intro (by with_reducible rfl) ?_ | (with_reducible exact wkC_refl _) | (with_reducible exact wkCs_refl _) | refine And.intro ?_ ?_))
          all_goals first | rfl | exact av_int (by first | omega | (rw [wrap_i64 (by omega)]) | (rw [wrap_u64m, wrap_i64 (by omega)]; omega))
        · ((conv => whnf); (repeat ((first | refine SeqN.plain ?_ | refine BoxN.own ?_ | refine RwN.own ?_ | refine VrN.norm (wrap_i64 (by omega)) ?_ | refine VrN.keep ?_ | refine DrawN.calm (by decide +kernel) ?_ | refine Nd.mk (by decide +kernel) ?_ | refine Nd.mk (by omega) ?_ | (refine Nd.mk ?_ ?_; focus ((repeat' (first | exact trivial | exact wkE_refl _ | refine And.intro ?_ ?_)); done)) | refine RdN.intro _ rfl (by rfl) ?_); (conv => whnf))))
          rw [hd16, hu16, h164]
          try rw [wrap_i64 (x := ((U / 16 % 4 : Nat) : Int)) (by omega)]
          refine call1 (Repeat7a_c (U / 16 % 4) (Nat.mod_lt _ (by decide)) _) ?_
          have hr0 := rep7 ⟨U / 16 % 4, Nat.mod_lt _ (by decide)⟩
          dsimp only at hr0
          obtain ⟨hr1, hr2, hr3, hr4, hr5⟩ := hr0
          generalize hrr : Lib.repeatL [55, 97] (U / 16 % 4) = t at *
          ((conv => whnf); (repeat ((first | refine SeqN.plain ?_ | refine BoxN.own ?_ | refine RwN.own ?_ | refine VrN.norm (wrap_i64 (by omega)) ?_ | refine VrN.keep ?_ | refine DrawN.calm (by decide +kernel) ?_ | refine Nd.mk (by decide +kernel) ?_ | refine Nd.mk (by omega) ?_ | (refine Nd.mk ?_ ?_; focus ((repeat' (first | exact trivial | exact wkE_refl _ | refine And.intro ?_ ?_)); done)) | refine RdN.intro _ rfl (by rfl) ?_); (conv => whnf))))
          rw [hd64, hu64, h642]
          refine brd_eq (fun h3 => ?_) (fun h3 => ?_)
          · ((conv => whnf); (repeat ((first | refine SeqN.plain ?_ | refine BoxN.own ?_ | refine RwN.own ?_ | refine VrN.norm (wrap_i64 (by omega)) ?_ | refine VrN.keep ?_ | refine DrawN.calm (by decide +kernel) ?_ | refine Nd.mk (by decide +kernel) ?_ | refine Nd.mk (by omega) ?_ | (refine Nd.mk ?_ ?_; focus ((repeat' (first | exact trivial | exact wkE_refl _ | refine And.intro ?_ ?_)); done)) | refine RdN.intro _ rfl (by rfl) ?_); (conv => whnf))))
            refine Nd.mk (by rw [bs_size]; show t.length + 2 < _; omega) ?_
            rw [show (⟨#[0, 32]⟩ : ByteArray) = bs [0, 32] from rfl, bs_app]
            ((conv => whnf); (repeat ((first | refine SeqN.plain ?_ | refine BoxN.own ?_ | refine RwN.own ?_ | refine VrN.norm (wrap_i64 (by omega)) ?_ | refine VrN.keep ?_ | refine DrawN.calm (by decide +kernel) ?_ | refine Nd.mk (by decide +kernel) ?_ | refine Nd.mk (by omega) ?_ | (refine Nd.mk ?_ ?_; focus ((repeat' (first | exact trivial | exact wkE_refl _ | refine And.intro ?_ ?_)); done)) | refine RdN.intro _ rfl (by rfl) ?_); (conv => whnf))))
            -- 12: the letter, (t ++ [0, 32]): the text
            refine Nd.mk (by rw [bs_size, bs_size]; show form.length + 1 < _; omega) ?_
            rw [bs_app]
            ((conv => whnf); (repeat ((first | refine SeqN.plain ?_ | refine BoxN.own ?_ | refine RwN.own ?_ | refine VrN.norm (wrap_i64 (by omega)) ?_ | refine VrN.keep ?_ | refine DrawN.calm (by decide +kernel) ?_ | refine Nd.mk (by decide +kernel) ?_ | refine Nd.mk (by omega) ?_ | (refine Nd.mk ?_ ?_; focus ((repeat' (first | exact trivial | exact wkE_refl _ | refine And.intro ?_ ?_)); done)) | refine RdN.intro _ rfl (by rfl) ?_); (conv => whnf))))
            refine Nd.mk (by rw [bs_size]; simp only [List.length_append, List.length_cons, List.length_nil]; show form.length + 1 + 1 < _; omega) ?_
            rw [show (⟨#[42]⟩ : ByteArray) = bs [42] from rfl, bs_app]
            ((conv => whnf); (repeat ((first | refine SeqN.plain ?_ | refine BoxN.own ?_ | refine RwN.own ?_ | refine VrN.norm (wrap_i64 (by omega)) ?_ | refine VrN.keep ?_ | refine DrawN.calm (by decide +kernel) ?_ | refine Nd.mk (by decide +kernel) ?_ | refine Nd.mk (by omega) ?_ | (refine Nd.mk ?_ ?_; focus ((repeat' (first | exact trivial | exact wkE_refl _ | refine And.intro ?_ ?_)); done)) | refine RdN.intro _ rfl (by rfl) ?_); (conv => whnf))))
            try refine Nd.mk ⟨Nat.le_refl 1, rfl, rfl⟩ ?_
            (conv => whnf)
            refine AppN.grow 1 (itemsC items) (itemC ⟨true, 0, (t ++ [0, 32])⟩) rfl rfl ⟨Nat.le_refl 1, ⟨by show (items.length + 1) * 32 ≤ _; omega, by omega⟩, by show 3 ≠ 0; omega⟩ fun b1 c1 h11 h12 => ?_
            ((conv => whnf); (repeat ((first | refine SeqN.plain ?_ | refine BoxN.own ?_ | refine RwN.own ?_ | refine VrN.norm (wrap_i64 (by omega)) ?_ | refine VrN.keep ?_ | refine DrawN.calm (by decide +kernel) ?_ | refine Nd.mk (by decide +kernel) ?_ | refine Nd.mk (by omega) ?_ | (refine Nd.mk ?_ ?_; focus ((repeat' (first | exact trivial | exact wkE_refl _ | refine And.intro ?_ ?_)); done)) | refine RdN.intro _ rfl (by rfl) ?_); (conv => whnf))))
            have hI1 : (items ++ [(⟨true, 0, (t ++ [0, 32])⟩ : Pack.Item)]).length = items.length + 1 := by rw [List.length_append]; rfl
            have hC1 := itemsC_snoc items ⟨true, 0, (t ++ [0, 32])⟩
            -- (t ++ [0, 32]): the text, hR.aa hP (by omega) (t ++ [0, 32]) (by rw [List.length_append]; show t.length + 2 ≤ 11; omega): what is made of it, [97, 42]: the form's last bytes, 12: the letter
            obtain ⟨ds2, out2, hO⟩ := hR.aa hP (by omega) (t ++ [0, 32]) (by rw [List.length_append]; show t.length + 2 ≤ 11; omega)
            refine fin_p (fun w => SlAt (at0 (some b1)) ((items ++ [(⟨true, 0, (t ++ [0, 32])⟩ : Pack.Item)]).length * 3) (itemsC (items ++ [⟨true, 0, (t ++ [0, 32])⟩])) w) ⟨_, ds2, out2, _, some b1, c1, ?_, hO, (fun h => by cases h), fun w hw => hw⟩ (fun w hw => by rw [hI1, ← hC1]; exact hw.2.1)
            rw [hI1, show form ++ [97, 42] = form ++ [lets15.getD 12 0] ++ [42] by simp [lets15]]
            rfl
          · ((conv => whnf); (repeat ((first | refine SeqN.plain ?_ | refine BoxN.own ?_ | refine RwN.own ?_ | refine VrN.norm (wrap_i64 (by omega)) ?_ | refine VrN.keep ?_ | refine DrawN.calm (by decide +kernel) ?_ | refine Nd.mk (by decide +kernel) ?_ | refine Nd.mk (by omega) ?_ | (refine Nd.mk ?_ ?_; focus ((repeat' (first | exact trivial | exact wkE_refl _ | refine And.intro ?_ ?_)); done)) | refine RdN.intro _ rfl (by rfl) ?_); (conv => whnf))))
            -- 12: the letter, t: the text
            refine Nd.mk (by rw [bs_size, bs_size]; show form.length + 1 < _; omega) ?_
            rw [bs_app]
            ((conv => whnf); (repeat ((first | refine SeqN.plain ?_ | refine BoxN.own ?_ | refine RwN.own ?_ | refine VrN.norm (wrap_i64 (by omega)) ?_ | refine VrN.keep ?_ | refine DrawN.calm (by decide +kernel) ?_ | refine Nd.mk (by decide +kernel) ?_ | refine Nd.mk (by omega) ?_ | (refine Nd.mk ?_ ?_; focus ((repeat' (first | exact trivial | exact wkE_refl _ | refine And.intro ?_ ?_)); done)) | refine RdN.intro _ rfl (by rfl) ?_); (conv => whnf))))
            refine Nd.mk (by rw [bs_size]; simp only [List.length_append, List.length_cons, List.length_nil]; show form.length + 1 + 1 < _; omega) ?_
            rw [show (⟨#[42]⟩ : ByteArray) = bs [42] from rfl, bs_app]
            ((conv => whnf); (repeat ((first | refine SeqN.plain ?_ | refine BoxN.own ?_ | refine RwN.own ?_ | refine VrN.norm (wrap_i64 (by omega)) ?_ | refine VrN.keep ?_ | refine DrawN.calm (by decide +kernel) ?_ | refine Nd.mk (by decide +kernel) ?_ | refine Nd.mk (by omega) ?_ | (refine Nd.mk ?_ ?_; focus ((repeat' (first | exact trivial | exact wkE_refl _ | refine And.intro ?_ ?_)); done)) | refine RdN.intro _ rfl (by rfl) ?_); (conv => whnf))))
            try refine Nd.mk ⟨Nat.le_refl 1, rfl, rfl⟩ ?_
            (conv => whnf)
            refine AppN.grow 1 (itemsC items) (itemC ⟨true, 0, t⟩) rfl rfl ⟨Nat.le_refl 1, ⟨by show (items.length + 1) * 32 ≤ _; omega, by omega⟩, by show 3 ≠ 0; omega⟩ fun b1 c1 h11 h12 => ?_
            ((conv => whnf); (repeat ((first | refine SeqN.plain ?_ | refine BoxN.own ?_ | refine RwN.own ?_ | refine VrN.norm (wrap_i64 (by omega)) ?_ | refine VrN.keep ?_ | refine DrawN.calm (by decide +kernel) ?_ | refine Nd.mk (by decide +kernel) ?_ | refine Nd.mk (by omega) ?_ | (refine Nd.mk ?_ ?_; focus ((repeat' (first | exact trivial | exact wkE_refl _ | refine And.intro ?_ ?_)); done)) | refine RdN.intro _ rfl (by rfl) ?_); (conv => whnf))))
            have hI1 : (items ++ [(⟨true, 0, t⟩ : Pack.Item)]).length = items.length + 1 := by rw [List.length_append]; rfl
            have hC1 := itemsC_snoc items ⟨true, 0, t⟩
            -- t: the text, hR.aa hP (by omega) t (by omega): what is made of it, [97, 42]: the form's last bytes, 12: the letter
            obtain ⟨ds2, out2, hO⟩ := hR.aa hP (by omega) t (by omega)
            refine fin_p (fun w => SlAt (at0 (some b1)) ((items ++ [(⟨true, 0, t⟩ : Pack.Item)]).length * 3) (itemsC (items ++ [⟨true, 0, t⟩])) w) ⟨_, ds2, out2, _, some b1, c1, ?_, hO, (fun h => by cases h), fun w hw => hw⟩ (fun w hw => by rw [hI1, ← hC1]; exact hw.2.1)
            rw [hI1, show form ++ [97, 42] = form ++ [lets15.getD 12 0] ++ [42] by simp [lets15]]
            rfl
        · ((conv => whnf); (repeat ((first | refine SeqN.plain ?_ | refine BoxN.own ?_ | refine RwN.own ?_ | refine VrN.norm (wrap_i64 (by omega)) ?_ | refine VrN.keep ?_ | refine DrawN.calm (by decide +kernel) ?_ | refine Nd.mk (by decide +kernel) ?_ | refine Nd.mk (by omega) ?_ | (refine Nd.mk ?_ ?_; focus ((repeat' (first | exact trivial | exact wkE_refl _ | refine And.intro ?_ ?_)); done)) | refine RdN.intro _ rfl (by rfl) ?_); (conv => whnf))))
          rw [hd16, hu16, h164]
          try rw [wrap_i64 (x := ((U / 16 % 4 : Nat) : Int)) (by omega)]
          refine call1 (Repeat7a_c (U / 16 % 4) (Nat.mod_lt _ (by decide)) _) ?_
          have hr0 := rep7 ⟨U / 16 % 4, Nat.mod_lt _ (by decide)⟩
          dsimp only at hr0
          obtain ⟨hr1, hr2, hr3, hr4, hr5⟩ := hr0
          generalize hrr : Lib.repeatL [55, 97] (U / 16 % 4) = t at *
          ((conv => whnf); (repeat ((first | refine SeqN.plain ?_ | refine BoxN.own ?_ | refine RwN.own ?_ | refine VrN.norm (wrap_i64 (by omega)) ?_ | refine VrN.keep ?_ | refine DrawN.calm (by decide +kernel) ?_ | refine Nd.mk (by decide +kernel) ?_ | refine Nd.mk (by omega) ?_ | (refine Nd.mk ?_ ?_; focus ((repeat' (first | exact trivial | exact wkE_refl _ | refine And.intro ?_ ?_)); done)) | refine RdN.intro _ rfl (by rfl) ?_); (conv => whnf))))
          -- 13: the letter, t: the text
          refine Nd.mk (by rw [bs_size, bs_size]; show form.length + 1 < _; omega) ?_
          rw [bs_app]
          ((conv => whnf); (repeat ((first | refine SeqN.plain ?_ | refine BoxN.own ?_ | refine RwN.own ?_ | refine VrN.norm (wrap_i64 (by omega)) ?_ | refine VrN.keep ?_ | refine DrawN.calm (by decide +kernel) ?_ | refine Nd.mk (by decide +kernel) ?_ | refine Nd.mk (by omega) ?_ | (refine Nd.mk ?_ ?_; focus ((repeat' (first | exact trivial | exact wkE_refl _ | refine And.intro ?_ ?_)); done)) | refine RdN.intro _ rfl (by rfl) ?_); (conv => whnf))))
          refine Nd.mk (by rw [bs_size]; simp only [List.length_append, List.length_cons, List.length_nil]; show form.length + 1 + 1 < _; omega) ?_
          rw [show (⟨#[42]⟩ : ByteArray) = bs [42] from rfl, bs_app]
          ((conv => whnf); (repeat ((first | refine SeqN.plain ?_ | refine BoxN.own ?_ | refine RwN.own ?_ | refine VrN.norm (wrap_i64 (by omega)) ?_ | refine VrN.keep ?_ | refine DrawN.calm (by decide +kernel) ?_ | refine Nd.mk (by decide +kernel) ?_ | refine Nd.mk (by omega) ?_ | (refine Nd.mk ?_ ?_; focus ((repeat' (first | exact trivial | exact wkE_refl _ | refine And.intro ?_ ?_)); done)) | refine RdN.intro _ rfl (by rfl) ?_); (conv => whnf))))
          try refine Nd.mk ⟨Nat.le_refl 1, rfl, rfl⟩ ?_
          (conv => whnf)
          refine AppN.grow 1 (itemsC items) (itemC ⟨true, 0, t⟩) rfl rfl ⟨Nat.le_refl 1, ⟨by show (items.length + 1) * 32 ≤ _; omega, by omega⟩, by show 3 ≠ 0; omega⟩ fun b1 c1 h11 h12 => ?_
          ((conv => whnf); (repeat ((first | refine SeqN.plain ?_ | refine BoxN.own ?_ | refine RwN.own ?_ | refine VrN.norm (wrap_i64 (by omega)) ?_ | refine VrN.keep ?_ | refine DrawN.calm (by decide +kernel) ?_ | refine Nd.mk (by decide +kernel) ?_ | refine Nd.mk (by omega) ?_ | (refine Nd.mk ?_ ?_; focus ((repeat' (first | exact trivial | exact wkE_refl _ | refine And.intro ?_ ?_)); done)) | refine RdN.intro _ rfl (by rfl) ?_); (conv => whnf))))
          have hI1 : (items ++ [(⟨true, 0, t⟩ : Pack.Item)]).length = items.length + 1 := by rw [List.length_append]; rfl
          have hC1 := itemsC_snoc items ⟨true, 0, t⟩
          obtain ⟨ds2, out2, hR2, hP2⟩ := hR.zed hP t (by omega) hr2
          refine ⟨(i + 1, form ++ [90, 42], items ++ [⟨true, 0, t⟩], some b1, c1), ⟨by omega, by omega, ⟨ds2, out2, hR2, hP2⟩, ⟨(fun h => by cases h), by rw [hI1]; omega⟩⟩, by show 30 - (i + 1) < 30 - i; omega, ?_, ⟨wkE_refl _, .inl ⟨rfl, rfl, hC1, rfl, hI1.symm, rfl⟩, wkH_nil _⟩⟩
          (repeat' (first | exact trivial | refine And.intro (by with_reducible rfl) ?_ | (with_reducible exact wkC_refl _) | (with_reducible exact wkCs_refl _) | refine And.intro ?_ ?_))
          all_goals first | rfl | (rw [hI1]; rfl) | exact av_bs2 (by simp [lets15]) | exact av_int (by first | omega | (rw [wrap_i64 (by omega)]; omega))
        · ((conv => whnf); (repeat ((first | refine SeqN.plain ?_ | refine BoxN.own ?_ | refine RwN.own ?_ | refine VrN.norm (wrap_i64 (by omega)) ?_ | refine VrN.keep ?_ | refine DrawN.calm (by decide +kernel) ?_ | refine Nd.mk (by decide +kernel) ?_ | refine Nd.mk (by omega) ?_ | (refine Nd.mk ?_ ?_; focus ((repeat' (first | exact trivial | exact wkE_refl _ | refine And.intro ?_ ?_)); done)) | refine RdN.intro _ rfl (by rfl) ?_); (conv => whnf))))
          rw [hd16, hu16, h164]
          try rw [wrap_i64 (x := ((U / 16 % 4 : Nat) : Int)) (by omega)]
          refine call1 (Repeat7a_c (U / 16 % 4) (Nat.mod_lt _ (by decide)) _) ?_
          have hr0 := rep7 ⟨U / 16 % 4, Nat.mod_lt _ (by decide)⟩
          dsimp only at hr0
          obtain ⟨hr1, hr2, hr3, hr4, hr5⟩ := hr0
          generalize hrr : Lib.repeatL [55, 97] (U / 16 % 4) = t at *
          ((conv => whnf); (repeat ((first | refine SeqN.plain ?_ | refine BoxN.own ?_ | refine RwN.own ?_ | refine VrN.norm (wrap_i64 (by omega)) ?_ | refine VrN.keep ?_ | refine DrawN.calm (by decide +kernel) ?_ | refine Nd.mk (by decide +kernel) ?_ | refine Nd.mk (by omega) ?_ | (refine Nd.mk ?_ ?_; focus ((repeat' (first | exact trivial | exact wkE_refl _ | refine And.intro ?_ ?_)); done)) | refine RdN.intro _ rfl (by rfl) ?_); (conv => whnf))))
          -- 14: the letter, t: the text
          refine Nd.mk (by rw [bs_size, bs_size]; show form.length + 1 < _; omega) ?_
          rw [bs_app]
          ((conv => whnf); (repeat ((first | refine SeqN.plain ?_ | refine BoxN.own ?_ | refine RwN.own ?_ | refine VrN.norm (wrap_i64 (by omega)) ?_ | refine VrN.keep ?_ | refine DrawN.calm (by decide +kernel) ?_ | refine Nd.mk (by decide +kernel) ?_ | refine Nd.mk (by omega) ?_ | (refine Nd.mk ?_ ?_; focus ((repeat' (first | exact trivial | exact wkE_refl _ | refine And.intro ?_ ?_)); done)) | refine RdN.intro _ rfl (by rfl) ?_); (conv => whnf))))
          refine Nd.mk (by rw [bs_size]; simp only [List.length_append, List.length_cons, List.length_nil]; show form.length + 1 + 1 < _; omega) ?_
          rw [show (⟨#[42]⟩ : ByteArray) = bs [42] from rfl, bs_app]
          ((conv => whnf); (repeat ((first | refine SeqN.plain ?_ | refine BoxN.own ?_ | refine RwN.own ?_ | refine VrN.norm (wrap_i64 (by omega)) ?_ | refine VrN.keep ?_ | refine DrawN.calm (by decide +kernel) ?_ | refine Nd.mk (by decide +kernel) ?_ | refine Nd.mk (by omega) ?_ | (refine Nd.mk ?_ ?_; focus ((repeat' (first | exact trivial | exact wkE_refl _ | refine And.intro ?_ ?_)); done)) | refine RdN.intro _ rfl (by rfl) ?_); (conv => whnf))))
          try refine Nd.mk ⟨Nat.le_refl 1, rfl, rfl⟩ ?_
          (conv => whnf)
          refine AppN.grow 1 (itemsC items) (itemC ⟨true, 0, t⟩) rfl rfl ⟨Nat.le_refl 1, ⟨by show (items.length + 1) * 32 ≤ _; omega, by omega⟩, by show 3 ≠ 0; omega⟩ fun b1 c1 h11 h12 => ?_
          ((conv => whnf); (repeat ((first | refine SeqN.plain ?_ | refine BoxN.own ?_ | refine RwN.own ?_ | refine VrN.norm (wrap_i64 (by omega)) ?_ | refine VrN.keep ?_ | refine DrawN.calm (by decide +kernel) ?_ | refine Nd.mk (by decide +kernel) ?_ | refine Nd.mk (by omega) ?_ | (refine Nd.mk ?_ ?_; focus ((repeat' (first | exact trivial | exact wkE_refl _ | refine And.intro ?_ ?_)); done)) | refine RdN.intro _ rfl (by rfl) ?_); (conv => whnf))))
          have hI1 : (items ++ [(⟨true, 0, t⟩ : Pack.Item)]).length = items.length + 1 := by rw [List.length_append]; rfl
          have hC1 := itemsC_snoc items ⟨true, 0, t⟩
          -- t: the text, hR.hh hP (by omega) t _ (by omega) (by rw [List.length_replicate]; omega) hr4 hr5 hr3: what is made of it, [72, 42]: the form's last bytes, 14: the letter
          obtain ⟨ds2, out2, hO⟩ := hR.hh hP (by omega) t _ (by omega) (by rw [List.length_replicate]; omega) hr4 hr5 hr3
          refine fin_p (fun w => SlAt (at0 (some b1)) ((items ++ [(⟨true, 0, t⟩ : Pack.Item)]).length * 3) (itemsC (items ++ [⟨true, 0, t⟩])) w) ⟨_, ds2, out2, _, some b1, c1, ?_, hO, (fun h => by cases h), fun w hw => hw⟩ (fun w hw => by rw [hI1, ← hC1]; exact hw.2.1)
          rw [hI1, show form ++ [72, 42] = form ++ [lets15.getD 14 0] ++ [42] by simp [lets15]]
          rfl
      rintro n ⟨hn, hk12, hft⟩
      have hbk := big_k ⟨k, hk12⟩
      simp only at hbk
      ((conv => whnf); (repeat ((first | refine SeqN.plain ?_ | refine BoxN.own ?_ | refine RwN.own ?_ | refine VrN.norm (wrap_i64 (by omega)) ?_ | refine VrN.keep ?_ | refine DrawN.calm (by decide +kernel) ?_ | refine Nd.mk (by decide +kernel) ?_ | refine Nd.mk (by omega) ?_ | (refine Nd.mk ?_ ?_; focus ((repeat' (first | exact trivial | exact wkE_refl _ | refine And.intro ?_ ?_)); done)) | refine RdN.intro _ rfl (by rfl) ?_); (conv => whnf))))
      refine Nd.mk (by rw [bs_size, bs_size]; show form.length + 1 < _; omega) ?_
      rw [bs_app]
      ((conv => whnf); (repeat ((first | refine SeqN.plain ?_ | refine BoxN.own ?_ | refine RwN.own ?_ | refine VrN.norm (wrap_i64 (by omega)) ?_ | refine VrN.keep ?_ | refine DrawN.calm (by decide +kernel) ?_ | refine Nd.mk (by decide +kernel) ?_ | refine Nd.mk (by omega) ?_ | (refine Nd.mk ?_ ?_; focus ((repeat' (first | exact trivial | exact wkE_refl _ | refine And.intro ?_ ?_)); done)) | refine RdN.intro _ rfl (by rfl) ?_); (conv => whnf))))
      refine call1 (Contains1_c [83, 115, 76, 108, 81, 113] (lets15.getD k 0) _) ?_
      cases hbg : List.contains [83, 115, 76, 108, 81, 113] (lets15.getD k 0) with
      | true =>
        have hb2 := hbk hbg
        ((conv => whnf); (repeat ((first | refine SeqN.plain ?_ | refine BoxN.own ?_ | refine RwN.own ?_ | refine VrN.norm (wrap_i64 (by omega)) ?_ | refine VrN.keep ?_ | refine DrawN.calm (by decide +kernel) ?_ | refine Nd.mk (by decide +kernel) ?_ | refine Nd.mk (by omega) ?_ | (refine Nd.mk ?_ ?_; focus ((repeat' (first | exact trivial | exact wkE_refl _ | refine And.intro ?_ ?_)); done)) | refine RdN.intro _ rfl (by rfl) ?_); (conv => whnf))))
        rw [hd32, hu32, h322]
        refine brd_eq (fun h3 => ?_) (fun h3 => ?_)
        · ((conv => whnf); (repeat ((first | refine SeqN.plain ?_ | refine BoxN.own ?_ | refine RwN.own ?_ | refine VrN.norm (wrap_i64 (by omega)) ?_ | refine VrN.keep ?_ | refine DrawN.calm (by decide +kernel) ?_ | refine Nd.mk (by decide +kernel) ?_ | refine Nd.mk (by omega) ?_ | (refine Nd.mk ?_ ?_; focus ((repeat' (first | exact trivial | exact wkE_refl _ | refine And.intro ?_ ?_)); done)) | refine RdN.intro _ rfl (by rfl) ?_); (conv => whnf))))
          refine Nd.mk (by rw [bs_size]; simp only [List.length_append, List.length_cons, List.length_nil]; show form.length + 1 + 1 < _; omega) ?_
          rw [show (⟨#[62]⟩ : ByteArray) = bs [62] from rfl, bs_app]
          ((conv => whnf); (repeat ((first | refine SeqN.plain ?_ | refine BoxN.own ?_ | refine RwN.own ?_ | refine VrN.norm (wrap_i64 (by omega)) ?_ | refine VrN.keep ?_ | refine DrawN.calm (by decide +kernel) ?_ | refine Nd.mk (by decide +kernel) ?_ | refine Nd.mk (by omega) ?_ | (refine Nd.mk ?_ ?_; focus ((repeat' (first | exact trivial | exact wkE_refl _ | refine And.intro ?_ ?_)); done)) | refine RdN.intro _ rfl (by rfl) ?_); (conv => whnf))))
          -- true: big, (fun _ => hb2): why it may
          try refine Nd.mk ⟨Nat.le_refl 1, rfl, rfl⟩ ?_
          (conv => whnf)
          refine AppN.grow 1 (itemsC items) (itemC ⟨false, n, []⟩) rfl rfl ⟨Nat.le_refl 1, ⟨by show (items.length + 1) * 32 ≤ _; omega, by omega⟩, by show 3 ≠ 0; omega⟩ fun b1 c1 h11 h12 => ?_
          ((conv => whnf); (repeat ((first | refine SeqN.plain ?_ | refine BoxN.own ?_ | refine RwN.own ?_ | refine VrN.norm (wrap_i64 (by omega)) ?_ | refine VrN.keep ?_ | refine DrawN.calm (by decide +kernel) ?_ | refine Nd.mk (by decide +kernel) ?_ | refine Nd.mk (by omega) ?_ | (refine Nd.mk ?_ ?_; focus ((repeat' (first | exact trivial | exact wkE_refl _ | refine And.intro ?_ ?_)); done)) | refine RdN.intro _ rfl (by rfl) ?_); (conv => whnf))))
          obtain ⟨ds2, out2, hR2, hP2⟩ := hR.num hP k hk12 true (fun _ => hb2) n hn ⟨_, by rw [numS_fit, hft]; rfl⟩
          have hI1 : (items ++ [(⟨false, n, []⟩ : Pack.Item)]).length = items.length + 1 := by rw [List.length_append]; rfl
          refine ⟨(i + 1, form ++ lets15.getD k 0 :: bigP true, items ++ [⟨false, n, []⟩], some b1, c1), ⟨by omega, by omega, ⟨ds2, out2, hR2, hP2⟩, ⟨(fun h => by cases h), by rw [hI1]; omega⟩⟩, by show 30 - (i + 1) < 30 - i; omega, ?_, ⟨wkE_refl _, .inl ⟨rfl, rfl, itemsC_snoc items _, rfl, hI1.symm, rfl⟩, wkH_nil _⟩⟩
          (repeat' (first | exact trivial | refine And.intro (by with_reducible rfl) ?_ | (with_reducible exact wkC_refl _) | (with_reducible exact wkCs_refl _) | refine And.intro ?_ ?_))
          all_goals first | rfl | (rw [hI1]; rfl) | exact av_bs2 (by simp [bigP]) | exact av_int (by first | omega | (rw [wrap_i64 (by omega)]; omega))
        · ((conv => whnf); (repeat ((first | refine SeqN.plain ?_ | refine BoxN.own ?_ | refine RwN.own ?_ | refine VrN.norm (wrap_i64 (by omega)) ?_ | refine VrN.keep ?_ | refine DrawN.calm (by decide +kernel) ?_ | refine Nd.mk (by decide +kernel) ?_ | refine Nd.mk (by omega) ?_ | (refine Nd.mk ?_ ?_; focus ((repeat' (first | exact trivial | exact wkE_refl _ | refine And.intro ?_ ?_)); done)) | refine RdN.intro _ rfl (by rfl) ?_); (conv => whnf))))
          -- false: big, (fun h => by cases h): why it may
          try refine Nd.mk ⟨Nat.le_refl 1, rfl, rfl⟩ ?_
          (conv => whnf)
          refine AppN.grow 1 (itemsC items) (itemC ⟨false, n, []⟩) rfl rfl ⟨Nat.le_refl 1, ⟨by show (items.length + 1) * 32 ≤ _; omega, by omega⟩, by show 3 ≠ 0; omega⟩ fun b1 c1 h11 h12 => ?_
          ((conv => whnf); (repeat ((first | refine SeqN.plain ?_ | refine BoxN.own ?_ | refine RwN.own ?_ | refine VrN.norm (wrap_i64 (by omega)) ?_ | refine VrN.keep ?_ | refine DrawN.calm (by decide +kernel) ?_ | refine Nd.mk (by decide +kernel) ?_ | refine Nd.mk (by omega) ?_ | (refine Nd.mk ?_ ?_; focus ((repeat' (first | exact trivial | exact wkE_refl _ | refine And.intro ?_ ?_)); done)) | refine RdN.intro _ rfl (by rfl) ?_); (conv => whnf))))
          obtain ⟨ds2, out2, hR2, hP2⟩ := hR.num hP k hk12 false (fun h => by cases h) n hn ⟨_, by rw [numS_fit, hft]; rfl⟩
          have hI1 : (items ++ [(⟨false, n, []⟩ : Pack.Item)]).length = items.length + 1 := by rw [List.length_append]; rfl
          refine ⟨(i + 1, form ++ lets15.getD k 0 :: bigP false, items ++ [⟨false, n, []⟩], some b1, c1), ⟨by omega, by omega, ⟨ds2, out2, hR2, hP2⟩, ⟨(fun h => by cases h), by rw [hI1]; omega⟩⟩, by show 30 - (i + 1) < 30 - i; omega, ?_, ⟨wkE_refl _, .inl ⟨rfl, rfl, itemsC_snoc items _, rfl, hI1.symm, rfl⟩, wkH_nil _⟩⟩
          (repeat' (first | exact trivial | refine And.intro (by with_reducible rfl) ?_ | (with_reducible exact wkC_refl _) | (with_reducible exact wkCs_refl _) | refine And.intro ?_ ?_))
          all_goals first | rfl | (rw [hI1]; rfl) | exact av_bs2 (by simp [bigP]) | exact av_int (by first | omega | (rw [wrap_i64 (by omega)]; omega))
      | false =>
        ((conv => whnf); (repeat ((first | refine SeqN.plain ?_ | refine BoxN.own ?_ | refine RwN.own ?_ | refine VrN.norm (wrap_i64 (by omega)) ?_ | refine VrN.keep ?_ | refine DrawN.calm (by decide +kernel) ?_ | refine Nd.mk (by decide +kernel) ?_ | refine Nd.mk (by omega) ?_ | (refine Nd.mk ?_ ?_; focus ((repeat' (first | exact trivial | exact wkE_refl _ | refine And.intro ?_ ?_)); done)) | refine RdN.intro _ rfl (by rfl) ?_); (conv => whnf))))
        -- false: big, (fun h => by cases h): why it may
        try refine Nd.mk ⟨Nat.le_refl 1, rfl, rfl⟩ ?_
        (conv => whnf)
        refine AppN.grow 1 (itemsC items) (itemC ⟨false, n, []⟩) rfl rfl ⟨Nat.le_refl 1, ⟨by show (items.length + 1) * 32 ≤ _; omega, by omega⟩, by show 3 ≠ 0; omega⟩ fun b1 c1 h11 h12 => ?_
        ((conv => whnf); (repeat ((first | refine SeqN.plain ?_ | refine BoxN.own ?_ | refine RwN.own ?_ | refine VrN.norm (wrap_i64 (by omega)) ?_ | refine VrN.keep ?_ | refine DrawN.calm (by decide +kernel) ?_ | refine Nd.mk (by decide +kernel) ?_ | refine Nd.mk (by omega) ?_ | (refine Nd.mk ?_ ?_; focus ((repeat' (first | exact trivial | exact wkE_refl _ | refine And.intro ?_ ?_)); done)) | refine RdN.intro _ rfl (by rfl) ?_); (conv => whnf))))
        obtain ⟨ds2, out2, hR2, hP2⟩ := hR.num hP k hk12 false (fun h => by cases h) n hn ⟨_, by rw [numS_fit, hft]; rfl⟩
        have hI1 : (items ++ [(⟨false, n, []⟩ : Pack.Item)]).length = items.length + 1 := by rw [List.length_append]; rfl
        refine ⟨(i + 1, form ++ lets15.getD k 0 :: bigP false, items ++ [⟨false, n, []⟩], some b1, c1), ⟨by omega, by omega, ⟨ds2, out2, hR2, hP2⟩, ⟨(fun h => by cases h), by rw [hI1]; omega⟩⟩, by show 30 - (i + 1) < 30 - i; omega, ?_, ⟨wkE_refl _, .inl ⟨rfl, rfl, itemsC_snoc items _, rfl, hI1.symm, rfl⟩, wkH_nil _⟩⟩
        (repeat' (first | exact trivial | refine And.intro (by with_reducible rfl) ?_ | (with_reducible exact wkC_refl _) | (with_reducible exact wkCs_refl _) | refine And.intro ?_ ?_))
        all_goals first | rfl | (rw [hI1]; rfl) | exact av_bs2 (by simp [bigP]) | exact av_int (by first | omega | (rw [wrap_i64 (by omega)]; omega))
    · ((conv => whnf); (repeat ((first | refine SeqN.plain ?_ | refine BoxN.own ?_ | refine RwN.own ?_ | refine VrN.norm (wrap_i64 (by omega)) ?_ | refine VrN.keep ?_ | refine DrawN.calm (by decide +kernel) ?_ | refine Nd.mk (by decide +kernel) ?_ | refine Nd.mk (by omega) ?_ | (refine Nd.mk ?_ ?_; focus ((repeat' (first | exact trivial | exact wkE_refl _ | refine And.intro ?_ ?_)); done)) | refine RdN.intro _ rfl (by rfl) ?_); (conv => whnf))))
      refine fin_p (fun w => SlAt (at0 ob) (items.length * 3) (itemsC items) w) ⟨form, ds, out, items, ob, cap, rfl, hR.done (by omega) hP.done, fun h => (hob.1 h).1, fun w hw => hw⟩ (fun w hw => hw.2.1)
  · ((conv => whnf); (repeat ((first | refine SeqN.plain ?_ | refine BoxN.own ?_ | refine RwN.own ?_ | refine VrN.norm (wrap_i64 (by omega)) ?_ | refine VrN.keep ?_ | refine DrawN.calm (by decide +kernel) ?_ | refine Nd.mk (by decide +kernel) ?_ | refine Nd.mk (by omega) ?_ | (refine Nd.mk ?_ ?_; focus ((repeat' (first | exact trivial | exact wkE_refl _ | refine And.intro ?_ ?_)); done)) | refine RdN.intro _ rfl (by rfl) ?_); (conv => whnf))))
    refine fin_p (fun w => SlAt (at0 ob) (items.length * 3) (itemsC items) w) ⟨form, ds, out, items, ob, cap, rfl, hR.done (by omega) hP.done, fun h => (hob.1 h).1, fun w hw => hw⟩ (fun w hw => hw.2.1)
end Go.Proofs.YtjkchonpnocffaaDoor

/-
  Contract: PackBack (law).
-/
namespace Go.Proofs.YtjkchonpnocffaaDoor
open Go.AX Go.RowKit Go.Pack
set_option maxRecDepth 20000

theorem some_at {α : Type} {x : List α} {ob : Option Nat} (h : ob = none → x = []) : x ≠ [] → (at0 ob).isSome = true := fun hn => by
  cases ob with
  | none => exact absurd (h rfl) hn
  | some g => rfl
theorem PackBack_c (ia : Option Addr) (l : List Int) (pcap : Nat) (ha : l ≠ [] → ia.isSome = true) (hr : ∀ p ∈ l, -9223372036854775808 ≤ p ∧ p < 9223372036854775808) :
    ∀ H, (∀ w, Facts H w → UtfF w ∧ IntsF ia l w) → SpecH Tryd.prog 6 (pvs [.slice ia l.length pcap]) H (Ret (.bool true) H) := by
  refine factC hm Tryd.func6 (by kernel_rfl) rfl rfl ?_
  (first | refine wX ?_ | exact wZ)
  refine SpecF.call (Round_c ia l pcap ha hr) (fun w hw => hw.1.2) fun v G hR => ?_
  obtain ⟨form, ds, out, items, ob, cap, rfl, hO, hob, hG⟩ := hR
  obtain ⟨hp, hu⟩ := hO.pack
  have hfs := hO.size
  have hil := hO.items
  have hol := hO.out
  have hx2 : ∀ z ∈ items, z.text.length ≤ 140737488351232 ∧ -9223372036854775808 ≤ z.int ∧ z.int < 9223372036854775808 := fun z hz => ⟨Nat.le_trans (hO.ok z hz).1 (by decide), (hO.ok z hz).2⟩
  (first | refine wX ?_ | exact wZ)
  refine SpecF.call (back_c (at0 ob) items cap (by omega) (some_at hob)) (fun w hw => hG w hw.2.1) fun v1 G1 hR1 => ?_
  obtain ⟨o1, c1, rfl, ho1, hG1⟩ := hR1
  (first | refine wX ?_ | exact wZ)
  refine call1 (Pack_c form (at0 o1) items c1 (by omega) (some_at ho1) (by omega) hx2 _ (fun w hw => hG1 w hw.2.2.1)) ?_
  rw [hp, show packV (.ok (out, items.length)) = .tuple #[.string (bs out), .int .i64 0] from rfl]
  (first | refine wX ?_ | exact wZ)
  refine SpecF.call (Unpack_c form out (by omega) (by omega)) (fun w hw => hw.1.1) fun v2 G2 hR2 => ?_
  rw [hu] at hR2
  obtain ⟨o2, c2, rfl, ho2, hG2⟩ := hR2
  (first | refine wX ?_ | exact wZ)
  refine SpecF.call (back_c (at0 ob) items cap (by omega) (some_at hob)) (fun w hw => hG w hw.2.1) fun v3 G3 hR3 => ?_
  obtain ⟨o3, c3, rfl, ho3, hG3⟩ := hR3
  (first | refine wX ?_ | exact wZ)
  refine call1 (Used_c form (at0 o3) items c3 (by omega) (some_at ho3) (by omega) hx2 _ (fun w hw => hG3 w hw.2.2.2.2.1)) ?_
  rw [hp, show usedV (.ok (out, items.length)) = .tuple #[.int .i64 (items.length : Int), .int .i64 0] from rfl]
  (first | refine wX ?_ | exact wZ)
  refine brd_eq (fun _ => ?_) (fun h => absurd rfl h)
  (first | refine wX ?_ | exact wZ)
  refine call1 (same_c items o2 ob c2 cap ho2 hob (by omega) _ (fun w hw => ⟨hG2 w hw.2.2.2.1, hG w hw.2.1⟩)) ?_
  (first | refine wX ?_ | exact wZ)
  refine call1 (sane_c _ (fun w hw => hw.1.1)) ?_
  (first | refine wX ?_ | exact wZ)
end Go.Proofs.YtjkchonpnocffaaDoor

/-
  PackBackCardSaid is proved: of every list of numbers PackBack returns true and leaves its argument as it was; the listed tables are tied to the program's text.
-/
namespace Go.Proofs.YtjkchonpnocffaaDoor
open Go.ChangeShapes Go.WideShapes Go.ChangeAt Go.RowKit Go.AX
set_option maxRecDepth 100000

theorem int_rng {n : Int} (h : (Lit.int .i64 n).wf = true) : -9223372036854775808 ≤ n ∧ n < 9223372036854775808 := by
  have hw : (decide (IntKind.i64.min ≤ n) && decide (n ≤ IntKind.i64.max)) = true := h
  rw [Bool.and_eq_true, decide_eq_true_eq, decide_eq_true_eq] at hw
  have m1 : IntKind.i64.min = -9223372036854775808 := by decide
  have m2 : IntKind.i64.max = 9223372036854775807 := by decide
  rw [m1, m2] at hw
  omega
namespace PackBack
theorem own : ownKnob Tryd.prog.godebug = none := own0
theorem walk {H : Type} {enc : TypeId × Value → H} (W : World) (base : Nat) (args : Array Value) (ds : List (DataW H)) (p : List MemPlace) (k : Known enc Tryd.prog Tryd.f6 W base args ds p) (_hL : laidMetH Tryd.prog laid3 W) : Walk Tryd.prog 6 args W := by
  obtain ⟨u, rfl⟩ := arr1 (trodAll_len k.trod).2
  obtain ⟨a, l, cap, rfl, ⟨_, ha, hs⟩, _, hr⟩ := k.low.ints (e := 3) (i := .i64) 0 rfl rfl (by kernel_rfl) (by kernel_rfl) (by kernel_rfl) (by decide +kernel)
  have hia : l ≠ [] → a.isSome = true := fun hn => ha.resolve_right fun h => hn (List.eq_nil_of_length_eq_zero h)
  exact walkH [.fact fun w => UtfF w ∧ IntsF a l w] (fun _ he => ⟨_, List.mem_singleton.1 he, (utf_imm (utf_of k.shaped _hL)).and hs⟩) (PackBack_c a l cap hia (fun n hn => int_rng (hr n hn)) _ fun w hw => hw.1)

theorem lifted (os : Os) (started : os.Started) (H : Type) (enc : TypeId × Value → H) :
    ReturnsInHanded {} Tryd.checked os 6 .any (fun w args => (Rows.packBackSpec.pre enc Tryd.prog Tryd.f6 [] false w args ∧ laidMetH Tryd.prog laid3 w) ∧ sizedMet enc Tryd.prog Tryd.f6 (OpenSpec.ofChange Rows.packBackSpec) false w args) (Rows.packBackSpec.post enc Tryd.prog Tryd.f6 false true false false) := by
  refine liftS (C := Tryd.checked) own started (by kernel_rfl) Tryd.func6
    (ChangeSpec.witness_shaped (enc := enc) (C := Tryd.checked) (os := os) (X := fun w _ => laidMetH Tryd.prog laid3 w) false (World.laidAll Tryd.prog os laid3) #[.slice none 0 0] 8 (World.laidAll_os _ _ _) (World.shaped_of_ZipB (by kernel_rfl) (by kernel_rfl)) (by kernel_rfl) (by kernel_rfl) (by kernel_rfl) (door_met os _))
    laidOut rfl (t := _) rfl (by kernel_rfl) (by kernel_rfl) ?_ walk
  intro ds hd
  match ds, hd with
  | [d0], _ => rfl

theorem over : Rows.packBackRow.holds Tryd.pinned (OpenSpec.ofChange Rows.packBackSpec) :=
  OpenClaim.holds_of_wide 6 Tryd.f6 rfl rfl rfl rfl rfl rfl rfl ⟨rfl, rfl, rfl, rfl, rfl⟩ rfl rfl rfl rfl rfl (by kernel_rfl) Tryd.func6 (by kernel_rfl)
    (of_decide_eq_true (by kernel_rfl)) (by unfold Func.isWrapper; first | (rw [if_pos (by decide +kernel)]; kernel_rfl) | (rw [if_neg (by decide +kernel)]; exact ⟨rfl, rfl⟩))
    (fun os started H enc _ => lifted os started H enc)

theorem proved : Rows.PackBackCardSaid :=
  Claim7.holds_tied_plain_at .later [] [.data, .pinned] true (true, "ee40ad3c004e27ba634c39df1e0133c8cbf9a6c49400ae1940cd1f890c212da8") false
    over (fun _ h => by cases h) (by kernel_rfl) (fun _ h => by cases h) packBack_row_tie rfl ⟨rfl, rfl⟩ (by kernel_rfl) rfl
    (fun f fn hf hfn => by
      obtain rfl : f = 6 := Option.some.inj ((show Tryd.prog.funcNamed "cabochon/cabochonlaw03.PackBack" = some 6 by kernel_rfl).symm.trans hf) |>.symm
      obtain rfl : fn = Tryd.f6 := (Option.some.inj (Tryd.func6.symm.trans hfn)).symm
      exact ⟨by kernel_rfl, fun j t ht => by
        have hm : t ∈ Tryd.f6.params.toList := by simpa using Array.mem_of_getElem? ht
        have hall : (Tryd.f6.params.toList.all fun u => !Tryd.prog.wantsStandIn u) = true := by kernel_rfl
        exact (show Tryd.prog.wantsStandIn t = false by simpa using List.all_eq_true.1 hall t hm)⟩)
    (by kernel_rfl)
#print axioms proved
end PackBack
end Go.Proofs.YtjkchonpnocffaaDoor
