/-
  Lemmas (C26 C27 C28 Ax32 Ax33 C29 D5 P4 P5 P6 P7 P8 P18 P19 Ax35 J1 D6).
-/
import Derived.Lib.AppendZerosOnto
import Derived.Test.YtjkchonpnocffaaDoorMj5
/-
  Contract: Hex (program).
-/
namespace Go.Proofs.YtjkchonpnocffaaDoor
open Go.AX Go.RowKit Go.Pack
set_option maxRecDepth 20000

def hexS16 : ByteArray := ⟨#[48, 49, 50, 51, 52, 53, 54, 55, 56, 57, 97, 98, 99, 100, 101, 102]⟩
theorem hexAtF : ∀ k : Fin 16, byteAt hexS16 k.val = ((hexC k.val).toNat : Int) := by decide +kernel
theorem hexAt (k : Nat) (h : k < 16) : byteAt hexS16 k = ((hexC k).toNat : Int) := hexAtF ⟨k, h⟩
theorem hex_app : ∀ (a b : List UInt8), hex (a ++ b) = hex a ++ hex b
  | [], _ => rfl
  | c :: a, b => by
    show hexC _ :: hexC _ :: hex (a ++ b) = _
    rw [hex_app a b]
    rfl
theorem hex_len : ∀ l : List UInt8, (hex l).length = 2 * l.length
  | [] => rfl
  | c :: l => by
    show (hex l).length + 1 + 1 = 2 * (l.length + 1)
    rw [hex_len l]
    omega
theorem Hex_c (s : List UInt8) (hs : s.length ≤ 1000000) : ∀ H, SpecH Tryd.prog 12 (pvs [.string (bs s)]) H (Ret (.string (bs (hex s))) H) := by
  refine pureC hm Tryd.func12 (by kernel_rfl) rfl rfl ?_
  (first | refine wX ?_ | exact wZ)
  refine EffW.bytesOf (e := 5) s rfl Tryd.underlying9 (by kernel_rfl) (by kernel_rfl) rfl (by omega) fun lb lc h5 h6 => ?_
  (first | refine wX ?_ | exact wZ)
  refine LoopN.intro (Nat × Bool × BSt) (fun ⟨j, u, i⟩ => j ≤ s.length ∧ i.ok (hex (s.take j)).length)
    (fun ⟨j, _, _⟩ => mkS Tryd.f12.ntmps 0 [(3, .c (.lp 0 0)), (7, .c (.v (.slice (some ⟨lb, 0, none⟩) s.length lc))), (8, .c (.v (.int .i64 (s.length : Int)))), (9, .c (.v (.int .i64 (j : Int))))])
    (fun ⟨j, u, i⟩ => [.blk 76 [bC u, .v (.slice (at0 i.ob) (hex (s.take j)).length i.cap)], own s lb lc, .app 5 1 (u8s (hex (s.take j))) (at0 i.ob) (hex (s.take j)).length i.cap]) (fun ⟨j, _, _⟩ => s.length - j) [.app 0 0 [] none 0 0] rfl
    (fun _ => rfl) (fun _ => rfl) (fun ⟨_, u, _⟩ _ => by cases u <;> exact okHB_eq rfl) ⟨(0, false, ⟨none, 0⟩), ⟨Nat.zero_le _, fun _ => ⟨rfl, rfl⟩, Nat.le_refl _, fun _ => rfl⟩, ?_, ?_⟩ ?_
  · (repeat' (first | exact trivial | refine And.intro (by with_reducible rfl) ?_ | (with_reducible exact wkC_refl _) | (with_reducible exact wkCs_refl _) | refine And.intro ?_ ?_))
    all_goals rfl
  · exact ⟨by (repeat' (first | exact trivial | exact wkE_refl _ | refine And.intro ?_ ?_)), wkE_refl _, wkE_nil, wkH_nil _⟩
  rintro ⟨j, u, i⟩ ⟨hj, hok⟩
  cases u with
  | true =>
    -- true: is the builder used
    (first | refine wX ?_ | exact wZ)
    refine brd_dec (fun h1 => ?_) (fun h1 => ?_)
    · obtain ⟨c, hc⟩ : ∃ c, s[j]? = some c := ⟨_, List.getElem?_eq_getElem (by omega)⟩
      have hsn : s.take (j + 1) = s.take j ++ [c] := Pack.take_snoc hc
      have hcl := UInt8.toNat_lt c
      (first | refine wX ?_ | exact wZ)
      refine Nd.mk ⟨rfl, by omega, by omega⟩ ?_
      (first | refine wX ?_ | exact wZ)
      refine LdN.one (.int .u8 (c.toNat : Int)) rfl (fun w hw => hw.1) (by
        show (u8s s)[(j : Int).toNat * 1]? = _
        rw [Nat.mul_one, Int.toNat_natCast]
        exact u8s_at hc) ?_
      have hq : IntKind.u8.wrap ((c.toNat : Int).tdiv 16) = ((c.toNat / 16 : Nat) : Int) := by
        rw [show (c.toNat : Int).tdiv 16 = ((c.toNat / 16 : Nat) : Int) from (Int.ofNat_tdiv c.toNat 16).symm, wrap_u8 (by omega)]
      have hm : IntKind.u8.wrap ((c.toNat : Int).tmod 16) = ((c.toNat % 16 : Nat) : Int) := by
        rw [show (c.toNat : Int).tmod 16 = ((c.toNat % 16 : Nat) : Int) from (Int.ofNat_tmod c.toNat 16).symm, wrap_u8 (by omega)]
      have hm' : (c.toNat : Int).tmod 16 = ((c.toNat % 16 : Nat) : Int) := (Int.ofNat_tmod c.toNat 16).symm
      have hx1 : byteAt { data := #[48, 49, 50, 51, 52, 53, 54, 55, 56, 57, 97, 98, 99, 100, 101, 102] } (Int.toNat ((c.toNat / 16 : Nat) : Int)) = ((hexC (c.toNat / 16)).toNat : Int) := by
        rw [Int.toNat_natCast]
        exact hexAt _ (by omega)
      have hx2 : byteAt { data := #[48, 49, 50, 51, 52, 53, 54, 55, 56, 57, 97, 98, 99, 100, 101, 102] } (Int.toNat ((c.toNat % 16 : Nat) : Int)) = ((hexC (c.toNat % 16)).toNat : Int) := by
        rw [Int.toNat_natCast]
        exact hexAt _ (by omega)
      have hhl : (hex (s.take j)).length ≤ 2000000 := by rw [hex_len, List.length_take]; omega
      (first | refine wX ?_ | exact wZ)
      rw [hq]
      refine Nd.mk ⟨by omega, by show _ < (16 : Int); omega⟩ ?_
      (first | refine wX ?_ | exact wZ)
      rw [hx1]
      refine callG (WriteByte_c true (hex (s.take j)) (hexC (c.toNat / 16)) i (by omega)) [0, 2] rfl ⟨rfl, rfl, trivial⟩ rfl fun i1 hi1 => ?_
      (first | refine wX ?_ | exact wZ)
      first | rw [hm] | rw [hm']
      refine Nd.mk ⟨by omega, by show _ < (16 : Int); omega⟩ ?_
      (first | refine wX ?_ | exact wZ)
      rw [hx2]
      refine callG (WriteByte_c true (hex (s.take j) ++ [hexC (c.toNat / 16)]) (hexC (c.toNat % 16)) i1 (by rw [List.length_append]; show _ + 1 + 1 ≤ _; omega)) [0, 2] rfl ⟨rfl, rfl, trivial⟩ rfl fun i2 hi2 => ?_
      have hnx : hex (s.take j) ++ [hexC (c.toNat / 16)] ++ [hexC (c.toNat % 16)] = hex (s.take (j + 1)) := by rw [hsn, hex_app, List.append_assoc]; rfl
      rw [hnx] at hi2 ⊢
      (first | refine wX ?_ | exact wZ)
      refine ⟨(j + 1, true, i2), ⟨by omega, hi2⟩, by show s.length - (j + 1) < s.length - j; omega, ?_, ?_⟩
      · (repeat' (first | exact trivial | refine And.intro (by with_reducible rfl) ?_ | (with_reducible exact wkC_refl _) | (with_reducible exact wkCs_refl _) | refine And.intro ?_ ?_))
        all_goals first | rfl | exact av_int (by rw [wrap_i64 (by omega)]; omega)
      · exact ⟨wkE_refl _, wkE_refl _, wkE_refl _, wkH_nil _⟩
    · have hjl : j = s.length := by omega
      (first | refine wX ?_ | exact wZ)
      refine callG (BString_c true (hex (s.take j)) i hok) [0, 2] rfl ⟨rfl, rfl, trivial⟩ rfl fun _ _ => ?_
      (first | refine wX ?_ | exact wZ)
      rw [hjl, List.take_length]
  | false =>
    -- false: is the builder used
    (first | refine wX ?_ | exact wZ)
    refine brd_dec (fun h1 => ?_) (fun h1 => ?_)
    · obtain ⟨c, hc⟩ : ∃ c, s[j]? = some c := ⟨_, List.getElem?_eq_getElem (by omega)⟩
      have hsn : s.take (j + 1) = s.take j ++ [c] := Pack.take_snoc hc
      have hcl := UInt8.toNat_lt c
      (first | refine wX ?_ | exact wZ)
      refine Nd.mk ⟨rfl, by omega, by omega⟩ ?_
      (first | refine wX ?_ | exact wZ)
      refine LdN.one (.int .u8 (c.toNat : Int)) rfl (fun w hw => hw.1) (by
        show (u8s s)[(j : Int).toNat * 1]? = _
        rw [Nat.mul_one, Int.toNat_natCast]
        exact u8s_at hc) ?_
      have hq : IntKind.u8.wrap ((c.toNat : Int).tdiv 16) = ((c.toNat / 16 : Nat) : Int) := by
        rw [show (c.toNat : Int).tdiv 16 = ((c.toNat / 16 : Nat) : Int) from (Int.ofNat_tdiv c.toNat 16).symm, wrap_u8 (by omega)]
      have hm : IntKind.u8.wrap ((c.toNat : Int).tmod 16) = ((c.toNat % 16 : Nat) : Int) := by
        rw [show (c.toNat : Int).tmod 16 = ((c.toNat % 16 : Nat) : Int) from (Int.ofNat_tmod c.toNat 16).symm, wrap_u8 (by omega)]
      have hm' : (c.toNat : Int).tmod 16 = ((c.toNat % 16 : Nat) : Int) := (Int.ofNat_tmod c.toNat 16).symm
      have hx1 : byteAt { data := #[48, 49, 50, 51, 52, 53, 54, 55, 56, 57, 97, 98, 99, 100, 101, 102] } (Int.toNat ((c.toNat / 16 : Nat) : Int)) = ((hexC (c.toNat / 16)).toNat : Int) := by
        rw [Int.toNat_natCast]
        exact hexAt _ (by omega)
      have hx2 : byteAt { data := #[48, 49, 50, 51, 52, 53, 54, 55, 56, 57, 97, 98, 99, 100, 101, 102] } (Int.toNat ((c.toNat % 16 : Nat) : Int)) = ((hexC (c.toNat % 16)).toNat : Int) := by
        rw [Int.toNat_natCast]
        exact hexAt _ (by omega)
      have hhl : (hex (s.take j)).length ≤ 2000000 := by rw [hex_len, List.length_take]; omega
      (first | refine wX ?_ | exact wZ)
      rw [hq]
      refine Nd.mk ⟨by omega, by show _ < (16 : Int); omega⟩ ?_
      (first | refine wX ?_ | exact wZ)
      rw [hx1]
      refine callG (WriteByte_c false (hex (s.take j)) (hexC (c.toNat / 16)) i (by omega)) [0, 2] rfl ⟨rfl, rfl, trivial⟩ rfl fun i1 hi1 => ?_
      (first | refine wX ?_ | exact wZ)
      first | rw [hm] | rw [hm']
      refine Nd.mk ⟨by omega, by show _ < (16 : Int); omega⟩ ?_
      (first | refine wX ?_ | exact wZ)
      rw [hx2]
      refine callG (WriteByte_c true (hex (s.take j) ++ [hexC (c.toNat / 16)]) (hexC (c.toNat % 16)) i1 (by rw [List.length_append]; show _ + 1 + 1 ≤ _; omega)) [0, 2] rfl ⟨rfl, rfl, trivial⟩ rfl fun i2 hi2 => ?_
      have hnx : hex (s.take j) ++ [hexC (c.toNat / 16)] ++ [hexC (c.toNat % 16)] = hex (s.take (j + 1)) := by rw [hsn, hex_app, List.append_assoc]; rfl
      rw [hnx] at hi2 ⊢
      (first | refine wX ?_ | exact wZ)
      refine ⟨(j + 1, true, i2), ⟨by omega, hi2⟩, by show s.length - (j + 1) < s.length - j; omega, ?_, ?_⟩
      · (repeat' (first | exact trivial | refine And.intro (by with_reducible rfl) ?_ | (with_reducible exact wkC_refl _) | (with_reducible exact wkCs_refl _) | refine And.intro ?_ ?_))
        all_goals first | rfl | exact av_int (by rw [wrap_i64 (by omega)]; omega)
      · exact ⟨wkE_refl _, wkE_refl _, wkE_refl _, wkH_nil _⟩
    · have hjl : j = s.length := by omega
      (first | refine wX ?_ | exact wZ)
      refine callG (BString_c false (hex (s.take j)) i hok) [0, 2] rfl ⟨rfl, rfl, trivial⟩ rfl fun _ _ => ?_
      (first | refine wX ?_ | exact wZ)
      rw [hjl, List.take_length]
end Go.Proofs.YtjkchonpnocffaaDoor

/-
  Contracts: a text is read (program).
-/
namespace Go.Proofs.YtjkchonpnocffaaDoor
open Go.AX Go.RowKit Go.Pack
set_option maxRecDepth 20000

/-! ### Blanks and zeros are trimmed -/
def zB (c : UInt8) : Bool := c == 32 || c == 0
def zTab : List Value := (List.range 256).map fun i => .bool (i == 32 || i == 0)
theorem zTab_ok : TabB zTab zB := fun c => by
  have hc := c.toNat_lt
  unfold zTab zB
  rw [List.getElem?_map, List.getElem?_range (by omega)]
  simp only [Option.map_some, Option.some.injEq, Value.bool.injEq]
  have h1 : (c.toNat == 32) = (c == 32) := by
    rw [Bool.eq_iff_iff, beq_iff_eq, beq_iff_eq]
    exact ⟨fun h => UInt8.toNat_inj.1 h, fun h => by rw [h]; rfl⟩
  have h2 : (c.toNat == 0) = (c == 0) := by
    rw [Bool.eq_iff_iff, beq_iff_eq, beq_iff_eq]
    exact ⟨fun h => UInt8.toNat_inj.1 h, fun h => by rw [h]; rfl⟩
  rw [h1, h2]
theorem setCells_z : (Lib.setCells [32, 0]).toList = zTab := by kernel_rfl
theorem setCells_z' : Lib.setCells [32, 0] = zTab.toArray := by apply Array.ext'; rw [setCells_z]
theorem makeZ_c : ∀ H, SpecH Tryd.prog 74 (pvs [.string (bs [32, 0])]) H (Ret (.tuple #[.agg zTab.toArray, .bool true]) H) := fun H =>
  SpecH.rawP (R := fun r => r = .tuple #[.agg zTab.toArray, .bool true]) (callOk Tryd.func74 (by kernel_rfl) rfl)
    (fun w _ => (Tryd.strings_makeASCIISet (fun w => by obtain ⟨i, hi, hz⟩ := Option.map_eq_some_iff.1 zero_set; exact run_zeroValue hi hz w) (bs [32, 0]) w (by decide) (by
      intro j b hj
      rw [bs_list] at hj
      match j, hj with
      | 0, hj => cases hj; decide
      | 1, hj => cases hj; decide)).mono fun e w' ⟨he, hw⟩ => ⟨_, he, by rw [bs_list, setCells_z'], by subst hw; exact (Below.refl _ w).alloc (Nat.le_refl _) _⟩) fun r hr => by subst hr; exact ⟨rfl, rfl⟩
theorem TrimZ_c (s : List UInt8) (hs : s.length ≤ 1000000000) : ∀ H, SpecH Tryd.prog 55 (pvs [.string (bs s), .string (bs [32, 0])]) H (Ret (.string (bs (trimA s))) H) := by
  refine pureC hm Tryd.func55 (by kernel_rfl) rfl rfl ?_
  (first | refine wX ?_ | exact wZ)
  rw [bs_list]
  refine brd_intro (fun h => ?_) (fun h => ?_)
  · have : s = [] := by simpa using h
    subst this
    (first | refine wX ?_ | exact wZ)
    rfl
  · (first | refine wX ?_ | exact wZ)
    refine call1 (makeZ_c _) ?_
    (first | refine wX ?_ | exact wZ)
    refine callG (trimRightASCII_c _ zTab zB zTab_ok s hs) [0] rfl ⟨rfl, trivial⟩ rfl fun _ _ => ?_
    (first | refine wX ?_ | exact wZ)
    rfl
/-! ### The first zero -/
theorem index0 (l : List UInt8) : Lib.indexByte l 0 = if l.contains 0 then ((l.takeWhile (· != 0)).length : Int) else -1 := by
  induction l with
  | nil => rfl
  | cons a r ih =>
    unfold Lib.indexByte
    by_cases h : a = 0
    · subst h
      simp
    · rw [if_neg (by simpa using h), ih, List.takeWhile_cons_of_pos (by simpa using h)]
      have hc : (a :: r).contains 0 = r.contains 0 := by
        rw [List.contains_cons]
        rw [show ((0 : UInt8) == a) = false from beq_eq_false_iff_ne.2 (Ne.symm h), Bool.false_or]
      rw [hc]
      cases r.contains 0 with
      | false => simp
      | true =>
        simp only [if_true]
        rw [if_neg (by simp)]
        simp
theorem take0 (l : List UInt8) : l.take (l.takeWhile (· != 0)).length = l.takeWhile (· != 0) := by
  induction l with
  | nil => rfl
  | cons a r ih =>
    by_cases h : a = 0
    · subst h; rfl
    · rw [List.takeWhile_cons_of_pos (by simpa using h), List.length_cons, List.take_succ_cons, ih]
theorem index1 (l : List UInt8) : Lib.index l [0] = Lib.indexByte l 0 := by
  induction l with
  | nil => rfl
  | cons a r ih =>
    unfold Lib.index Lib.indexByte
    rw [ih]
    by_cases h : a = 0
    · subst h; rfl
    · rw [if_neg (show ¬ [0].isPrefixOf (a :: r) = true by simp [List.isPrefixOf]; exact fun h2 => h h2.symm), if_neg (show ¬ (a == 0) = true by simpa using h)]
theorem takeW0 {l : List UInt8} (h : (0 : UInt8) ∉ l) : l.takeWhile (· != 0) = l := by
  induction l with
  | nil => rfl
  | cons b l ih =>
    simp at h
    simp [show ¬ b = 0 from fun e => h.1 e.symm, ih h.2]
theorem cut0 (l : List UInt8) : (Lib.cut l [0]).1 = l.takeWhile (· != 0) := by
  unfold Lib.cut
  rw [index1, index0]
  by_cases h : l.contains 0 = true
  · rw [if_pos h, if_pos (by omega), Int.toNat_natCast]
    exact take0 l
  · rw [if_neg h, if_neg (by decide)]
    have h0 : (0 : UInt8) ∉ l := fun h2 => h (by simpa using h2)
    exact (takeW0 h0).symm
end Go.Proofs.YtjkchonpnocffaaDoor

/-
  Contracts: hex digits and texts are read (program).
-/
namespace Go.Proofs.YtjkchonpnocffaaDoor
open Go.AX Go.RowKit Go.Pack
set_option maxRecDepth 20000

theorem hexu_c (ub : Nat) (s : List UInt8) (a : Nat) (out : Option Nat) (len cap : Nat) (n : Int) (m : Nat) (hn : n = -1 ∧ m = 2 * (s.length - a) ∨ n = (m : Int) ∧ m ≤ 1000) (ha : a ≤ s.length) (hs : s.length ≤ 1000000) :
    SpecH Tryd.prog 53 [.c (.v (.pointer (some ⟨ub, 0, none⟩))), .c (.v (.int .i64 n))] [unE ub s a out len cap]
      (RetG (ι := Unit) (fun _ => True) (fun _ => .string (bs ((hex ((s.drop a).take ((m + 1) / 2))).take m))) fun _ => [unE ub s (a + ((s.drop a).take ((m + 1) / 2)).length) out len cap]) := by
  refine ownC hm Tryd.func53 (by kernel_rfl) rfl rfl (fun _ _ => okHB_eq rfl) (fun _ _ => Nat.le_refl _) ?_
  obtain ⟨b, hb⟩ : ∃ b, (s.drop a).take ((m + 1) / 2) = b := ⟨_, rfl⟩
  have hbl : b.length = min ((m + 1) / 2) (s.length - a) := by rw [← hb, List.length_take, List.length_drop]
  have hbt : (s.drop a).take b.length = b := by rw [hbl, ← hb, ← List.length_drop, ← List.take_eq_take_min]
  rw [hb]
  (first | refine wX ?_ | exact wZ)
  refine brd_eq (fun h1 => ?_) (fun h1 => ?_)
  · have hm2 : m = 2 * (s.length - a) := by omega
    (first | refine wX ?_ | exact wZ)
    refine call1 (left_c ub s a out len cap ha hs _ (fun w hw => hw.1)) ?_
    have hnm : (2 : Int) * ((s.length - a : Nat) : Int) = (m : Int) := by omega
    -- (2 * ((s.length - a : Nat) : Int)): the digits as the number is spelled
    (first | refine wX ?_ | exact wZ)
    refine call1 (left_c ub s a out len cap ha hs _ (fun w hw => hw.1)) ?_
    (first | refine wX ?_ | exact wZ)
    have hmin : minI (IntKind.i64.wrap (Int.tdiv (IntKind.i64.wrap ((2 * ((s.length - a : Nat) : Int)) + 1)) 2)) ((s.length - a : Nat) : Int) = ((b.length : Nat) : Int) := by
      rw [wrap_i64 (x := (2 * ((s.length - a : Nat) : Int)) + 1) (by omega), show Int.tdiv ((2 * ((s.length - a : Nat) : Int)) + 1) 2 = (((m + 1) / 2 : Nat) : Int) by rw [hnm]; exact (Int.ofNat_tdiv (m + 1) 2).symm, wrap_i64 (by omega), hbl]
      unfold minI
      split <;> omega
    rw [hmin]
    refine callG (cut_c ub s a b.length out len cap (by omega) hs) [0] rfl ⟨rfl, trivial⟩ rfl fun _ _ => ?_
    rw [hbt]
    (first | refine wX ?_ | exact wZ)
    refine call1 (Hex_c b (by omega) _) ?_
    (first | refine wX ?_ | exact wZ)
    refine ReadW.sl_h (min m (hex b).length) rfl Tryd.underlying9 rfl rfl ⟨by rw [bs_size]; unfold minI; split <;> omega, Nat.min_le_right _ _⟩ ?_
    rw [← List.take_eq_take_min]
    (first | refine wX ?_ | exact wZ)
    exact ⟨(), trivial, rfl, wkE_refl _, wkH_nil _⟩
  · have hnm : n = (m : Int) := by omega
    -- n: the digits as the number is spelled
    (first | refine wX ?_ | exact wZ)
    refine call1 (left_c ub s a out len cap ha hs _ (fun w hw => hw.1)) ?_
    (first | refine wX ?_ | exact wZ)
    have hmin : minI (IntKind.i64.wrap (Int.tdiv (IntKind.i64.wrap (n + 1)) 2)) ((s.length - a : Nat) : Int) = ((b.length : Nat) : Int) := by
      rw [wrap_i64 (x := n + 1) (by omega), show Int.tdiv (n + 1) 2 = (((m + 1) / 2 : Nat) : Int) by rw [hnm]; exact (Int.ofNat_tdiv (m + 1) 2).symm, wrap_i64 (by omega), hbl]
      unfold minI
      split <;> omega
    rw [hmin]
    refine callG (cut_c ub s a b.length out len cap (by omega) hs) [0] rfl ⟨rfl, trivial⟩ rfl fun _ _ => ?_
    rw [hbt]
    (first | refine wX ?_ | exact wZ)
    refine call1 (Hex_c b (by omega) _) ?_
    (first | refine wX ?_ | exact wZ)
    refine ReadW.sl_h (min m (hex b).length) rfl Tryd.underlying9 rfl rfl ⟨by rw [bs_size]; unfold minI; split <;> omega, Nat.min_le_right _ _⟩ ?_
    rw [← List.take_eq_take_min]
    (first | refine wX ?_ | exact wZ)
    exact ⟨(), trivial, rfl, wkE_refl _, wkH_nil _⟩
theorem tw_lt {l : List UInt8} (h : l.contains 0 = true) : (l.takeWhile (· != 0)).length + 1 ≤ l.length := by
  induction l with
  | nil => cases h
  | cons a r ih =>
    by_cases ha : a = 0
    · subst ha; simp
    · rw [List.takeWhile_cons_of_pos (by simpa using ha)]
      have hc : r.contains 0 = true := by
        rw [List.contains_cons, show ((0 : UInt8) == a) = false from beq_eq_false_iff_ne.2 (Ne.symm ha), Bool.false_or] at h
        exact h
      have := ih hc
      simp only [List.length_cons]
      omega
theorem textu_c (d : Dir) (ub : Nat) (s : List UInt8) (a : Nat) (out : Option Nat) (len cap : Nat) (hc : CntOk d.letter d.count) (ha : a ≤ s.length) (hs : s.length ≤ 1000000) :
    SpecH Tryd.prog 26 [.c (.v (.pointer (some ⟨ub, 0, none⟩))), .c (.v (dirV d))] [.fact UtfF, unE ub s a out len cap]
      (RetG (ι := Unit) (fun _ => True) (fun _ => .string (bs (cutS d (s.drop a)).1)) fun _ => [.fact UtfF, unE ub s (a + (cutS d (s.drop a)).2) out len cap]) := by
  refine ownC hm Tryd.func26 (by kernel_rfl) rfl rfl (fun _ _ => okHB_eq rfl) (fun _ _ => Nat.le_refl _) ?_
  have h72 : ((d.letter.toNat : Int) == 72) = (d.letter == 72) := u8_eq (n := 72) (by decide)
  have h90 : ((d.letter.toNat : Int) == 90) = (d.letter == 90) := u8_eq (n := 90) (by decide)
  have h65 : ((d.letter.toNat : Int) == 65) = (d.letter == 65) := u8_eq (n := 65) (by decide)
  have hzs := bs_size s
  (first | refine wX ?_ | exact wZ)
  refine brd_eq (fun hk => ?_) (fun hk => ?_)
  · have hc2 : ∀ n, cntS d n = 1 := fun n => by unfold cntS; rw [if_pos hk]
    (first | refine wX ?_ | exact wZ)
    rw [h72]
    cases e72 : d.letter == 72 with
    | true =>
      -- 1: the digits; 1: as the number is spelled; (.inr ⟨rfl, by decide⟩): that it is so
      (first | refine wX ?_ | exact wZ)
      refine callG (hexu_c ub s a out len cap (1) (1) (.inr ⟨rfl, by decide⟩) ha hs) [1] rfl ⟨rfl, trivial⟩ rfl fun _ _ => ?_
      have hcut : cutS d (s.drop a) = ((hex ((s.drop a).take ((1 + 1) / 2))).take (1), ((s.drop a).take ((1 + 1) / 2)).length) := by
        unfold cutS
        rw [if_pos e72, List.length_drop, hc2]
      (first | refine wX ?_ | exact wZ)
      exact ⟨(), trivial, by rw [hcut], by rw [hcut]; exact ⟨wkE_refl _, wkE_refl _, wkH_nil _⟩⟩
    | false =>
      have hcn := hc2 (s.drop a).length
      (first | refine wX ?_ | exact wZ)
      -- 1: the count; 1: as it is spelled; (fun h => absurd h.1 (by omega)): of cutS
      obtain ⟨b, hb⟩ : ∃ b, (s.drop a).take (1) = b := ⟨_, rfl⟩
      have hbl : b.length = min (1) (s.length - a) := by rw [← hb, List.length_take, List.length_drop]
      have hbt : (s.drop a).take b.length = b := by rw [hbl, ← hb, ← List.length_drop, ← List.take_eq_take_min]
      have hcut : cutS d (s.drop a) = (if d.letter == 65 then trimA b else if d.letter == 90 then b.takeWhile (· != 0) else b, b.length) := by
        unfold cutS
        rw [if_neg (by rw [e72]; decide), if_neg (fun h => absurd h.1 (by omega)), hcn, hb]
      -- the bytes b are cut (1: as the count is spelled), trimmed
      (first | refine wX ?_ | exact wZ)
      refine call1 (left_c ub s a out len cap ha hs _ (fun w hw => hw.2.1)) ?_
      (first | refine wX ?_ | exact wZ)
      have hmin : minI (1) ((s.length - a : Nat) : Int) = ((b.length : Nat) : Int) := by
        rw [hbl]
        unfold minI
        split <;> omega
      rw [hmin]
      refine callG (cut_c ub s a b.length out len cap (by omega) hs) [1] rfl ⟨rfl, trivial⟩ rfl fun _ _ => ?_
      rw [hbt]
      (first | refine wX ?_ | exact wZ)
      rw [h65]
      cases e65 : d.letter == 65 with
      | true =>
        rw [e65, if_pos rfl] at hcut
        (first | refine wX ?_ | exact wZ)
        refine call1 (TrimZ_c b (by omega) _) ?_
        (first | refine wX ?_ | exact wZ)
        exact ⟨(), trivial, by rw [hcut], by rw [hcut]; exact ⟨wkE_refl _, wkE_refl _, wkH_nil _⟩⟩
      | false =>
        rw [e65, if_neg (by decide)] at hcut
        (first | refine wX ?_ | exact wZ)
        rw [h90]
        cases e90 : d.letter == 90 with
        | true =>
          rw [e90, if_pos rfl] at hcut
          (first | refine wX ?_ | exact wZ)
          refine call1 (Cut_c b [0] (by omega) _ (fun w hw => hw.1.1)) ?_
          rw [cut0]
          (first | refine wX ?_ | exact wZ)
          exact ⟨(), trivial, by rw [hcut], by rw [hcut]; exact ⟨wkE_refl _, wkE_refl _, wkH_nil _⟩⟩
        | false =>
          rw [e90, if_neg (by decide)] at hcut
          (first | refine wX ?_ | exact wZ)
          exact ⟨(), trivial, by rw [hcut], by rw [hcut]; exact ⟨wkE_refl _, wkE_refl _, wkH_nil _⟩⟩
  · by_cases hk1 : d.count = -1
    · have hc2 : ∀ n, cntS d n = n := fun n => by unfold cntS; rw [if_neg hk, if_pos hk1]
      (first | refine wX ?_ | exact wZ)
      rw [h72]
      cases e72 : d.letter == 72 with
      | true =>
        -- (2 * (s.length - a)): the digits; d.count: as the number is spelled; (.inl ⟨hk1, rfl⟩): that it is so
        (first | refine wX ?_ | exact wZ)
        refine callG (hexu_c ub s a out len cap (d.count) ((2 * (s.length - a))) (.inl ⟨hk1, rfl⟩) ha hs) [1] rfl ⟨rfl, trivial⟩ rfl fun _ _ => ?_
        have hcut : cutS d (s.drop a) = ((hex ((s.drop a).take (((2 * (s.length - a)) + 1) / 2))).take ((2 * (s.length - a))), ((s.drop a).take (((2 * (s.length - a)) + 1) / 2)).length) := by
          unfold cutS
          rw [if_pos e72, List.length_drop, hc2]
        (first | refine wX ?_ | exact wZ)
        exact ⟨(), trivial, by rw [hcut], by rw [hcut]; exact ⟨wkE_refl _, wkE_refl _, wkH_nil _⟩⟩
      | false =>
        have hcn := hc2 (s.drop a).length
        rw [List.length_drop] at hcn
        have hdl := List.length_drop (l := s) (i := a)
        (first | refine wX ?_ | exact wZ)
        refine brd_eq (fun _ => ?_) (fun h => absurd hk1 h)
        (first | refine wX ?_ | exact wZ)
        refine call1 (left_c ub s a out len cap ha hs _ (fun w hw => hw.2.1)) ?_
        (first | refine wX ?_ | exact wZ)
        refine LdN.one (a := some ⟨ub, 0, none⟩) (q := 0) (.string (bs s)) rfl (fun w hw => hw.2.1) rfl ?_
        (first | refine wX ?_ | exact wZ)
        refine LdN.one (a := some ⟨ub, 0, none⟩) (q := 1) (.int .i64 (a : Int)) rfl (fun w hw => hw.2.1) rfl ?_
        (first | refine wX ?_ | exact wZ)
        refine ReadW.sl_l a rfl Tryd.underlying9 rfl rfl ⟨rfl, ha⟩ ?_
        (first | refine wX ?_ | exact wZ)
        refine callQ (IndexByte_c (s.drop a) 0 _) ?_
        rw [index0]
        by_cases hz : (s.drop a).contains 0 = true
        · rw [if_pos hz]
          obtain ⟨t, ht⟩ : ∃ t, (s.drop a).takeWhile (· != 0) = t := ⟨_, rfl⟩
          have htl : t.length + 1 ≤ s.length - a := by
            rw [← ht, ← hdl]
            exact tw_lt hz
          rw [ht]
          (first | refine wX ?_ | exact wZ)
          rw [h90]
          cases e90 : d.letter == 90 with
          | true =>
            have hcut : cutS d (s.drop a) = (t, t.length + 1) := by
              unfold cutS
              rw [if_neg (by rw [e72]; decide), if_pos ⟨hk1, e90, hz⟩, ht]
            have htk : ((s.drop a).take (t.length + 1)).take t.length = t := by rw [List.take_take, Nat.min_eq_left (by omega), ← ht]; exact take0 _
            have htk2 : ((s.drop a).take (t.length + 1)).length = t.length + 1 := by rw [List.length_take]; omega
            (first | refine wX ?_ | exact wZ)
            rw [show IntKind.i64.wrap ((t.length : Int) + 1) = ((t.length + 1 : Nat) : Int) by rw [wrap_i64 (by omega)]; omega]
            refine callG (cut_c ub s a (t.length + 1) out len cap (by omega) hs) [1] rfl ⟨rfl, trivial⟩ rfl fun _ _ => ?_
            (first | refine wX ?_ | exact wZ)
            refine ReadW.sl_h t.length rfl Tryd.underlying9 rfl rfl ⟨rfl, by omega⟩ ?_
            rw [htk]
            (first | refine wX ?_ | exact wZ)
            exact ⟨(), trivial, by rw [hcut], by rw [hcut]; exact ⟨wkE_refl _, wkE_refl _, wkH_nil _⟩⟩
          | false =>
            have hn3 : ¬ (d.count = -1 ∧ (d.letter == 90) = true ∧ (s.drop a).contains 0 = true) := fun h => by rw [e90] at h; exact absurd h.2.1 (by decide)
            (first | refine wX ?_ | exact wZ)
            obtain ⟨b, hb⟩ : ∃ b, (s.drop a).take (s.length - a) = b := ⟨_, rfl⟩
            have hbl : b.length = min (s.length - a) (s.length - a) := by rw [← hb, List.length_take, List.length_drop]
            have hbt : (s.drop a).take b.length = b := by rw [hbl, ← hb, ← List.length_drop, ← List.take_eq_take_min]
            have hcut : cutS d (s.drop a) = (if d.letter == 65 then trimA b else if d.letter == 90 then b.takeWhile (· != 0) else b, b.length) := by
              unfold cutS
              rw [if_neg (by rw [e72]; decide), if_neg hn3, hdl, hcn, hb]
            rw [e90, if_neg (show ¬ false = true by decide)] at hcut
            -- as tail, but Z is known
            (first | refine wX ?_ | exact wZ)
            refine call1 (left_c ub s a out len cap ha hs _ (fun w hw => hw.2.1)) ?_
            (first | refine wX ?_ | exact wZ)
            have hmin : minI ((s.length - a : Nat) : Int) ((s.length - a : Nat) : Int) = ((b.length : Nat) : Int) := by
              rw [hbl]
              unfold minI
              split <;> omega
            rw [hmin]
            refine callG (cut_c ub s a b.length out len cap (by omega) hs) [1] rfl ⟨rfl, trivial⟩ rfl fun _ _ => ?_
            rw [hbt]
            (first | refine wX ?_ | exact wZ)
            rw [h65]
            cases e65 : d.letter == 65 with
            | true =>
              rw [e65, if_pos rfl] at hcut
              (first | refine wX ?_ | exact wZ)
              refine call1 (TrimZ_c b (by omega) _) ?_
              (first | refine wX ?_ | exact wZ)
              exact ⟨(), trivial, by rw [hcut], by rw [hcut]; exact ⟨wkE_refl _, wkE_refl _, wkH_nil _⟩⟩
            | false =>
              rw [e65, if_neg (by decide)] at hcut
              (first | refine wX ?_ | exact wZ)
              rw [h90, e90]
              (first | refine wX ?_ | exact wZ); exact ⟨(), trivial, by rw [hcut], by rw [hcut]; exact ⟨wkE_refl _, wkE_refl _, wkH_nil _⟩⟩
        · rw [if_neg hz]
          have hn3 : ¬ (d.count = -1 ∧ (d.letter == 90) = true ∧ (s.drop a).contains 0 = true) := fun h => hz h.2.2
          (first | refine wX ?_ | exact wZ)
          rw [h90]
          cases e90 : d.letter == 90 with
          | true =>
            (first | refine wX ?_ | exact wZ)
            obtain ⟨b, hb⟩ : ∃ b, (s.drop a).take (s.length - a) = b := ⟨_, rfl⟩
            have hbl : b.length = min (s.length - a) (s.length - a) := by rw [← hb, List.length_take, List.length_drop]
            have hbt : (s.drop a).take b.length = b := by rw [hbl, ← hb, ← List.length_drop, ← List.take_eq_take_min]
            have hcut : cutS d (s.drop a) = (if d.letter == 65 then trimA b else if d.letter == 90 then b.takeWhile (· != 0) else b, b.length) := by
              unfold cutS
              rw [if_neg (by rw [e72]; decide), if_neg hn3, hdl, hcn, hb]
            rw [e90, if_pos (show true = true from rfl)] at hcut
            -- as tail, but Z is known
            (first | refine wX ?_ | exact wZ)
            refine call1 (left_c ub s a out len cap ha hs _ (fun w hw => hw.2.1)) ?_
            (first | refine wX ?_ | exact wZ)
            have hmin : minI ((s.length - a : Nat) : Int) ((s.length - a : Nat) : Int) = ((b.length : Nat) : Int) := by
              rw [hbl]
              unfold minI
              split <;> omega
            rw [hmin]
            refine callG (cut_c ub s a b.length out len cap (by omega) hs) [1] rfl ⟨rfl, trivial⟩ rfl fun _ _ => ?_
            rw [hbt]
            (first | refine wX ?_ | exact wZ)
            rw [h65]
            cases e65 : d.letter == 65 with
            | true =>
              rw [e65, if_pos rfl] at hcut
              (first | refine wX ?_ | exact wZ)
              refine call1 (TrimZ_c b (by omega) _) ?_
              (first | refine wX ?_ | exact wZ)
              exact ⟨(), trivial, by rw [hcut], by rw [hcut]; exact ⟨wkE_refl _, wkE_refl _, wkH_nil _⟩⟩
            | false =>
              rw [e65, if_neg (by decide)] at hcut
              (first | refine wX ?_ | exact wZ)
              rw [h90, e90]
              (first | refine wX ?_ | exact wZ); refine call1 (Cut_c b [0] (by omega) _ (fun w hw => hw.1.1)) ?_; rw [cut0]; (first | refine wX ?_ | exact wZ); exact ⟨(), trivial, by rw [hcut], by rw [hcut]; exact ⟨wkE_refl _, wkE_refl _, wkH_nil _⟩⟩
          | false =>
            (first | refine wX ?_ | exact wZ)
            obtain ⟨b, hb⟩ : ∃ b, (s.drop a).take (s.length - a) = b := ⟨_, rfl⟩
            have hbl : b.length = min (s.length - a) (s.length - a) := by rw [← hb, List.length_take, List.length_drop]
            have hbt : (s.drop a).take b.length = b := by rw [hbl, ← hb, ← List.length_drop, ← List.take_eq_take_min]
            have hcut : cutS d (s.drop a) = (if d.letter == 65 then trimA b else if d.letter == 90 then b.takeWhile (· != 0) else b, b.length) := by
              unfold cutS
              rw [if_neg (by rw [e72]; decide), if_neg hn3, hdl, hcn, hb]
            rw [e90, if_neg (show ¬ false = true by decide)] at hcut
            -- as tail, but Z is known
            (first | refine wX ?_ | exact wZ)
            refine call1 (left_c ub s a out len cap ha hs _ (fun w hw => hw.2.1)) ?_
            (first | refine wX ?_ | exact wZ)
            have hmin : minI ((s.length - a : Nat) : Int) ((s.length - a : Nat) : Int) = ((b.length : Nat) : Int) := by
              rw [hbl]
              unfold minI
              split <;> omega
            rw [hmin]
            refine callG (cut_c ub s a b.length out len cap (by omega) hs) [1] rfl ⟨rfl, trivial⟩ rfl fun _ _ => ?_
            rw [hbt]
            (first | refine wX ?_ | exact wZ)
            rw [h65]
            cases e65 : d.letter == 65 with
            | true =>
              rw [e65, if_pos rfl] at hcut
              (first | refine wX ?_ | exact wZ)
              refine call1 (TrimZ_c b (by omega) _) ?_
              (first | refine wX ?_ | exact wZ)
              exact ⟨(), trivial, by rw [hcut], by rw [hcut]; exact ⟨wkE_refl _, wkE_refl _, wkH_nil _⟩⟩
            | false =>
              rw [e65, if_neg (by decide)] at hcut
              (first | refine wX ?_ | exact wZ)
              rw [h90, e90]
              (first | refine wX ?_ | exact wZ); exact ⟨(), trivial, by rw [hcut], by rw [hcut]; exact ⟨wkE_refl _, wkE_refl _, wkH_nil _⟩⟩
    · obtain ⟨T, hT⟩ : ∃ T : Nat, d.count.toNat = T := ⟨_, rfl⟩
      have hT2 : d.count = (T : Int) ∧ T ≤ 1000 := by
        unfold CntOk at hc
        omega
      have hc2 : ∀ n, cntS d n = T := fun n => by unfold cntS; rw [if_neg hk, if_neg hk1]; exact hT
      (first | refine wX ?_ | exact wZ)
      rw [h72]
      cases e72 : d.letter == 72 with
      | true =>
        -- T: the digits; d.count: as the number is spelled; (.inr hT2): that it is so
        (first | refine wX ?_ | exact wZ)
        refine callG (hexu_c ub s a out len cap (d.count) (T) (.inr hT2) ha hs) [1] rfl ⟨rfl, trivial⟩ rfl fun _ _ => ?_
        have hcut : cutS d (s.drop a) = ((hex ((s.drop a).take ((T + 1) / 2))).take (T), ((s.drop a).take ((T + 1) / 2)).length) := by
          unfold cutS
          rw [if_pos e72, List.length_drop, hc2]
        (first | refine wX ?_ | exact wZ)
        exact ⟨(), trivial, by rw [hcut], by rw [hcut]; exact ⟨wkE_refl _, wkE_refl _, wkH_nil _⟩⟩
      | false =>
        have hcn := hc2 (s.drop a).length
        (first | refine wX ?_ | exact wZ)
        refine brd_eq (fun h => absurd h hk1) (fun _ => ?_)
        -- T: the count; d.count: as it is spelled; (fun h => absurd h.1 hk1): of cutS
        obtain ⟨b, hb⟩ : ∃ b, (s.drop a).take (T) = b := ⟨_, rfl⟩
        have hbl : b.length = min (T) (s.length - a) := by rw [← hb, List.length_take, List.length_drop]
        have hbt : (s.drop a).take b.length = b := by rw [hbl, ← hb, ← List.length_drop, ← List.take_eq_take_min]
        have hcut : cutS d (s.drop a) = (if d.letter == 65 then trimA b else if d.letter == 90 then b.takeWhile (· != 0) else b, b.length) := by
          unfold cutS
          rw [if_neg (by rw [e72]; decide), if_neg (fun h => absurd h.1 hk1), hcn, hb]
        -- the bytes b are cut (d.count: as the count is spelled), trimmed
        (first | refine wX ?_ | exact wZ)
        refine call1 (left_c ub s a out len cap ha hs _ (fun w hw => hw.2.1)) ?_
        (first | refine wX ?_ | exact wZ)
        have hmin : minI (d.count) ((s.length - a : Nat) : Int) = ((b.length : Nat) : Int) := by
          rw [hbl]
          unfold minI
          split <;> omega
        rw [hmin]
        refine callG (cut_c ub s a b.length out len cap (by omega) hs) [1] rfl ⟨rfl, trivial⟩ rfl fun _ _ => ?_
        rw [hbt]
        (first | refine wX ?_ | exact wZ)
        rw [h65]
        cases e65 : d.letter == 65 with
        | true =>
          rw [e65, if_pos rfl] at hcut
          (first | refine wX ?_ | exact wZ)
          refine call1 (TrimZ_c b (by omega) _) ?_
          (first | refine wX ?_ | exact wZ)
          exact ⟨(), trivial, by rw [hcut], by rw [hcut]; exact ⟨wkE_refl _, wkE_refl _, wkH_nil _⟩⟩
        | false =>
          rw [e65, if_neg (by decide)] at hcut
          (first | refine wX ?_ | exact wZ)
          rw [h90]
          cases e90 : d.letter == 90 with
          | true =>
            rw [e90, if_pos rfl] at hcut
            (first | refine wX ?_ | exact wZ)
            refine call1 (Cut_c b [0] (by omega) _ (fun w hw => hw.1.1)) ?_
            rw [cut0]
            (first | refine wX ?_ | exact wZ)
            exact ⟨(), trivial, by rw [hcut], by rw [hcut]; exact ⟨wkE_refl _, wkE_refl _, wkH_nil _⟩⟩
          | false =>
            rw [e90, if_neg (by decide)] at hcut
            (first | refine wX ?_ | exact wZ)
            exact ⟨(), trivial, by rw [hcut], by rw [hcut]; exact ⟨wkE_refl _, wkE_refl _, wkH_nil _⟩⟩
end Go.Proofs.YtjkchonpnocffaaDoor

/-
  AX, thirty-second text: append(l, make([]byte, n)...): so many zeros onto a slice of bytes that grows.
-/
namespace Go.AX

end Go.AX

/-
  AX, thirty-third text: readings that are the same in all worlds of a kind.
-/
namespace Go.AX

theorem ReadC.load {P : Program} {C : World → Prop} {o : Oper} {s : List AV} {K : AV → Prop} {T : TypeId} {x : Operand} {p : Addr} (v : Value) (ho : o.op = .load T x) (hx : opv s x = .c (.v (.pointer (some p)))) (hF : ∀ w, C w → (loadVar T p).run P w = .ok v w) (hk : K (.c (.v v))) : ∃ x, ReadC P C o s K x :=
  ⟨v, fun cs b e => (by rw [ho] at e; cases e), by rw [ho]; show allPlain s [x] = true; simp [allPlain, hx], fun w hw => by
    have hx2 : plainEv s x = .pointer (some p) := by unfold plainEv; rw [hx]
    unfold execOp
    simp [ho, hx2, Instr.loadAt, Instr.sureAddr, hF w hw], hk⟩
/-- A load of one cell. -/
theorem ReadC.one {P : Program} {C : World → Prop} {o : Oper} {s : List AV} {K : AV → Prop} {T : TypeId} {x : Operand} {a : Option Addr} {q k : Nat} {xs : List Value} (v : Value) (ho : o.op = .load T x) (hx : opv s x = .c (.v (.pointer (some (elemAddr a q))))) (hT : shapeT P T = some none)
    (hF : ∀ w, C w → SlAt a k xs w) (hv : xs[q]? = some v) (hk : K (.c (.v v))) : ∃ x, ReadC P C o s K x :=
  ReadC.load v ho hx (fun w hw => loadVar_cell hT ((hF w hw).cell hv)) hk
/-- A load of a struct. -/
theorem ReadC.agg {P : Program} {C : World → Prop} {o : Oper} {s : List AV} {K : AV → Prop} {T : TypeId} {x : Operand} {a : Option Addr} {q n k : Nat} {xs : List Value} (ys : List Value) (ho : o.op = .load T x) (hx : opv s x = .c (.v (.pointer (some (elemAddr a q))))) (hT : shapeT P T = some (some n))
    (hF : ∀ w, C w → SlAt a k xs w) (hl : ys.length = n) (hv : ∀ j, j < n → xs[q + j]? = ys[j]?) (hk : K (.c (.v (.agg ys.toArray)))) : ∃ x, ReadC P C o s K x :=
  ReadC.load (.agg ys.toArray) ho hx (fun w hw => loadVar_cells hT hl fun j v hj => by
    have hjn : j < n := by rw [← hl]; exact (List.getElem?_eq_some_iff.1 hj).1
    rw [elemAddr, Addr.add_add]
    exact (hF w hw).cell ((hv j hjn).trans hj)) hk
theorem ReadC.nil {P : Program} {C : World → Prop} {o : Oper} {s : List AV} {K : AV → Prop} {x : Operand} {p : Addr} (ho : o.op = .nilCheck x) (hx : opv s x = .c (.v (.pointer (some p)))) (hk : K (.c (.v (.pointer (some p))))) : ∃ x, ReadC P C o s K x :=
  ⟨.pointer (some p), fun cs b e => (by rw [ho] at e; cases e), by rw [ho]; show allPlain s [x] = true; simp [allPlain, hx], fun w _ => by
    have hx2 : plainEv s x = .pointer (some p) := by unfold plainEv; rw [hx]
    unfold execOp
    simp [ho, hx2], hk⟩
end Go.AX

/-
  Contracts: Bytes, Unpack (program).
-/
namespace Go.Proofs.YtjkchonpnocffaaDoor
open Go.AX Go.RowKit Go.Pack
set_option maxRecDepth 20000

theorem unS_cons (whole : List UInt8) (d : Dir) (l : List Dir) (s : List UInt8) (out : List Pack.Item) : unS whole (d :: l) s out =
    if d.letter == 64 then if d.count > whole.length then .error 14 else unS whole l (whole.drop (max 0 d.count).toNat) out
    else if d.letter == 120 then if (max 1 d.count).toNat > s.length then .error 14 else unS whole l (s.drop (max 1 d.count).toNat) out
    else if isStr d.letter then unS whole l (s.drop (cutS d s).2) (out ++ [⟨true, 0, (cutS d s).1⟩])
    else match numsS d s with
      | .error e => .error e
      | .ok (ns, r) => unS whole l r (out ++ ns.map intI) := rfl
theorem cutS_le (d : Dir) (s : List UInt8) : (cutS d s).2 ≤ s.length := by
  unfold cutS
  split
  · simp only [List.length_take]; omega
  split
  · rename_i h
    exact tw_lt h.2.2
  · simp only [List.length_take]; omega
/-- What Unpack gives: an error, or items in memory. -/
def UnR (r : Except Int (List Pack.Item)) (v : Value) (G : World → Prop) : Prop := match r with
  | .error e => v = .tuple #[.slice none 0 0, .int .i64 e]
  | .ok l => ∃ ob cap, v = .tuple #[.slice (at0 ob) l.length cap, .int .i64 0] ∧ (ob = none → l = []) ∧ ∀ w, G w → SlAt (at0 ob) (l.length * 3) (itemsC l) w
theorem Unpack_c (form s : List UInt8) (hf : form.length ≤ 100000) (hs : s.length ≤ 1000000) : SpecF Tryd.prog 9 [.string (bs form), .string (bs s)] UtfF (UnR (unpackS form s)) := by
  refine specF hm Tryd.func9 (by kernel_rfl) rfl rfl ?_
  (first | refine wX ?_ | exact wZ)
  refine SpecF.call (read_c form hf) (fun w _ => trivial) fun v G hR => ?_
  unfold unpackS
  cases hfm : forms form with
  | none =>
    rw [hfm] at hR
    obtain ⟨y, n, cap, rfl⟩ := hR
    (first | refine wX ?_ | exact wZ)
    exact fin_v rfl
  | some ds =>
    rw [hfm] at hR
    obtain ⟨db, dcap, rfl, hdb, hG⟩ := hR
    obtain ⟨h50, hok⟩ := forms_ok hfm
    ((conv => whnf); (repeat ((first | refine RwN.own ?_ | refine VrN.norm (wrap_i64 (by omega)) ?_ | refine VrN.keep ?_ | refine DrawN.calm (by decide +kernel) ?_ | refine Nd.mk (by decide +kernel) ?_ | refine Nd.mk (by omega) ?_ | (refine Nd.mk ?_ ?_; focus ((repeat' (first | exact trivial | exact wkE_refl _ | refine And.intro ?_ ?_)); done)) | refine RdN.intro _ rfl (by rfl) ?_); (conv => whnf))))
    refine BoxN.known [.string (bs s), .int .i64 0, .slice none 0 0] rfl fun ub => ?_
    (first | refine wX ?_ | exact wZ)
    refine LoopN.intro (Nat × Nat × List Pack.Item × Option Nat × Nat) (fun ⟨i, a, l, ob, cap⟩ => i ≤ ds.length ∧ a ≤ s.length ∧ l.length ≤ 1000001 * i ∧ ((ob = none → l = [] ∧ cap = 0) ∧ l.length ≤ cap) ∧ unS s (ds.drop i) (s.drop a) l = unS s ds s [])
      (fun ⟨i, _, _, _, _⟩ => mkS Tryd.f9.ntmps 0 [(1, .c (.v (.string (bs s)))), (8, .c (.v (.pointer (some ⟨ub, 0, none⟩)))), (23, .c (.v (.slice (at0 db) ds.length dcap))), (24, .c (.v (.int .i64 (ds.length : Int)))), (25, .c (.v (.int .i64 (i : Int))))])
      (fun ⟨_, a, l, ob, cap⟩ => [.fact UtfF, .fact G, unE ub s a ob l.length cap, itemsE l ob cap]) (fun ⟨i, _, _, _, _⟩ => ds.length - i) [.app 0 0 [] none 0 0] rfl
      (fun _ => rfl) (fun _ => rfl) (fun _ _ => okHB_eq rfl) ⟨(0, 0, [], none, 0), ⟨Nat.zero_le _, Nat.zero_le _, Nat.zero_le _, ⟨fun _ => ⟨rfl, rfl⟩, Nat.le_refl _⟩, rfl⟩, ?_, ?_⟩ ?_
    · (repeat' (first | exact trivial | refine And.intro (by with_reducible rfl) ?_ | (with_reducible exact wkC_refl _) | (with_reducible exact wkCs_refl _) | refine And.intro ?_ ?_))
      all_goals rfl
    · exact ⟨wkE_refl _, wkE_refl _, wkE_refl _, wkE_nil, wkH_nil _⟩
    rintro ⟨i, a, l, ob, cap⟩ ⟨hid, ha, hll, hob, hrun⟩
    (first | refine wX ?_ | exact wZ)
    refine brd_dec (fun h1 => ?_) (fun h1 => ?_)
    · obtain ⟨d, hd⟩ : ∃ d, ds[i]? = some d := ⟨_, List.getElem?_eq_getElem (by omega)⟩
      have hdok := hok d (List.mem_of_getElem? hd)
      obtain ⟨db, rfl⟩ : ∃ g, db = some g := by
        cases db with
        | none => rw [hdb rfl] at hd; cases hd
        | some g => exact ⟨g, rfl⟩
      have hc1 : d.count ≤ 1000 := by
        have := hdok.2
        unfold CntOk at this
        omega
      have hll2 : l.length ≤ 51000000 := Nat.le_trans hll (by omega)
      have hzs := bs_size s
      have h64 : ((d.letter.toNat : Int) == 64) = (d.letter == 64) := u8_eq (n := 64) (by decide)
      have h120 : ((d.letter.toNat : Int) == 120) = (d.letter == 120) := u8_eq (n := 120) (by decide)
      have hdr : unS s (ds.drop i) (s.drop a) l = unS s (d :: ds.drop (i + 1)) (s.drop a) l := by
        rw [List.drop_eq_getElem_cons (by omega), (List.getElem?_eq_some_iff.1 hd).2]
      rw [hdr, unS_cons] at hrun
      cases hst : isStr d.letter with
      | true =>
        have e64 : (d.letter == 64) = false := by
          cases h : d.letter == 64 with
          | false => rfl
          | true => rw [show d.letter = 64 by simpa using h] at hst; exact absurd hst (by decide)
        have e120 : (d.letter == 120) = false := by
          cases h : d.letter == 120 with
          | false => rfl
          | true => rw [show d.letter = 120 by simpa using h] at hst; exact absurd hst (by decide)
        rw [e64, if_neg (by decide), e120, if_neg (by decide), if_pos hst, List.drop_drop] at hrun
        have hcl : a + (cutS d (s.drop a)).2 ≤ s.length := by
          have := cutS_le d (s.drop a)
          rw [List.length_drop] at this
          omega
        (first | refine wX ?_ | exact wZ)
        refine Nd.mk ⟨rfl, by omega, by omega⟩ ?_
        (first | refine wX ?_ | exact wZ)
        refine LdN.agg (dirC d) rfl (fun w hw => hG w hw.2.1) rfl (fun j hj => by
          rw [Int.toNat_natCast]
          exact dirsC_get ds i j hj hd) ?_
        ((conv => whnf); (repeat ((first | refine RwN.own ?_ | refine VrN.norm (wrap_i64 (by omega)) ?_ | refine VrN.keep ?_ | refine DrawN.calm (by decide +kernel) ?_ | refine Nd.mk (by decide +kernel) ?_ | refine Nd.mk (by omega) ?_ | (refine Nd.mk ?_ ?_; focus ((repeat' (first | exact trivial | exact wkE_refl _ | refine And.intro ?_ ?_)); done)) | refine RdN.intro _ rfl (by rfl) ?_); (conv => whnf))))
        refine BoxN.known [.int .u8 0, .bool false, .int .i64 0] rfl fun dk => ?_
        (first | refine wX ?_ | exact wZ)
        refine EffW.appTo (i := 4) (q := 0) (ys := dirC d) (dirC d) 3 rfl rfl rfl rfl rfl rfl rfl (Nat.le_of_ble_eq_true rfl) rfl rfl ?_
        (first | refine wX ?_ | exact wZ)
        refine LdN.one (a := some ⟨dk, 0, none⟩) (q := 0) (.int .u8 (d.letter.toNat : Int)) rfl (fun w hw => hw.2.2.2.2.1) rfl ?_
        (first | refine wX ?_ | exact wZ)
        rw [h64, e64]
        (first | refine wX ?_ | exact wZ)
        refine LdN.one (a := some ⟨dk, 0, none⟩) (q := 0) (.int .u8 (d.letter.toNat : Int)) rfl (fun w hw => hw.2.2.2.2.1) rfl ?_
        (first | refine wX ?_ | exact wZ)
        rw [h120, e120]
        (first | refine wX ?_ | exact wZ)
        refine LdN.agg (a := some ⟨dk, 0, none⟩) (q := 0) (dirC d) rfl (fun w hw => hw.2.2.2.2.1) rfl (fun j _ => by rw [Nat.zero_add]) ?_
        (first | refine wX ?_ | exact wZ)
        refine call1 (isString_c d _) ?_
        rw [hst]
        (first | refine wX ?_ | exact wZ)
        refine DrawN.planC (fun w => w.cell? ⟨ub, 2, none⟩ = some (.slice (at0 ob) l.length cap) ∧ SlAt (some ⟨dk, 0, none⟩) 3 (dirC d) w) [0, 1, 5] [(2, 2), (3, 2), (4, 1), (6, 1), (7, 0), (8, 0), (9, 0)] [(10, 0), (11, 0), (12, 0), (13, 0)] (by decide +kernel) (fun w hw => ⟨(hw.2.2.1).cell (q := 2) rfl, hw.2.2.2.2.1⟩) ?_
        (first | refine wX ?_ | exact wZ)
        refine ReadC.load (.slice (at0 ob) l.length cap) rfl rfl (fun w hw => loadVar_cell rfl hw.1) ?_
        (first | refine wX ?_ | exact wZ)
        refine ReadC.agg (a := some ⟨dk, 0, none⟩) (q := 0) (dirC d) rfl rfl rfl (fun w hw => hw.2) rfl (fun j _ => by rw [Nat.zero_add]) ?_
        refine callG (textu_c d ub s a ob l.length cap hdok.2 ha hs) [0, 2] rfl ⟨rfl, rfl, trivial⟩ rfl fun _ _ => ?_
        (conv => whnf)
        refine Nd.mk (fun w hw => ⟨(hw.2.2.1).cell (q := 2) rfl, hw.2.2.2.2.1⟩) ?_
        (first | refine wX ?_ | exact wZ)
        refine Nd.mk (fun w hw => ⟨(hw.2.2.1).cell (q := 2) rfl, hw.2.2.2.2.1⟩) ?_
        (first | refine wX ?_ | exact wZ)
        refine Nd.mk (fun w hw => ⟨(hw.2.2.1).cell (q := 2) rfl, hw.2.2.2.2.1⟩) ?_
        (first | refine wX ?_ | exact wZ)
        refine Nd.mk ⟨Nat.le_refl 1, rfl, rfl⟩ ?_
        (conv => whnf)
        refine AppN.grow 3 (itemsC l) (itemC ⟨true, 0, (cutS d (s.drop a)).1⟩) rfl rfl ⟨Nat.le_refl 1, ⟨by show (l.length + 1) * 32 ≤ _; omega, by omega⟩, by show 3 ≠ 0; omega⟩ fun b' cap2 h11 h12 => ?_
        (first | refine wX ?_ | exact wZ)
        refine EffW.appTo (i := 2) (q := 2) (ys := [_]) (unC s (a + (cutS d (s.drop a)).2) (some b') (l.length + 1) cap2) 3 rfl rfl rfl rfl rfl rfl rfl (Nat.le_of_ble_eq_true rfl) rfl rfl ?_
        (first | refine wX ?_ | exact wZ)
        refine ⟨(i + 1, a + (cutS d (s.drop a)).2, l ++ [⟨true, 0, (cutS d (s.drop a)).1⟩], some b', cap2), ⟨by omega, hcl, by simp; omega, ⟨fun h => (by cases h), by rw [List.length_append]; exact h11⟩, hrun⟩, by show ds.length - (i + 1) < ds.length - i; omega, ?_, ?_⟩
        · (repeat' (first | exact trivial | refine And.intro (by with_reducible rfl) ?_ | (with_reducible exact wkC_refl _) | (with_reducible exact wkCs_refl _) | refine And.intro ?_ ?_))
          all_goals first | rfl | exact av_int (by rw [wrap_i64 (by omega)]; omega)
        · refine ⟨wkE_refl _, wkE_refl _, ?_, ?_, wkH_nil _⟩
          · show wkE (.app _ _ _ _ _ _) (unE ub s (a + (cutS d (s.drop a)).2) (some b') (l ++ [(⟨true, 0, (cutS d (s.drop a)).1⟩ : Pack.Item)]).length cap2)
            rw [List.length_append]
            exact wkE_refl _
          · exact .inl ⟨rfl, rfl, itemsC_snoc _ _, rfl, by rw [List.length_append]; rfl, rfl⟩
      | false =>
      (first | refine wX ?_ | exact wZ)
      refine Nd.mk ⟨rfl, by omega, by omega⟩ ?_
      (first | refine wX ?_ | exact wZ)
      refine LdN.agg (dirC d) rfl (fun w hw => hG w hw.2.1) rfl (fun j hj => by
        rw [Int.toNat_natCast]
        exact dirsC_get ds i j hj hd) ?_
      (first | refine wX ?_ | exact wZ)
      rw [h64]
      cases e64 : d.letter == 64 with
      | true =>
        rw [e64, if_pos rfl] at hrun
        (first | refine wX ?_ | exact wZ)
        rw [hzs]
        refine brd_dec (fun h2 => ?_) (fun h2 => ?_)
        · rw [if_pos h2] at hrun
          (first | refine wX ?_ | exact wZ)
          refine fin_v ?_
          show UnR (unS s ds s []) _ _
          rw [← hrun]
          rfl
        · rw [if_neg h2] at hrun
          obtain ⟨m, hm⟩ : ∃ m : Nat, (max 0 d.count).toNat = m := ⟨_, rfl⟩
          have hmx : maxI 0 d.count = (m : Int) := by unfold maxI; split <;> omega
          rw [hm] at hrun
          (first | refine wX ?_ | exact wZ)
          rw [hmx]
          (first | refine wX ?_ | exact wZ)
          refine EffW.appTo (i := 2) (q := 1) (ys := [_]) (unC s m ob l.length cap) 3 rfl rfl rfl rfl rfl rfl rfl (Nat.le_of_ble_eq_true rfl) rfl rfl ?_
          (first | refine wX ?_ | exact wZ)
          refine ⟨(i + 1, m, l, ob, cap), ⟨by omega, by omega, by omega, hob, hrun⟩, by show ds.length - (i + 1) < ds.length - i; omega, ?_, ?_⟩
          · (repeat' (first | exact trivial | refine And.intro (by with_reducible rfl) ?_ | (with_reducible exact wkC_refl _) | (with_reducible exact wkCs_refl _) | refine And.intro ?_ ?_))
            all_goals first | rfl | exact av_int (by rw [wrap_i64 (by omega)]; omega)
          · exact ⟨wkE_refl _, wkE_refl _, wkE_refl _, wkE_refl _, wkH_nil _⟩
      | false =>
        rw [e64, if_neg (by decide)] at hrun
        (first | refine wX ?_ | exact wZ)
        rw [h120]
        cases e120 : d.letter == 120 with
        | true =>
          rw [e120, if_pos rfl] at hrun
          obtain ⟨m, hm⟩ : ∃ m : Nat, (max 1 d.count).toNat = m := ⟨_, rfl⟩
          have hmx : maxI 1 d.count = (m : Int) := by unfold maxI; split <;> omega
          rw [hm, List.length_drop] at hrun
          (first | refine wX ?_ | exact wZ)
          rw [hmx]
          (first | refine wX ?_ | exact wZ)
          refine call1 (left_c ub s a ob l.length cap ha hs _ (fun w hw => hw.2.2.1)) ?_
          (first | refine wX ?_ | exact wZ)
          refine brd_dec (fun h2 => ?_) (fun h2 => ?_)
          · rw [if_pos (by omega)] at hrun
            (first | refine wX ?_ | exact wZ)
            refine fin_v ?_
            show UnR (unS s ds s []) _ _
            rw [← hrun]
            rfl
          · rw [if_neg (by omega), List.drop_drop] at hrun
            (first | refine wX ?_ | exact wZ)
            refine DrawN.plan [0, 4] [(1, 1), (2, 1), (3, 1), (5, 1), (6, 1), (7, 1), (8, 1), (9, 1)] [(10, 0)] (by decide +kernel) ?_
            (first | refine wX ?_ | exact wZ)
            refine LdN.one (a := some ⟨ub, 0, none⟩) (q := 1) (.int .i64 (a : Int)) rfl (fun w hw => hw.2.2.1) rfl ?_
            (first | refine wX ?_ | exact wZ)
            rw [hmx]
            (first | refine wX ?_ | exact wZ)
            refine EffW.appTo (i := 2) (q := 1) (ys := [_]) (unC s (a + m) ob l.length cap) 3 rfl rfl rfl rfl rfl rfl rfl (Nat.le_of_ble_eq_true rfl) (by
              show [_, Value.int .i64 _, _] = [_, Value.int .i64 _, _]
              first | rfl | (rw [wrap_i64 (by omega)]; rfl)) rfl ?_
            (first | refine wX ?_ | exact wZ)
            refine ⟨(i + 1, a + m, l, ob, cap), ⟨by omega, by omega, by omega, hob, hrun⟩, by show ds.length - (i + 1) < ds.length - i; omega, ?_, ?_⟩
            · (repeat' (first | exact trivial | refine And.intro (by with_reducible rfl) ?_ | (with_reducible exact wkC_refl _) | (with_reducible exact wkCs_refl _) | refine And.intro ?_ ?_))
              all_goals first | rfl | exact av_int (by rw [wrap_i64 (by omega)]; omega)
            · exact ⟨wkE_refl _, wkE_refl _, wkE_refl _, wkE_refl _, wkH_nil _⟩
        | false =>
          rw [e120, if_neg (by decide)] at hrun
          (first | refine wX ?_ | exact wZ)
          refine call1 (isString_c d _) ?_
          cases hstr : isStr d.letter with
          | true => rw [hstr] at hst; cases hst
          | false =>
            rw [hstr, if_neg (by decide)] at hrun
            have hpl : isPl d.letter = false := by unfold isPl; rw [e120, e64]; rfl
            (first | refine wX ?_ | exact wZ)
            refine callG (numbers_c d ub s a l ob cap hdok.1 hstr hpl hdok.2 hob (by omega) ha hs) [0, 2, 3] rfl ⟨rfl, rfl, rfl, trivial⟩ rfl ?_
            rintro ⟨l2, ob2, cap2, at2, e2⟩ ⟨n1, n2, n3, n4, n5⟩
            cases hns : numsS d (s.drop a) with
            | error e =>
              rw [hns] at n5 hrun
              obtain ⟨n6, n7⟩ := n5
              simp only at n6
              subst n6
              (first | refine wX ?_ | exact wZ)
              refine brd_ne (fun _ => ?_) (fun h6 => absurd h6 n7)
              (first | refine wX ?_ | exact wZ)
              refine fin_v ?_
              show UnR (unS s ds s []) _ _
              rw [← hrun]
              rfl
            | ok x =>
              obtain ⟨ns, r⟩ := x
              rw [hns] at n5 hrun
              obtain ⟨n6, n7, n8⟩ := n5
              simp only at n6 n7 n8 n4 hrun
              subst n6
              rw [← n8, ← n7] at hrun
              (first | refine wX ?_ | exact wZ)
              refine ⟨(i + 1, at2, l2, ob2, cap2), ⟨by omega, n1, by omega, ⟨n2, n3⟩, hrun⟩, by show ds.length - (i + 1) < ds.length - i; omega, ?_, ?_⟩
              · (repeat' (first | exact trivial | refine And.intro (by with_reducible rfl) ?_ | (with_reducible exact wkC_refl _) | (with_reducible exact wkCs_refl _) | refine And.intro ?_ ?_))
                all_goals first | rfl | exact av_int (by rw [wrap_i64 (by omega)]; omega)
              · exact ⟨wkE_refl _, wkE_refl _, wkE_refl _, wkE_refl _, wkH_nil _⟩
    · have hi : i = ds.length := by omega
      subst hi
      rw [List.drop_length] at hrun
      (first | refine wX ?_ | exact wZ)
      refine LdN.one (a := some ⟨ub, 0, none⟩) (q := 2) (.slice (at0 ob) l.length cap) rfl (fun w hw => hw.2.2.1) rfl ?_
      (first | refine wX ?_ | exact wZ)
      refine fin_p (fun w => SlAt (at0 ob) (l.length * 3) (itemsC l) w) ?_ (fun w hw => hw.2.2.2.1)
      show UnR (unS s ds s []) _ _
      rw [← hrun]
      exact ⟨ob, cap, rfl, fun h => (hob.1 h).1, fun w hw => hw⟩
end Go.Proofs.YtjkchonpnocffaaDoor

/-
  Contracts: Hex and Bytes (document).
-/
namespace Go.Proofs.YtjkchonpnocffaaDoor
open Go.AX Go.RowKit Go.Pack
set_option maxRecDepth 20000

theorem Hex_r (s : List UInt8) (hs : s.length ≤ 1000000) : ∀ H, SpecH Tryd.prog 15 (pvs [.string (bs s)]) H (Ret (.string (bs (hex s))) H) := by
  refine pureC hm Tryd.func15 (by kernel_rfl) rfl rfl ?_
  have hzs := bs_size s
  (first | refine wX ?_ | exact wZ)
  refine LoopN.intro (Nat × Option Nat × Nat) (fun ⟨j, ob, cap⟩ => j ≤ s.length ∧ (ob = none → hex (s.take j) = [] ∧ cap = 0))
    (fun ⟨j, ob, cap⟩ => mkS Tryd.f15.ntmps 0 [(0, .c (.v (.string (bs s)))), (3, .c (.v (.slice (at0 ob) (hex (s.take j)).length cap))), (4, .c (.v (.int .i64 (j : Int))))])
    (fun ⟨j, ob, cap⟩ => [.app 5 1 (u8s (hex (s.take j))) (at0 ob) (hex (s.take j)).length cap]) (fun ⟨j, _, _⟩ => s.length - j) [.app 0 0 [] none 0 0] rfl
    (fun _ => rfl) (fun _ => rfl) (fun _ _ => okHB_eq rfl) ⟨(0, none, 0), ⟨Nat.zero_le _, fun _ => ⟨rfl, rfl⟩⟩, ?_, ?_⟩ ?_
  · (repeat' (first | exact trivial | refine And.intro (by with_reducible rfl) ?_ | (with_reducible exact wkC_refl _) | (with_reducible exact wkCs_refl _) | refine And.intro ?_ ?_))
    all_goals rfl
  · exact ⟨wkE_nil, wkH_nil _⟩
  rintro ⟨j, ob, cap⟩ ⟨hj, hob⟩
  (first | refine wX ?_ | exact wZ)
  rw [hzs]
  refine brd_dec (fun h1 => ?_) (fun h1 => ?_)
  · obtain ⟨c, hc⟩ : ∃ c, s[j]? = some c := ⟨_, List.getElem?_eq_getElem (by omega)⟩
    have hsn : s.take (j + 1) = s.take j ++ [c] := Pack.take_snoc hc
    have hcl := UInt8.toNat_lt c
    have hbc : byteAt (bs s) (Int.toNat (j : Int)) = (c.toNat : Int) := by rw [Int.toNat_natCast]; exact byteAt_get hc
    have hq : (c.toNat : Int).tdiv 16 = ((c.toNat / 16 : Nat) : Int) := (Int.ofNat_tdiv c.toNat 16).symm
    have hq' : IntKind.u8.wrap ((c.toNat / 16 : Nat) : Int) = ((c.toNat / 16 : Nat) : Int) := wrap_u8 (by omega)
    have hm' : (c.toNat : Int).tmod 16 = ((c.toNat % 16 : Nat) : Int) := (Int.ofNat_tmod c.toNat 16).symm
    have hx1 : byteAt { data := #[48, 49, 50, 51, 52, 53, 54, 55, 56, 57, 97, 98, 99, 100, 101, 102] } (Int.toNat ((c.toNat / 16 : Nat) : Int)) = ((hexC (c.toNat / 16)).toNat : Int) := by
      rw [Int.toNat_natCast]
      exact hexAt _ (by omega)
    have hx2 : byteAt { data := #[48, 49, 50, 51, 52, 53, 54, 55, 56, 57, 97, 98, 99, 100, 101, 102] } (Int.toNat ((c.toNat % 16 : Nat) : Int)) = ((hexC (c.toNat % 16)).toNat : Int) := by
      rw [Int.toNat_natCast]
      exact hexAt _ (by omega)
    have hhl : (hex (s.take j)).length ≤ 2000000 := by rw [hex_len, List.length_take]; omega
    (first | refine wX ?_ | exact wZ)
    refine DrawN.plan [0, 1, 2, 6, 7] [(3, 1), (4, 1), (5, 1), (8, 1), (9, 1), (10, 1), (11, 0)] [(12, 0), (13, 0)] (by decide +kernel) ?_
    (first | refine wX ?_ | exact wZ)
    rw [hbc, hq, hq']
    refine Nd.mk ⟨by omega, by show _ < (16 : Int); omega⟩ ?_
    (first | refine wX ?_ | exact wZ)
    rw [hx1]
    (first | refine wX ?_ | exact wZ)
    try rw [hbc]
    rw [hm']
    try rw [wrap_u8 (x := ((c.toNat % 16 : Nat) : Int)) (by omega)]
    refine Nd.mk ⟨by omega, by show _ < (16 : Int); omega⟩ ?_
    (first | refine wX ?_ | exact wZ)
    rw [hx2]
    (first | refine wX ?_ | exact wZ)
    refine Nd.mk ⟨by decide, rfl, rfl⟩ ?_
    (conv => whnf)
    refine AppN.grow 0 (u8s (hex (s.take j))) [_, _] rfl rfl ⟨by decide, ⟨by show ((hex (s.take j)).length + 2) * 1 ≤ _; omega, by omega⟩, by show 1 ≠ 0; omega⟩ fun b' cap2 h2 h3 => ?_
    have hnx : hex (s.take (j + 1)) = hex (s.take j) ++ [hexC (c.toNat / 16), hexC (c.toNat % 16)] := by rw [hsn, hex_app]; rfl
    have hnl : (hex (s.take (j + 1))).length = (hex (s.take j)).length + 2 := by rw [hnx, List.length_append]; rfl
    (first | refine wX ?_ | exact wZ)
    refine ⟨(j + 1, some b', cap2), ⟨by omega, fun h => (by cases h)⟩, by show s.length - (j + 1) < s.length - j; omega, ?_, ?_⟩
    · (repeat' (first | exact trivial | refine And.intro (by with_reducible rfl) ?_ | (with_reducible exact wkC_refl _) | (with_reducible exact wkCs_refl _) | refine And.intro ?_ ?_))
      all_goals first | rfl | (rw [hnl]; rfl) | exact av_int (by first | omega | (rw [wrap_i64 (by omega)]; omega))
    · exact ⟨.inl ⟨rfl, rfl, by rw [hnx]; simp [u8s], rfl, hnl.symm, rfl⟩, wkH_nil _⟩
  · have hje : s.take j = s := List.take_of_length_le (by omega)
    rw [hje]
    (first | refine wX ?_ | exact wZ)
    refine ReadW.bytes (hex s) rfl rfl rfl rfl rfl rfl (fun w hw => by simpa using hw.1) ?_
    (first | refine wX ?_ | exact wZ)
    rfl
end Go.Proofs.YtjkchonpnocffaaDoor

/-
  Plain Lean: a number that was written is read back.
-/
namespace Go.Pack

theorem u8_lt {a b : UInt8} : a < b ↔ a.toNat < b.toNat := Iff.rfl
theorem u8_le {a b : UInt8} : a ≤ b ↔ a.toNat ≤ b.toNat := Iff.rfl

/-! ### Bytes of a fixed size -/
theorem beN_snoc (l : B) (c : UInt8) : beN (l ++ [c]) = beN l * 256 + c.toNat := by simp [beN]
def fixed (c : UInt8) : Bool := c == 67 || c == 99 || c == 83 || c == 115 || c == 110 || c == 76 || c == 108 || c == 78 || c == 81 || c == 113
end Go.Pack

/-
  Plain Lean: groups of 7 bits, and characters, are read back.
-/
namespace Go.Pack

end Go.Pack

/-
  Plain Lean: forms and items that are read back whole.
-/
namespace Go.Pack

end Go.Pack

/-
  Plain Lean: two forms one behind the other.
-/
namespace Go.Pack

/-- What ends a count: no sign, no star, no digit ahead. -/
def stop (b : B) : Prop := ∀ c, b.head? = some c → c ≠ 62 ∧ c ≠ 42 ∧ dig c = false
theorem head_app {r b : B} : (r ++ b).head? = if r.isEmpty then b.head? else r.head? := by cases r <;> rfl
theorem tail_app {r b : B} (h : r.isEmpty = false) : (r ++ b).tail = r.tail ++ b := by cases r <;> first | rfl | cases h
theorem takeW_app {b : B} (hb : stop b) : ∀ r : B, (r ++ b).takeWhile dig = r.takeWhile dig ∧ (r ++ b).dropWhile dig = r.dropWhile dig ++ b
  | [] => by
    cases b with
    | nil => exact ⟨rfl, rfl⟩
    | cons c b =>
      have h := (hb c rfl).2.2
      simp [h]
  | c :: r => by
    have ih := takeW_app hb r
    cases h : dig c with
    | true => simp [h, ih.1, ih.2]
    | false => simp [h]
theorem cnt_app {c : UInt8} {r b : B} {x : Int × B} (hb : stop b) (h : cnt c r = some x) : cnt c (r ++ b) = some (x.1, x.2 ++ b) := by
  obtain ⟨h1, h2⟩ := takeW_app hb r
  unfold cnt at h ⊢
  have hh : ((r ++ b).head? == some 42) = (r.head? == some 42) := by
    rw [head_app]
    cases r with
    | nil =>
      cases b with
      | nil => rfl
      | cons c b =>
        have := (hb c rfl).2.1
        simp [this]
    | cons _ _ => rfl
  rw [hh, h1, h2]
  split at h
  · rename_i hs
    have hne : r.isEmpty = false := by cases r <;> first | rfl | simp at hs
    rw [if_pos hs, tail_app hne]
    split at h
    · cases h
    · rename_i hx
      cases h
      rw [if_neg hx]
  rename_i hs
  rw [if_neg hs]
  split at h
  · rename_i he
    cases h
    rw [if_pos he]
  rename_i he
  rw [if_neg he]
  split at h
  · rename_i hf
    cases h
    rw [if_pos hf]
  · cases h
theorem one_app {c : UInt8} {r b : B} {x : Dir × B} (hb : stop b) (h : one c r = some x) : one c (r ++ b) = some (x.1, x.2 ++ b) := by
  unfold one at h ⊢
  have hh : ((r ++ b).head? == some 62) = (r.head? == some 62) := by
    rw [head_app]
    cases r with
    | nil =>
      cases b with
      | nil => rfl
      | cons c b =>
        have := (hb c rfl).1
        simp [this]
    | cons _ _ => rfl
  rw [hh]
  split at h
  · rename_i hl
    rw [if_pos hl]
    split at h
    · rename_i hs
      have hne : r.isEmpty = false := by cases r <;> first | rfl | simp at hs
      rw [if_pos hs, tail_app hne]
      split at h
      · rename_i hg
        rw [if_pos hg]
        cases hc : cnt c r.tail with
        | none => rw [hc] at h; cases h
        | some y => rw [hc] at h; cases h; rw [cnt_app hb hc]; rfl
      · cases h
    · rename_i hs
      rw [if_neg hs]
      cases hc : cnt c r with
      | none => rw [hc] at h; cases h
      | some y => rw [hc] at h; cases h; rw [cnt_app hb hc]; rfl
  · cases h
theorem dirs_app {b : B} (hb : stop b) : ∀ (n : Nat) (a : B) (l : List Dir), a.length ≤ n → dirs a = some l → dirs (a ++ b) = (dirs b).map (l ++ ·)
  | _, [], l, _, h => by
    rw [dirs_nil] at h
    cases h
    show dirs b = _
    cases dirs b <;> rfl
  | 0, _ :: _, _, hn, _ => by simp at hn
  | n + 1, c :: r, l, hn, h => by
    simp only [List.length_cons] at hn
    by_cases h32 : c = 32
    · subst h32
      rw [dirs_space] at h
      rw [List.cons_append, dirs_space]
      exact dirs_app hb n r l (by omega) h
    · rw [dirs_cons h32] at h
      rw [List.cons_append, dirs_cons h32]
      cases ho : one c r with
      | none => rw [ho] at h; cases h
      | some x =>
        have hlen := one_len ho
        rw [ho] at h
        rw [one_app hb ho]
        simp only at h ⊢
        cases hx : dirs x.2 with
        | none => rw [hx] at h; cases h
        | some l' =>
          rw [hx] at h
          cases h
          rw [dirs_app hb n x.2 l' (by omega) hx]
          cases dirs b <;> rfl
theorem stop_space (b : B) : stop (32 :: b) := fun c h => by cases h; decide
theorem dirs_join {a b : B} {l m : List Dir} (h : dirs a = some l) (k : dirs b = some m) : dirs (a ++ 32 :: b) = some (l ++ m) := by
  rw [dirs_app (stop_space b) _ a l (Nat.le_refl _) h, dirs_space, k]
  rfl
theorem stop_letter {c : UInt8} (h : letters.contains c = true) (b : B) : stop (c :: b) := fun d hd => by
  cases hd
  have : ∀ c ∈ letters, c ≠ 62 ∧ c ≠ 42 ∧ dig c = false := by decide
  exact this c (by simpa using h)

/-! ### Packing one behind the other -/
theorem oneS_app {d : Dir} {items : List Item} {out : B} {used : Nat} {o : B} {u : Nat} (hp : d.letter ≠ 64) (more : List Item) (pre : List Item) (front : B) (h : oneS d items out used = .ok (o, u)) (hl : front.length + o.length ≤ 100000) :
    oneS d (pre ++ items ++ more) (front ++ out) (pre.length + used) = .ok (front ++ o, pre.length + u) := by
  have key : ∀ (l : B) (u' : Nat), (if out.length + l.length > 100000 then Except.error 5 else .ok (out ++ l, u') : Except Int (B × Nat)) = .ok (o, u) →
      (if (front ++ out).length + l.length > 100000 then Except.error 5 else .ok (front ++ out ++ l, pre.length + u') : Except Int (B × Nat)) = .ok (front ++ o, pre.length + u) := fun l u' h => by
    split at h
    · cases h
    · cases h
      rw [List.length_append] at hl
      rw [if_neg (by rw [List.length_append]; omega), List.append_assoc]
  unfold oneS at h ⊢
  simp only at h ⊢
  split at h
  · rename_i hx
    rw [if_pos hx]
    exact key _ _ h
  rename_i hx
  rw [if_neg hx, if_neg (by simpa using hp)]
  rw [if_neg (by simpa using hp)] at h
  cases hi : items[used]? with
  | none => rw [hi] at h; cases h
  | some x =>
    rw [hi] at h
    have hlt := (List.getElem?_eq_some_iff.1 hi).1
    have hi2 : (pre ++ items ++ more)[pre.length + used]? = some x := by
      rw [List.append_assoc, List.getElem?_append_right (by omega), show pre.length + used - pre.length = used by omega, List.getElem?_append_left hlt, hi]
    rw [hi2]
    simp only at h ⊢
    split at h
    · cases h
    · rename_i ht
      rw [if_neg ht]
      split at h
      · cases h
      · rename_i l he
        exact key _ _ h
theorem oneS_used {d : Dir} {items : List Item} {out : B} {used : Nat} {o : B} {u : Nat} (hp : d.letter ≠ 64) (h : oneS d items out used = .ok (o, u)) : out.length ≤ o.length ∧ used ≤ u ∧ (used ≤ items.length → u ≤ items.length) := by
  have key : ∀ (l : B) (u' : Nat), (if out.length + l.length > 100000 then Except.error 5 else .ok (out ++ l, u') : Except Int (B × Nat)) = .ok (o, u) → out.length ≤ o.length ∧ u = u' := fun l u' h => by
    split at h
    · cases h
    · cases h; exact ⟨by simp, rfl⟩
  unfold oneS at h
  simp only at h
  split at h
  · obtain ⟨a, b⟩ := key _ _ h
    exact ⟨a, by omega, by omega⟩
  rw [if_neg (by simpa using hp)] at h
  cases hi : items[used]? with
  | none => rw [hi] at h; cases h
  | some x =>
    rw [hi] at h
    have hlt := (List.getElem?_eq_some_iff.1 hi).1
    simp only at h
    split at h
    · cases h
    · split at h
      · cases h
      · obtain ⟨a, b⟩ := key _ _ h
        exact ⟨a, by omega, by omega⟩
end Go.Pack

/-
  Plain Lean: what two forms write, one behind the other.
-/
namespace Go.Pack

theorem oneS_pre {d : Dir} {items : List Item} {out : B} {used : Nat} {o : B} {u : Nat} (hp : d.letter ≠ 64) (n : Nat) (more : List Item) (hn : u ≤ n) (h : oneS d items out used = .ok (o, u)) : oneS d (items.take n ++ more) out used = .ok (o, u) := by
  have hu := (oneS_used hp h).2.1
  unfold oneS at h ⊢
  simp only at h ⊢
  split at h
  · rename_i hx
    rw [if_pos hx]
    exact h
  rename_i hx
  rw [if_neg hx, if_neg (by simpa using hp)]
  rw [if_neg (by simpa using hp)] at h
  cases hi : items[used]? with
  | none => rw [hi] at h; cases h
  | some x =>
    rw [hi] at h
    have hlt := (List.getElem?_eq_some_iff.1 hi).1
    have hlu : used < n := by
      simp only at h
      split at h
      · cases h
      · split at h
        · cases h
        · split at h
          · cases h
          · cases h; omega
    have hi2 : (items.take n ++ more)[used]? = some x := by
      rw [List.getElem?_append_left (by rw [List.length_take]; omega), List.getElem?_take, if_pos hlu, hi]
    rw [hi2]
    exact h
def plainD (d : Dir) : Prop := d.letter ≠ 64 ∧ d.count ≠ -1
theorem times_any {d : Dir} (h : plainD d) (a b : Nat) : times d a = times d b := by
  unfold times cntS
  rw [if_neg h.2, if_neg h.2]
theorem timesS_used {d : Dir} {items : List Item} (hp : d.letter ≠ 64) : ∀ (k : Nat) {out : B} {used : Nat} {o : B} {u : Nat}, timesS d items k out used = .ok (o, u) → out.length ≤ o.length ∧ used ≤ u ∧ (used ≤ items.length → u ≤ items.length)
  | 0, _, _, _, _, h => by cases h; exact ⟨Nat.le_refl _, Nat.le_refl _, id⟩
  | k + 1, out, used, o, u, h => by
    unfold timesS at h
    cases h1 : oneS d items out used with
    | error e => rw [h1] at h; cases h
    | ok x =>
      rw [h1] at h
      have a := oneS_used hp h1
      have b := timesS_used hp k h
      exact ⟨by omega, by omega, fun hh => b.2.2 (a.2.2 hh)⟩
theorem timesS_pre {d : Dir} {items : List Item} (hp : d.letter ≠ 64) (n : Nat) (more : List Item) : ∀ (k : Nat) {out : B} {used : Nat} {o : B} {u : Nat}, u ≤ n → timesS d items k out used = .ok (o, u) → timesS d (items.take n ++ more) k out used = .ok (o, u)
  | 0, _, _, _, _, _, h => by cases h; rfl
  | k + 1, out, used, o, u, hn, h => by
    unfold timesS at h ⊢
    cases h1 : oneS d items out used with
    | error e => rw [h1] at h; cases h
    | ok x =>
      rw [h1] at h
      have b := timesS_used hp k h
      rw [oneS_pre hp n more (by omega) h1]
      exact timesS_pre hp n more k hn h
theorem timesS_app {d : Dir} {items : List Item} (hp : d.letter ≠ 64) (more pre : List Item) (front : B) : ∀ (k : Nat) {out : B} {used : Nat} {o : B} {u : Nat}, front.length + o.length ≤ 100000 → timesS d items k out used = .ok (o, u) →
    timesS d (pre ++ items ++ more) k (front ++ out) (pre.length + used) = .ok (front ++ o, pre.length + u)
  | 0, _, _, _, _, _, h => by cases h; rfl
  | k + 1, out, used, o, u, hl, h => by
    unfold timesS at h ⊢
    cases h1 : oneS d items out used with
    | error e => rw [h1] at h; cases h
    | ok x =>
      rw [h1] at h
      have b := timesS_used hp k h
      rw [oneS_app hp more pre front h1 (by omega)]
      exact timesS_app hp more pre front k hl h
theorem runS_used {items : List Item} : ∀ (l : List Dir) {out : B} {used : Nat} {o : B} {u : Nat}, (∀ d ∈ l, plainD d) → runS items l out used = .ok (o, u) → out.length ≤ o.length ∧ used ≤ u ∧ (used ≤ items.length → u ≤ items.length)
  | [], _, _, _, _, _, h => by cases h; exact ⟨Nat.le_refl _, Nat.le_refl _, id⟩
  | d :: l, out, used, o, u, hp, h => by
    unfold runS at h
    cases h1 : timesS d items (times d (items.length - used)) out used with
    | error e => rw [h1] at h; cases h
    | ok x =>
      rw [h1] at h
      have a := timesS_used (hp d (by simp)).1 _ h1
      have b := runS_used l (fun d hd => hp d (by simp [hd])) h
      exact ⟨by omega, by omega, fun hh => b.2.2 (a.2.2 hh)⟩
theorem runS_pre {items : List Item} (n : Nat) (more : List Item) : ∀ (l : List Dir) {out : B} {used : Nat} {o : B} {u : Nat}, (∀ d ∈ l, plainD d) → u ≤ n → runS items l out used = .ok (o, u) → runS (items.take n ++ more) l out used = .ok (o, u)
  | [], _, _, _, _, _, _, h => by cases h; rfl
  | d :: l, out, used, o, u, hp, hn, h => by
    unfold runS at h ⊢
    cases h1 : timesS d items (times d (items.length - used)) out used with
    | error e => rw [h1] at h; cases h
    | ok x =>
      rw [h1] at h
      have b := runS_used l (fun d hd => hp d (by simp [hd])) h
      rw [times_any (hp d (by simp)) _ (items.length - used), timesS_pre (hp d (by simp)).1 n more _ (by omega) h1]
      exact runS_pre n more l (fun d hd => hp d (by simp [hd])) hn h
theorem runS_app {items : List Item} (more pre : List Item) (front : B) : ∀ (l : List Dir) {out : B} {used : Nat} {o : B} {u : Nat}, (∀ d ∈ l, plainD d) → front.length + o.length ≤ 100000 → runS items l out used = .ok (o, u) →
    runS (pre ++ items ++ more) l (front ++ out) (pre.length + used) = .ok (front ++ o, pre.length + u)
  | [], _, _, _, _, _, _, h => by cases h; rfl
  | d :: l, out, used, o, u, hp, hl, h => by
    unfold runS at h ⊢
    cases h1 : timesS d items (times d (items.length - used)) out used with
    | error e => rw [h1] at h; cases h
    | ok x =>
      rw [h1] at h
      have b := runS_used l (fun d hd => hp d (by simp [hd])) h
      rw [times_any (hp d (by simp)) _ (items.length - used), timesS_app (hp d (by simp)).1 more pre front _ (by omega) h1]
      exact runS_app more pre front l (fun d hd => hp d (by simp [hd])) hl h
theorem runS_behind {items : List Item} (m : List Dir) : ∀ (l : List Dir) {out : B} {used : Nat} {o : B} {u : Nat}, runS items l out used = .ok (o, u) → runS items (l ++ m) out used = runS items m o u
  | [], _, _, _, _, h => by cases h; rfl
  | d :: l, out, used, o, u, h => by
    unfold runS at h
    rw [List.cons_append]
    conv => lhs; unfold runS
    cases h1 : timesS d items (times d (items.length - used)) out used with
    | error e => rw [h1] at h; cases h
    | ok x =>
      rw [h1] at h
      exact runS_behind m l h
/-- Two forms one behind the other write what each one writes. -/
theorem pack_join {a b : B} {l m : List Dir} {x y : List Item} {s t : B} {n k : Nat} (ha : dirs a = some l) (hb : dirs b = some m) (hl : ∀ d ∈ l, plainD d) (hm : ∀ d ∈ m, plainD d) (h50 : l.length + m.length ≤ 50)
    (h1 : runS x l [] 0 = .ok (s, n)) (h2 : runS y m [] 0 = .ok (t, k)) (hlen : s.length + t.length ≤ 100000) : packS (a ++ 32 :: b) (x.take n ++ y) = .ok (s ++ t, n + k) := by
  have hn := (runS_used l hl h1).2.2 (Nat.zero_le _)
  unfold packS forms
  rw [dirs_join ha hb]
  simp only [List.length_append, if_pos h50]
  have h3 := runS_pre n y l hl (Nat.le_refl _) h1
  rw [runS_behind m l h3]
  have h4 := runS_app [] (x.take n) s m hm hlen h2
  rw [List.append_nil, List.append_nil, List.length_take, Nat.min_eq_left hn, Nat.add_zero] at h4
  exact h4
end Go.Pack

/-
  Plain Lean: what is packed has its size.
-/
namespace Go.Pack
set_option maxRecDepth 4000
theorem textS_len {d : Dir} {s r : B} (hc : d.count ≠ -1) (h : textS d s = .ok r) : r.length = if d.letter == 72 then (cntS d 0 + 1) / 2 else cntS d 0 := by
  have hcc : ∀ n, cntS d n = cntS d 0 := fun n => by unfold cntS; rw [if_neg hc, if_neg hc]
  unfold textS at h
  split at h
  · rename_i h72
    rw [if_pos h72, hexS_len h, hcc]
  · rename_i h72
    rw [if_neg h72]
    try rw [if_neg hc] at h
    simp only at h
    cases h
    split
    · rw [List.length_set, List.length_append, List.length_take, List.length_replicate]
      omega
    · rw [List.length_append, List.length_take, List.length_replicate]
      omega
theorem fin_len {o l : B} {v : Nat} {r : B × Nat} (h : (if o.length + l.length > 100000 then Except.error 5 else .ok (o ++ l, v) : Except Int (B × Nat)) = .ok r) : r.1.length = o.length + l.length := by
  split at h
  · cases h
  · cases h
    rw [List.length_append]
end Go.Pack

/-
  Plain Lean: forms that are put together of directives.
-/
namespace Go.Pack
set_option maxRecDepth 20000
/-- The counts that are written, and what is left of one. -/
def cts : List B := [[], [49], [50], [51], [42], [55], [48], [49, 50]]
def letter18 (k : Nat) : UInt8 := letters.getD k 0
def cntW (k j : Nat) : B := if (cts.getD j [] == [48] && letter18 k != 64) || (cts.getD j [] == [42] && decide (16 ≤ k)) then [] else cts.getD j []
def bigW (g : Bool) (k : Nat) : B := if g && decide (2 ≤ k) && decide (k < 8) then [62] else []
def piece (k : Nat) (g : Bool) (j : Nat) (sp : Bool) : B := letter18 k :: (bigW g k ++ cntW k j ++ if sp then [32] else [])
def pure2 (s : B) : Bool := s.all fun c => c != 64 && c != 42
def pieceOk (k : Nat) (g : Bool) (j : Nat) (sp : Bool) : Bool := match dirs (piece k g j sp) with
  | some [d] => decide (d.count ≤ 12) && (!pure2 (piece k g j sp) || (d.letter != 64 && decide (d.count ≠ -1))) && decide ((piece k g j sp).length ≤ 5) && letters.contains (letter18 k)
  | _ => false
theorem piece_tab : ∀ (k : Fin 18) (g : Bool) (j : Fin 8) (sp : Bool), pieceOk k.val g j.val sp = true := by decide +kernel
structure FormOk (i : Nat) (form : B) (ds : List Dir) : Prop where
  dirs : dirs form = some ds
  len : ds.length = i
  size : form.length ≤ 5 * i
  cnt : ∀ d ∈ ds, d.count ≤ 12
  pl : pure2 form = true → ∀ d ∈ ds, plainD d
theorem FormOk.nil : FormOk 0 [] [] := ⟨by rfl, rfl, Nat.zero_le _, fun _ h => by simp at h, fun _ _ h => by simp at h⟩
theorem FormOk.step {i : Nat} {form : B} {ds : List Dir} (h : FormOk i form ds) (k j : Nat) (g sp : Bool) (hk : k < 18) (hj : j < 8) : ∃ ds', FormOk (i + 1) (form ++ piece k g j sp) ds' := by
  have ht := piece_tab ⟨k, hk⟩ g ⟨j, hj⟩ sp
  unfold pieceOk at ht
  simp only at ht
  split at ht
  · rename_i d hd
    simp only [Bool.and_eq_true, decide_eq_true_eq] at ht
    obtain ⟨⟨⟨h1, h2⟩, h3⟩, h4⟩ := ht
    have hs : stop (piece k g j sp) := stop_letter h4 _
    have ha := dirs_app hs form.length form ds (Nat.le_refl _) h.dirs
    rw [hd] at ha
    refine ⟨ds ++ [d], ha, by rw [List.length_append, h.len]; rfl, by rw [List.length_append]; have := h.size; omega, fun x hx => ?_, fun hp x hx => ?_⟩
    · rcases List.mem_append.1 hx with hx | hx
      · exact h.cnt x hx
      · rw [List.mem_singleton.1 hx]; exact h1
    · have hp2 : pure2 form = true ∧ pure2 (piece k g j sp) = true := by
        unfold pure2 at hp ⊢
        rw [List.all_append, Bool.and_eq_true] at hp
        exact hp
      rcases List.mem_append.1 hx with hx | hx
      · exact h.pl hp2.1 x hx
      · rw [List.mem_singleton.1 hx]
        rw [hp2.2] at h2
        simpa [plainD] using h2
  · cases ht
/-- What short counts write is short. -/
theorem utf_le (n : Nat) : (utf n).length ≤ 4 := by
  unfold utf
  split
  · simp
  split
  · simp
  split <;> simp
theorem numS_11 {d : Dir} {n : Int} {r : B} (h : numS d n = .ok r) : r.length ≤ 11 := by
  unfold numS at h
  split at h
  · split at h
    · cases h
    · cases h
      unfold sevens
      have := sevR_size 10 (n.toNat / 128)
      simp
      omega
  split at h
  · split at h
    · cases h
      have := utf_le n.toNat
      omega
    · cases h
  split at h
  · have hz := sz_le8 d.letter
    cases h
    split <;> simp [le_len] <;> omega
  · cases h
theorem oneS_12 {d : Dir} {items : List Item} {out : B} {used : Nat} {r : B × Nat} (hp : plainD d) (hc : d.count ≤ 12) (h : oneS d items out used = .ok r) : r.1.length ≤ out.length + 12 := by
  have hcn : ∀ n, cntS d n ≤ 12 := fun n => by
    unfold cntS
    rw [if_neg hp.2]
    split <;> omega
  unfold oneS at h
  simp only at h
  split at h
  · rw [fin_len h, List.length_replicate]
    omega
  rw [if_neg (show ¬ (d.letter == 64) = true by simpa using hp.1)] at h
  split at h
  · cases h
  split at h
  · cases h
  split at h
  · cases h
  · rename_i l hl
    rw [fin_len h]
    split at hl
    · rw [textS_len hp.2 hl]
      have := hcn 0
      split <;> omega
    · have := numS_11 hl
      omega
theorem timesS_12 {d : Dir} {items : List Item} (hp : plainD d) (hc : d.count ≤ 12) : ∀ (k : Nat) {out : B} {used : Nat} {r : B × Nat}, timesS d items k out used = .ok r → r.1.length ≤ out.length + k * 12
  | 0, out, used, r, h => by cases h; simp
  | k + 1, out, used, r, h => by
    unfold timesS at h
    cases h1 : oneS d items out used with
    | error e => rw [h1] at h; cases h
    | ok x =>
      rw [h1] at h
      have h2 := oneS_12 hp hc h1
      have h3 := timesS_12 hp hc k h
      rw [Nat.succ_mul]
      omega
theorem runS_144 {items : List Item} : ∀ (l : List Dir) {out : B} {used : Nat} {r : B × Nat}, (∀ d ∈ l, plainD d ∧ d.count ≤ 12) → runS items l out used = .ok r → r.1.length ≤ out.length + l.length * 144
  | [], out, used, r, _, h => by cases h; simp
  | d :: l, out, used, r, hl, h => by
    unfold runS at h
    cases h1 : timesS d items (times d (items.length - used)) out used with
    | error e => rw [h1] at h; cases h
    | ok x =>
      obtain ⟨o, u⟩ := x
      rw [h1] at h
      have hd := hl d (List.mem_cons_self ..)
      have h2 : o.length ≤ out.length + times d (items.length - used) * 12 := timesS_12 hd.1 hd.2 _ h1
      have h3 := runS_144 l (fun x hx => hl x (List.mem_cons_of_mem _ hx)) h
      have h4 : times d (items.length - used) ≤ 12 := by
        unfold times cntS
        rw [if_neg hd.1.2]
        have := hd.2
        split
        · omega
        · split <;> omega
      rw [List.length_cons, Nat.succ_mul]
      have h5 : times d (items.length - used) * 12 ≤ 12 * 12 := Nat.mul_le_mul_right _ h4
      omega
end Go.Pack

/-
  AX, thirty-fifth text: an executor whose arms may come together again.
-/
namespace Go.AX

/-- What is behind a statement whose arms come together: a family of states. -/
def joinK {ι : Type} (inv : ι → Prop) (sl : ι → List AV) (hp : ι → List Ent) (K : Ex → List AV → List Ent → Prop) (e : Ex) (s' : List AV) (H' : List Ent) : Prop :=
  match e with
  | .normal => ∃ i, inv i ∧ wkS s' (sl i) ∧ wkH H' (hp i)
  | .exit n => K (.exit n) s' H'
  | .ret => K .ret s' H'
  | .pan c => K (.pan c) s' H'
/-- One statement and another: straight on; or all that the first one leaves is a family of states. -/
inductive SeqN (ia ib : List AV → List Ent → (Ex → List AV → List Ent → Prop) → Prop) (s : List AV) (H : List Ent) (K : Ex → List AV → List Ent → Prop) : Prop where
  | plain (h : ia s H (seqK ib K))
  | join (ι : Type) (inv : ι → Prop) (sl : ι → List AV) (hp : ι → List Ent) (len : ∀ i, inv i → H.length ≤ (hp i).length) (oks : ∀ i, inv i → okSB (hp i).length (sl i) = true) (okh : ∀ i, inv i → okH (hp i).length (hp i))
      (h : ia s H (joinK inv sl hp K)) (next : ∀ i, inv i → forceS (sl i) fun s => forceH (hp i) fun H => ib s H K)
def execJ (P : Program) (c : Code) : List AV → List Ent → (Ex → List AV → List Ent → Prop) → Prop :=
  Code.rec (motive := fun _ => List AV → List Ent → (Ex → List AV → List Ent → Prop) → Prop)
    (fun s H K => K .normal s H)
    (fun _ ops draw s H K => regionK P ops draw s H K)
    (fun _ _ ia ib s H K => SeqN ia ib s H K)
    (fun c _ _ ia ib s H K => condK c s (fun s => ia s H K) (fun s => ib s H K))
    (fun id _ ib s H K => ib s H (blockK id K))
    (fun _ ib s H K => LoopN ib s H K)
    (fun _ _ _ _ _ _ _ _ _ => False)
    (fun id s H K => K (.exit id) s H)
    (fun _ _ _ _ _ => False)
    (fun _ s H K => K .normal s H)
    (fun _ _ _ _ => False)
    (fun s H K => K .ret s H)
    (fun _ _ _ _ => False)
    c
theorem execJ_sound {P : Program} (hm : P.follows .mixedOrders = true) : ∀ (c : Code) (s : List AV) (H : List Ent) (K : Ex → List AV → List Ent → Prop), execJ P c s H K →
    ∀ (ρ : List Loc) (S : Nat → Prop) (w : World) (a : Act), Sat ρ S H w → RelS ρ s a.tmps.toList → c.wp P (Post ρ S H w a.defers K) a w := by
  intro c
  induction c with
  | skip => intro s H K h ρ S w a hs hr; exact wp_skip ⟨ρ, S, s, H, .normal, hs, Ev.refl _ _ _ _, hr, rfl, trivial, h⟩
  | label l => intro s H K h ρ S w a hs hr; exact wp_label ⟨ρ, S, s, H, .normal, hs, Ev.refl _ _ _ _, hr, rfl, trivial, h⟩
  | exit id => intro s H K h ρ S w a hs hr; exact wp_exit ⟨ρ, S, s, H, .exit id, hs, Ev.refl _ _ _ _, hr, rfl, rfl, h⟩
  | ret => intro s H K h ρ S w a hs hr; exact wp_ret ⟨ρ, S, s, H, .ret, hs, Ev.refl _ _ _ _, hr, rfl, trivial, h⟩
  | goto l => intro s H K h; exact h.elim
  | refuse y => intro s H K h; exact h.elim
  | scope b ih => intro s H K h; exact h.elim
  | rangeFunc f ps _ b _ _ => intro s H K h; exact h.elim
  | region id ops draw =>
    intro s H K h0 ρ S w a hs hr
    have h : regionK P ops draw s H K := h0
    clear h0
    unfold regionK at h
    split at h
    · exact wp_region_list (execOps_sound _ _ _ h ρ S w a hs hr)
    · have h0 : Cls ρ S H w { w with drawn := w.drawn + 1 } := ⟨S, hs.heap rfl, Ev.drew _ _ _ _⟩
      rcases h with ⟨hB, h⟩ | ⟨pre, hd, tl, hB, h⟩ | ⟨pre, hd, tl, hB, h⟩ | ⟨C, pre, hd, tl, hB, hC, h⟩
      · refine wp_region_quiet (C := Cls ρ S H w) hm hB h0 ?_
        have hq := execQ_sound ⟨_, h0⟩ _ _ h a hr
        refine exec_sound.wpQuiet_mono (fun a' ⟨s', hK, hr', hd⟩ w' ⟨S', hs', hev⟩ => ?_) _ _ hq
        exact ⟨ρ, S', s', H, .normal, hs', hev, hr', hd, trivial, hK⟩
      · exact plan_sound hm hB h hs hr
      · exact planQ_sound hm hB h hs hr
      · exact planC_sound hm hB hC h hs hr
  | seq x y ihx ihy =>
    intro s H K h0 ρ S w a hs hr
    have h : SeqN (execJ P x) (execJ P y) s H K := h0
    have key : ∀ K2 : Ex → List AV → List Ent → Prop, execJ P x s H K2 → (∀ (e : Ex) (s1 : List AV) (H1 : List Ent) (ρ1 : List Loc) (S1 : Nat → Prop) (w1 : World) (a1 : Act), K2 e s1 H1 → Sat ρ1 S1 H1 w1 → Ev ρ S H w ρ1 S1 H1 w1 → relX e ρ1 s1 a1.tmps.toList → ∃ s2 H2 ρ2 S2, Sat ρ2 S2 H2 w1 ∧ Ev ρ S H w ρ2 S2 H2 w1 ∧ relX e ρ2 s2 a1.tmps.toList ∧ seqK (execJ P y) K e s2 H2) → (Code.seq x y).wp P (Post ρ S H w a.defers K) a w := by
      intro K2 h2 hk
      refine wp_seq (wp_mono (ihx s H K2 h2 ρ S w a hs hr) fun e a' w' hp => ?_)
      obtain ⟨ρ0, S0, s0, H0, ex, hs0, hev0, hr0, hd, hex, hK0⟩ := hp
      obtain ⟨s1, H1, ρ1, S1, hs1, hev, hr1, hK⟩ := hk ex s0 H0 ρ0 S0 w' a' hK0 hs0 hev0 hr0
      cases ex with
      | normal =>
        cases e <;> first | exact hex.elim | skip
        refine wp_mono (ihy s1 H1 K hK ρ1 S1 w' a' hs1 hr1) fun e2 a2 w2 hp2 => ?_
        rw [hd] at hp2
        exact hp2.from hev
      | exit n => cases e <;> first | exact hex.elim | exact ⟨ρ1, S1, s1, H1, .exit n, hs1, hev, hr1, hd, hex, hK⟩
      | ret => cases e <;> first | exact hex.elim | exact ⟨ρ1, S1, s1, H1, .ret, hs1, hev, hr1, hd, hex, hK⟩
      | pan n => cases e <;> first | exact hex.elim | exact ⟨ρ1, S1, s1, H1, .pan n, hs1, hev, hr1, hd, hex, hK⟩
    rcases h with h | ⟨ι, inv, sl, hp, hlen, hoks, hokh, h, hnext⟩
    · exact key _ h fun e s1 H1 ρ1 S1 w1 a1 hK hs1 hev hr1 => ⟨s1, H1, ρ1, S1, hs1, hev, hr1, hK⟩
    · simp only [forceS_eq, forceH_eq] at hnext
      refine key _ h fun e s1 H1 ρ1 S1 w1 a1 hK hs1 hev hr1 => ?_
      cases e with
      | normal =>
        obtain ⟨j, hij, hws, hwh⟩ := hK
        have hw := hs1.weak hwh (hokh j hij)
        refine ⟨sl j, hp j, ρ1.take (hp j).length, S1, hw.1, ⟨?_, hev.os, hev.tape, hev.output, hev.size, hev.keep, hev.imm, fun b hb => hev.own b (hw.2 b hb)⟩, wkS_rel hws (hoks j hij) hr1, hnext j hij⟩
        obtain ⟨t, ht⟩ := hev.pre
        refine ⟨t.take ((hp j).length - ρ.length), ?_⟩
        rw [ht, List.take_append, List.take_of_length_le (by rw [hs.len]; exact hlen j hij)]
      | exit n => exact ⟨s1, H1, ρ1, S1, hs1, hev, hr1, hK⟩
      | ret => exact ⟨s1, H1, ρ1, S1, hs1, hev, hr1, hK⟩
      | pan n => exact ⟨s1, H1, ρ1, S1, hs1, hev, hr1, hK⟩
  | cond c x y ihx ihy =>
    intro s H K h0 ρ S w a hs hr
    have h : condK c s (fun s => execJ P x s H K) (fun s => execJ P y s H K) := h0
    obtain ⟨b, hb, hc⟩ := condK_spec h hr
    refine wp_cond hb ?_
    rcases hc with ⟨rfl, s', hK, hr'⟩ | ⟨rfl, s', hK, hr'⟩
    · exact ihx s' H K hK ρ S w a hs hr'
    · exact ihy s' H K hK ρ S w a hs hr'
  | block id b ih =>
    intro s H K h ρ S w a hs hr
    refine wp_block (wp_mono (ih s H (blockK id K) h ρ S w a hs hr) fun e a' w' hp => ?_)
    obtain ⟨ρ1, S1, s1, H1, ex, hs1, hev, hr1, hd, hex, hK⟩ := hp
    cases ex with
    | normal => cases e <;> first | exact hex.elim | exact ⟨ρ1, S1, s1, H1, .normal, hs1, hev, hr1, hd, trivial, hK⟩
    | ret => cases e <;> first | exact hex.elim | exact ⟨ρ1, S1, s1, H1, .ret, hs1, hev, hr1, hd, trivial, hK⟩
    | pan n => cases e <;> first | exact hex.elim | exact ⟨ρ1, S1, s1, H1, .pan n, hs1, hev, hr1, hd, hex, hK⟩
    | exit n =>
      cases e <;> first | exact hex.elim | skip
      rename_i m
      have hnm : n = m := hex
      subst hnm
      by_cases hid : n = id
      · subst hid
        simp only [Exit.inBlock, if_true]
        have hK' : K .normal s1 H1 := by simpa [blockK] using hK
        exact ⟨ρ1, S1, s1, H1, .normal, hs1, hev, hr1, hd, trivial, hK'⟩
      · simp only [Exit.inBlock, if_neg hid]
        have hbq : Nat.beq n id = false := by cases hq : Nat.beq n id with | false => rfl | true => exact absurd (Nat.eq_of_beq_eq_true hq) hid
        have hK' : K (.exit n) s1 H1 := by simpa [blockK, hbq] using hK
        exact ⟨ρ1, S1, s1, H1, .exit n, hs1, hev, hr1, hd, rfl, hK'⟩
  | loop b ih =>
    intro s H K h0 ρ S w a hs hr
    have h : LoopN (execJ P b) s H K := h0
    rcases h with ⟨ι, inv, sl, hp, μ, pad, hpad, hlen, hoks, hokh, ⟨i0, hi0, hst, hsh⟩, hround⟩ | ⟨n, hU⟩
    · obtain ⟨t0, hs0, hev0⟩ := Sat.pad pad hpad hs
      have hr0 := RelS_pre t0 hr
      refine wp_mono (P := P) (c := .loop b) (Q := Post (ρ ++ t0) S (H ++ pad) w a.defers K) ?_ fun e a' w' hp => hp.from hev0
      clear hs hr h0
      have hs := hs0
      have hr := hr0
      clear hs0 hr0
      generalize ρ ++ t0 = ρ at *
      generalize H ++ pad = H at *
      simp only [forceS_eq, forceH_eq] at hround
      refine wp_loop_by (fun n a' w' => ∃ i ρ' S', inv i ∧ μ i = n ∧ Sat ρ' S' (hp i) w' ∧ Ev ρ S H w ρ' S' (hp i) w' ∧ RelS ρ' (sl i) a'.tmps.toList ∧ a'.defers = a.defers) ?_ (μ i0) a w ?_
      · rintro n a' w' ⟨i, ρ', S', hinv, rfl, hs', hev, hr', hd⟩
        refine wp_mono (ih (sl i) (hp i) _ (hround i hinv) ρ' S' w' a' hs' hr') fun e a2 w2 hq => ?_
        obtain ⟨ρ2, S2, s2, H2, ex, hs2, hev2, hr2, hd2, hex, hK⟩ := hq
        cases ex with
        | normal =>
          cases e <;> first | exact hex.elim | skip
          obtain ⟨j, hij, hj, hws, hwh⟩ := hK
          have hw := hs2.weak hwh (by rw [hlen]; exact hokh j hij)
          refine ⟨μ j, hj, j, ρ2.take (hp j).length, S2, hij, rfl, hw.1, ?_, ?_, hd2.trans hd⟩
          · have h12 := hev.trans hev2
            refine ⟨?_, h12.os, h12.tape, h12.output, h12.size, h12.keep, h12.imm, fun b hb => h12.own b (hw.2 b hb)⟩
            obtain ⟨t, ht⟩ := h12.pre
            refine ⟨t.take ((hp j).length - ρ.length), ?_⟩
            rw [ht, List.take_append, List.take_of_length_le (by rw [hs.len, hlen]; omega)]
          · rw [hlen]; exact wkS_rel hws (hoks j) hr2
        | exit n => cases e <;> first | exact hex.elim | exact ⟨ρ2, S2, s2, H2, .exit n, hs2, hev.trans hev2, hr2, hd2.trans hd, hex, hK⟩
        | ret => cases e <;> first | exact hex.elim | exact ⟨ρ2, S2, s2, H2, .ret, hs2, hev.trans hev2, hr2, hd2.trans hd, trivial, hK⟩
        | pan n => cases e <;> first | exact hex.elim | exact ⟨ρ2, S2, s2, H2, .pan n, hs2, hev.trans hev2, hr2, hd2.trans hd, hex, hK⟩
      · have hw := hs.weak hsh (by rw [hlen]; exact hokh i0 hi0)
        have hρ : ρ.take (hp i0).length = ρ := List.take_of_length_le (by rw [hs.len, hlen]; omega)
        rw [hρ] at hw
        refine ⟨i0, ρ, S, hi0, rfl, hw.1, ⟨⟨[], by simp⟩, rfl, rfl, rfl, Nat.le_refl _, fun _ _ _ => rfl, fun b hb => .inl hb, fun b hb => .inl (hw.2 b hb)⟩, ?_, rfl⟩
        have := wkS_rel hst (hoks i0) hr
        rw [← hlen i0, hρ] at this
        exact this
    · refine wp_loop_by (fun n a' w' => ∃ s' H' ρ' S', LoopU (execJ P b) K n s' H' ∧ Sat ρ' S' H' w' ∧ Ev ρ S H w ρ' S' H' w' ∧ RelS ρ' s' a'.tmps.toList ∧ a'.defers = a.defers) ?_ n a w ⟨s, H, ρ, S, hU, hs, Ev.refl _ _ _ _, hr, rfl⟩
      rintro n a' w' ⟨s', H', ρ', S', hU, hs', hev, hr', hd⟩
      cases n with
      | zero => exact hU.elim
      | succ n =>
        refine wp_mono (ih s' H' _ hU ρ' S' w' a' hs' hr') fun e a2 w2 hq => ?_
        obtain ⟨ρ2, S2, s2, H2, ex, hs2, hev2, hr2, hd2, hex, hK⟩ := hq
        cases ex with
        | normal =>
          cases e <;> first | exact hex.elim | skip
          exact ⟨n, Nat.lt_succ_self n, s2, H2, ρ2, S2, hK, hs2, hev.trans hev2, hr2, hd2.trans hd⟩
        | exit n => cases e <;> first | exact hex.elim | exact ⟨ρ2, S2, s2, H2, .exit n, hs2, hev.trans hev2, hr2, hd2.trans hd, hex, hK⟩
        | ret => cases e <;> first | exact hex.elim | exact ⟨ρ2, S2, s2, H2, .ret, hs2, hev.trans hev2, hr2, hd2.trans hd, trivial, hK⟩
        | pan n => cases e <;> first | exact hex.elim | exact ⟨ρ2, S2, s2, H2, .pan n, hs2, hev.trans hev2, hr2, hd2.trans hd, hex, hK⟩
/-- What the executor shows of a function's body holds of its calls. -/
theorem specJ_of_exec {P : Program} (hm : P.follows .mixedOrders = true) {f : FuncId} {fn : Func} {c : Code} (hf : P.funcs[f]? = some fn) (hn : (fn.name == "runtime.NumGoroutine") = false) (hb : fn.body = some c)
    {args : List AV} (hl : Nat.ble args.length fn.ntmps = true) {H : List Ent} {K : Out → List Ent → Prop} (h : initK fn.ntmps args fun s => execJ P c s H (endK P fn.results.toList K)) : SpecH P f args H K := by
  refine ⟨⟨fn, hf, hn, by rw [hb]; rfl⟩, fun ρ S w vs hs hr => ?_⟩
  have hvl := RelS_len hr
  obtain ⟨s0, h, hs0⟩ := initK_rel h (Nat.le_of_ble_eq_true hl)
  have hinit : RelS ρ s0 (vs.toArray ++ Array.replicate (fn.ntmps - vs.toArray.size) undef).toList := by
    have := hs0 ρ vs hr
    simpa [hvl] using this
  refine calls_of_wp hf hb (wp_mono (execJ_sound hm c _ H _ h ρ S w ⟨_, []⟩ hs hinit) ?_)
  · intro e a w' hp
    obtain ⟨ρ1, S1, s1, H1, ex, hs1, hev, hr1, hd, hex, hK⟩ := hp
    have fin : RelS ρ1 s1 a.tmps.toList → ∀ {K' : Out → Prop}, resK P fn.results.toList s1 H1 K' → (∀ out, K' out → K out H1) → ∃ v, (results fn a.tmps).run P w' = .ok v w' ∧
        ∃ ρ' S' H' out, Sat ρ' S' H' w' ∧ Ev ρ S H w ρ' S' H' w' ∧ OutOk ρ' out (.returned v) ∧ K out H' := fun hr2 {_} hK1 hK2 => by
      obtain ⟨out, hK3, hres⟩ := resK_sound hK1
      obtain ⟨v, hrun, hv⟩ := hres ρ1 S1 w' a.tmps hs1 hr2
      exact ⟨v, hrun, ρ1, S1, H1, out, hs1, hev, hv, hK2 out hK3⟩
    cases ex with
    | normal =>
      cases e <;> first | exact hex.elim | skip
      obtain ⟨v, hrun, hR⟩ := fin hr1 (K' := fun out => K out H1) hK fun _ h => h
      exact ⟨hd, v, hrun, hR⟩
    | ret =>
      cases e <;> first | exact hex.elim | skip
      obtain ⟨v, hrun, hR⟩ := fin hr1 (K' := fun out => K out H1) hK fun _ h => h
      exact ⟨hd, v, hrun, hR⟩
    | exit n => exact hK.elim
    | pan ch =>
      cases e <;> first | exact hex.elim | skip
      have : ch = _ := hex
      subst this
      exact ⟨hd, ρ1, S1, H1, .pan ch, hs1, hev, rfl, hK⟩
theorem specFJ {P : Program} (hm : P.follows .mixedOrders = true) {f : FuncId} {fn : Func} {c : Code} (hf : P.funcs[f]? = some fn) (hn : (fn.name == "runtime.NumGoroutine") = false) (hb : fn.body = some c)
    {xs : List Value} (hl : Nat.ble (pvs xs).length fn.ntmps = true) {F : World → Prop} {R : Value → (World → Prop) → Prop} (h : initK fn.ntmps (pvs xs) fun s => execJ P c s [.fact F] (endK P fn.results.toList fun out H' => notPan out ∧ Fin R out H')) : SpecF P f xs F R :=
  specF_of (specJ_of_exec hm hf hn hb hl h)
end Go.AX

/-
  Contract: a form of picks, and items (law).
-/
namespace Go.Proofs.YtjkchonpnocffaaDoor
open Go.AX Go.RowKit Go.Pack
set_option maxRecDepth 20000

/-- A pick. -/
structure PickV where
  letter : Int
  count : Int
  int : Int
  great : Bool
  text : List UInt8
def pickC (p : PickV) : List Value := [.int .i64 p.letter, .int .i64 p.count, .int .i64 p.int, .bool p.great, .string (bs p.text)]
def picksC (l : List PickV) : List Value := l.flatMap pickC
theorem picksC_get (l : List PickV) (i j : Nat) (hj : j < 5) {p : PickV} (hp : l[i]? = some p) : (picksC l)[i * 5 + j]? = (pickC p)[j]? := by
  unfold picksC
  rw [flat_get (g := pickC) (m := 5) (fun _ => rfl) l i j hj, hp]
  rfl
def PicksF (a : Option Addr) (l : List PickV) (w : World) : Prop := SlAt a (l.length * 5) (picksC l) w
/-- Items as formed makes them. -/
def ItOk (x : Pack.Item) : Prop := x.text.length ≤ 100 ∧ -9223372036854775808 ≤ x.int ∧ x.int < 9223372036854775808
def FormedR (n : Nat) (v : Value) (G : World → Prop) : Prop := ∃ (form : List UInt8) (ds : List Dir) (i : Nat) (items : List Pack.Item) (ob : Option Nat) (cap : Nat),
  v = .tuple #[.string (bs form), .slice (at0 ob) items.length cap] ∧ i ≤ 20 ∧ i ≤ n ∧ FormOk i form ds ∧ items.length ≤ 60 ∧ (∀ x ∈ items, ItOk x) ∧ (ob = none → items = []) ∧ items.length ≤ cap ∧ ∀ w, G w → SlAt (at0 ob) (items.length * 3) (itemsC items) w
def ctsC : List Value := [.string (bs []), .string (bs [49]), .string (bs [50]), .string (bs [51]), .string (bs [42]), .string (bs [55]), .string (bs [48]), .string (bs [49, 50])]
theorem cts_get {j : Nat} (h : j < 8) : ctsC[j]? = some (.string (bs (cts.getD j []))) := by
  have h2 : j = 0 ∨ j = 1 ∨ j = 2 ∨ j = 3 ∨ j = 4 ∨ j = 5 ∨ j = 6 ∨ j = 7 := by omega
  rcases h2 with rfl | rfl | rfl | rfl | rfl | rfl | rfl | rfl <;> rfl
theorem wrap_u64m (n : Int) : IntKind.u64.wrap n = n % 18446744073709551616 := by
  simp [IntKind.wrap, IntKind.bits, IntKind.signed]
/-- A number without its sign, by its bits. -/
theorem u_nat (n : Int) : ∃ U : Nat, IntKind.u64.wrap n = (U : Int) ∧ U < 18446744073709551616 := ⟨(n % 18446744073709551616).toNat, by rw [wrap_u64m]; omega, by omega⟩
theorem lt18 (k : Nat) (h : k < 18) : (letters.take (k + 1)).drop k = [letter18 k] := by
  have h2 : k = 0 ∨ k = 1 ∨ k = 2 ∨ k = 3 ∨ k = 4 ∨ k = 5 ∨ k = 6 ∨ k = 7 ∨ k = 8 ∨ k = 9 ∨ k = 10 ∨ k = 11 ∨ k = 12 ∨ k = 13 ∨ k = 14 ∨ k = 15 ∨ k = 16 ∨ k = 17 := by omega
  rcases h2 with rfl | rfl | rfl | rfl | rfl | rfl | rfl | rfl | rfl | rfl | rfl | rfl | rfl | rfl | rfl | rfl | rfl | rfl <;> rfl
theorem big_le (g : Bool) (k : Nat) : (bigW g k).length ≤ 1 := by
  unfold bigW
  split <;> simp
theorem cnt_le (k : Nat) {j : Nat} (h : j < 8) : (cntW k j).length ≤ 2 := by
  have h2 : j = 0 ∨ j = 1 ∨ j = 2 ∨ j = 3 ∨ j = 4 ∨ j = 5 ∨ j = 6 ∨ j = 7 := by omega
  unfold cntW
  split
  · simp
  · rcases h2 with rfl | rfl | rfl | rfl | rfl | rfl | rfl | rfl <;> decide
theorem wrap_rng (x : Int) : -9223372036854775808 ≤ IntKind.i64.wrap x ∧ IntKind.i64.wrap x < 9223372036854775808 := by
  rw [wrap_eq]
  split <;> omega
theorem av_bs {a b : List UInt8} (h : a = b) : AV.c (.v (.string (bs a))) = AV.c (.v (.string (bs b))) := by rw [h]
set_option maxHeartbeats 4000000 in
theorem formed_c (ia : Option Addr) (l : List PickV) (pcap : Nat) (ha : l ≠ [] → ia.isSome = true) (hr : ∀ p ∈ l, -9223372036854775808 ≤ p.int ∧ p.int < 9223372036854775808) :
    SpecF Tryd.prog 16 [.slice ia l.length pcap] (PicksF ia l) (FormedR l.length) := by
  refine specFJ hm Tryd.func16 (by kernel_rfl) rfl rfl ?_
  ((conv => whnf); (repeat ((first | refine BoxN.own ?_ | refine VrN.norm (wrap_i64 (by omega)) ?_ | refine VrN.keep ?_ | refine DrawN.calm (by decide +kernel) ?_ | refine Nd.mk (by decide +kernel) ?_ | refine Nd.mk (by omega) ?_ | (refine Nd.mk ?_ ?_; focus ((repeat' (first | exact trivial | exact wkE_refl _ | refine And.intro ?_ ?_)); done)) | refine RdN.intro _ rfl (by rfl) ?_); (conv => whnf))))
  repeat (refine SeqN.plain ?_; ((conv => whnf); (repeat ((first | refine BoxN.own ?_ | refine VrN.norm (wrap_i64 (by omega)) ?_ | refine VrN.keep ?_ | refine DrawN.calm (by decide +kernel) ?_ | refine Nd.mk (by decide +kernel) ?_ | refine Nd.mk (by omega) ?_ | (refine Nd.mk ?_ ?_; focus ((repeat' (first | exact trivial | exact wkE_refl _ | refine And.intro ?_ ?_)); done)) | refine RdN.intro _ rfl (by rfl) ?_); (conv => whnf)))))
  refine RwN.known ctsC rfl fun cb => ?_
  ((conv => whnf); (repeat ((first | refine SeqN.plain ?_ | refine BoxN.own ?_ | refine RwN.own ?_ | refine VrN.norm (wrap_i64 (by omega)) ?_ | refine VrN.keep ?_ | refine DrawN.calm (by decide +kernel) ?_ | refine Nd.mk (by decide +kernel) ?_ | refine Nd.mk (by omega) ?_ | (refine Nd.mk ?_ ?_; focus ((repeat' (first | exact trivial | exact wkE_refl _ | refine And.intro ?_ ?_)); done)) | refine RdN.intro _ rfl (by rfl) ?_); (conv => whnf))))
  refine LoopN.intro (Nat × List UInt8 × List Dir × List Pack.Item × Option Nat × Nat) (fun ⟨i, form, ds, items, ob, cap⟩ => i ≤ 20 ∧ i ≤ l.length ∧ FormOk i form ds ∧ items.length ≤ 3 * i ∧ (∀ x ∈ items, ItOk x) ∧ ((ob = none → items = [] ∧ cap = 0) ∧ items.length ≤ cap))
    (fun ⟨i, form, _, items, ob, cap⟩ => mkS Tryd.f16.ntmps 0 [(0, .c (.v (.slice ia l.length pcap))), (4, .c (.v (.string (bs form)))), (5, .c (.v (.slice (at0 ob) items.length cap))), (6, .c (.v (.slice (some ⟨cb, 0, none⟩) 8 8))), (7, .c (.v (.int .i64 (i : Int))))])
    (fun ⟨_, _, _, items, ob, cap⟩ => [.fact (PicksF ia l), .app 9 1 ctsC (some ⟨cb, 0, none⟩) 8 8, .app 49 3 (itemsC items) (at0 ob) items.length cap]) (fun ⟨i, _, _, _, _, _⟩ => 20 - i) [.app 0 0 [] none 0 0] rfl
    (fun _ => rfl) (fun _ => rfl) (fun _ _ => okHB_eq rfl) ⟨(0, [], [], [], none, 0), ⟨Nat.zero_le _, Nat.zero_le _, FormOk.nil, Nat.zero_le _, fun _ h => (by cases h), ⟨fun _ => ⟨rfl, rfl⟩, Nat.le_refl _⟩⟩, ?_, ?_⟩ ?_
  · (repeat' (first | exact trivial | refine And.intro (by with_reducible rfl) ?_ | (with_reducible exact wkC_refl _) | (with_reducible exact wkCs_refl _) | refine And.intro ?_ ?_))
    all_goals rfl
  · exact ⟨wkE_refl _, wkE_refl _, wkE_nil, wkH_nil _⟩
  rintro ⟨i, form, ds, items, ob, cap⟩ ⟨hi20, hil, hfo, hit, hio, hob⟩
  ((conv => whnf); (repeat ((first | refine SeqN.plain ?_ | refine BoxN.own ?_ | refine RwN.own ?_ | refine VrN.norm (wrap_i64 (by omega)) ?_ | refine VrN.keep ?_ | refine DrawN.calm (by decide +kernel) ?_ | refine Nd.mk (by decide +kernel) ?_ | refine Nd.mk (by omega) ?_ | (refine Nd.mk ?_ ?_; focus ((repeat' (first | exact trivial | exact wkE_refl _ | refine And.intro ?_ ?_)); done)) | refine RdN.intro _ rfl (by rfl) ?_); (conv => whnf))))
  refine brd_dec (fun h1 => ?_) (fun h1 => ?_)
  · ((conv => whnf); (repeat ((first | refine SeqN.plain ?_ | refine BoxN.own ?_ | refine RwN.own ?_ | refine VrN.norm (wrap_i64 (by omega)) ?_ | refine VrN.keep ?_ | refine DrawN.calm (by decide +kernel) ?_ | refine Nd.mk (by decide +kernel) ?_ | refine Nd.mk (by omega) ?_ | (refine Nd.mk ?_ ?_; focus ((repeat' (first | exact trivial | exact wkE_refl _ | refine And.intro ?_ ?_)); done)) | refine RdN.intro _ rfl (by rfl) ?_); (conv => whnf))))
    refine brd_dec (fun h2 => ?_) (fun h2 => ?_)
    · obtain ⟨p, hp⟩ : ∃ p, l[i]? = some p := ⟨_, List.getElem?_eq_getElem (by omega)⟩
      have hpr := hr p (List.mem_of_getElem? hp)
      have hsa : ia.isSome = true := ha (fun h => by rw [h] at hp; cases hp)
      obtain ⟨U, hU, hUl⟩ := u_nat p.letter
      obtain ⟨V, hV, hVl⟩ := u_nat p.count
      have hU18 : (U : Int).tmod 18 = ((U % 18 : Nat) : Int) := (Int.ofNat_tmod U 18).symm
      have hV8 : (V : Int).tmod 8 = ((V % 8 : Nat) : Int) := (Int.ofNat_tmod V 8).symm
      have hV16 : (V : Int).tmod 16 = ((V % 16 : Nat) : Int) := (Int.ofNat_tmod V 16).symm
      have hi3 : (i : Int).tmod 3 = ((i % 3 : Nat) : Int) := (Int.ofNat_tmod i 3).symm
      have hk18 : U % 18 < 18 := Nat.mod_lt _ (by decide)
      have hj8 : V % 8 < 8 := Nat.mod_lt _ (by decide)
      have hK : IntKind.i64.wrap ((IntKind.u64.wrap p.letter).tmod 18) = ((U % 18 : Nat) : Int) := by rw [hU, hU18, wrap_i64 (by omega)]
      have hJ : IntKind.i64.wrap ((IntKind.u64.wrap p.count).tmod 8) = ((V % 8 : Nat) : Int) := by rw [hV, hV8, wrap_i64 (by omega)]
      have hS : (IntKind.u64.wrap p.count).tmod 16 = ((V % 16 : Nat) : Int) := by rw [hV, hV16]
      clear hU18 hV8 hV16 hU hV
      generalize hkk : U % 18 = k at *
      generalize hjj : V % 8 = j at *
      have hlt := lt18 k hk18
      have hfs := hfo.size
      ((conv => whnf); (repeat ((first | refine SeqN.plain ?_ | refine BoxN.own ?_ | refine RwN.own ?_ | refine VrN.norm (wrap_i64 (by omega)) ?_ | refine VrN.keep ?_ | refine DrawN.calm (by decide +kernel) ?_ | refine Nd.mk (by decide +kernel) ?_ | refine Nd.mk (by omega) ?_ | (refine Nd.mk ?_ ?_; focus ((repeat' (first | exact trivial | exact wkE_refl _ | refine And.intro ?_ ?_)); done)) | refine RdN.intro _ rfl (by rfl) ?_); (conv => whnf))))
      refine Nd.mk ⟨hsa, by omega, by omega⟩ ?_
      (first | refine wX ?_ | exact wZ)
      refine LdN.fld (.int .i64 p.letter) rfl (fun w hw => hw.1) (by rw [Int.toNat_natCast]; exact picksC_get l i 0 (by decide) hp) ?_
      (first | refine wX ?_ | exact wZ)
      rw [hK]
      ((conv => whnf); (repeat ((first | refine SeqN.plain ?_ | refine BoxN.own ?_ | refine RwN.own ?_ | refine VrN.norm (wrap_i64 (by omega)) ?_ | refine VrN.keep ?_ | refine DrawN.calm (by decide +kernel) ?_ | refine Nd.mk (by decide +kernel) ?_ | refine Nd.mk (by omega) ?_ | (refine Nd.mk ?_ ?_; focus ((repeat' (first | exact trivial | exact wkE_refl _ | refine And.intro ?_ ?_)); done)) | refine RdN.intro _ rfl (by rfl) ?_); (conv => whnf))))
      refine ReadW.sl_lh k (k + 1) rfl Tryd.underlying9 rfl rfl rfl ⟨rfl, by first | omega | (rw [wrap_i64 (by omega)]; omega), by omega, by show k + 1 ≤ 18; omega⟩ ?_
      rw [show List.drop k (List.take (k + 1) [67, 99, 83, 115, 76, 108, 81, 113, 110, 78, 119, 85, 97, 65, 90, 72, 120, 64]) = [letter18 k] from hlt]
      ((conv => whnf); (repeat ((first | refine SeqN.plain ?_ | refine BoxN.own ?_ | refine RwN.own ?_ | refine VrN.norm (wrap_i64 (by omega)) ?_ | refine VrN.keep ?_ | refine DrawN.calm (by decide +kernel) ?_ | refine Nd.mk (by decide +kernel) ?_ | refine Nd.mk (by omega) ?_ | (refine Nd.mk ?_ ?_; focus ((repeat' (first | exact trivial | exact wkE_refl _ | refine And.intro ?_ ?_)); done)) | refine RdN.intro _ rfl (by rfl) ?_); (conv => whnf))))
      refine Nd.mk (by rw [bs_size, bs_size]; show form.length + 1 < _; omega) ?_
      rw [bs_app]
      (first | refine wX ?_ | exact wZ)
      refine SeqN.join Unit (fun _ => True) (fun _ => mkS Tryd.f16.ntmps 0 [(0, .c (.v (.slice ia l.length pcap))), (4, .c (.v (.string (bs (form ++ [letter18 k] ++ bigW p.great k))))), (5, .c (.v (.slice (at0 ob) items.length cap))), (6, .c (.v (.slice (some ⟨cb, 0, none⟩) 8 8))), (7, .c (.v (.int .i64 (i : Int)))), (8, .c (.v (.int .i64 (k : Int)))), (9, .c (.v (.string (bs [letter18 k]))))]) (fun _ => [.fact (PicksF ia l), .app 9 1 ctsC (some ⟨cb, 0, none⟩) 8 8, .app 49 3 (itemsC items) (at0 ob) items.length cap]) (fun _ _ => Nat.le_refl _) (fun _ _ => rfl) (fun _ _ => okHB_eq rfl) ?_ ?_
      · ((conv => whnf); (repeat ((first | refine SeqN.plain ?_ | refine BoxN.own ?_ | refine RwN.own ?_ | refine VrN.norm (wrap_i64 (by omega)) ?_ | refine VrN.keep ?_ | refine DrawN.calm (by decide +kernel) ?_ | refine Nd.mk (by decide +kernel) ?_ | refine Nd.mk (by omega) ?_ | (refine Nd.mk ?_ ?_; focus ((repeat' (first | exact trivial | exact wkE_refl _ | refine And.intro ?_ ?_)); done)) | refine RdN.intro _ rfl (by rfl) ?_); (conv => whnf))))
        refine Nd.mk ⟨hsa, by omega, by omega⟩ ?_
        (first | refine wX ?_ | exact wZ)
        refine LdN.fld (.bool p.great) rfl (fun w hw => hw.1) (by rw [Int.toNat_natCast]; exact picksC_get l i 3 (by decide) hp) ?_
        (first | refine wX ?_ | exact wZ)
        cases hg : p.great with
        | false =>
          ((conv => whnf); (repeat ((first | refine SeqN.plain ?_ | refine BoxN.own ?_ | refine RwN.own ?_ | refine VrN.norm (wrap_i64 (by omega)) ?_ | refine VrN.keep ?_ | refine DrawN.calm (by decide +kernel) ?_ | refine Nd.mk (by decide +kernel) ?_ | refine Nd.mk (by omega) ?_ | (refine Nd.mk ?_ ?_; focus ((repeat' (first | exact trivial | exact wkE_refl _ | refine And.intro ?_ ?_)); done)) | refine RdN.intro _ rfl (by rfl) ?_); (conv => whnf))))
          refine ⟨(), trivial, ?_, ⟨wkE_refl _, wkE_refl _, wkE_refl _, wkH_nil _⟩⟩
          (repeat' (first | exact trivial | refine And.intro (by with_reducible rfl) ?_ | (with_reducible exact wkC_refl _) | (with_reducible exact wkCs_refl _) | refine And.intro ?_ ?_))
          all_goals first | rfl | exact av_bs (by simp [bigW])
        | true =>
          ((conv => whnf); (repeat ((first | refine SeqN.plain ?_ | refine BoxN.own ?_ | refine RwN.own ?_ | refine VrN.norm (wrap_i64 (by omega)) ?_ | refine VrN.keep ?_ | refine DrawN.calm (by decide +kernel) ?_ | refine Nd.mk (by decide +kernel) ?_ | refine Nd.mk (by omega) ?_ | (refine Nd.mk ?_ ?_; focus ((repeat' (first | exact trivial | exact wkE_refl _ | refine And.intro ?_ ?_)); done)) | refine RdN.intro _ rfl (by rfl) ?_); (conv => whnf))))
          refine brd_dec (fun h3 => ?_) (fun h3 => ?_)
          · ((conv => whnf); (repeat ((first | refine SeqN.plain ?_ | refine BoxN.own ?_ | refine RwN.own ?_ | refine VrN.norm (wrap_i64 (by omega)) ?_ | refine VrN.keep ?_ | refine DrawN.calm (by decide +kernel) ?_ | refine Nd.mk (by decide +kernel) ?_ | refine Nd.mk (by omega) ?_ | (refine Nd.mk ?_ ?_; focus ((repeat' (first | exact trivial | exact wkE_refl _ | refine And.intro ?_ ?_)); done)) | refine RdN.intro _ rfl (by rfl) ?_); (conv => whnf))))
            refine brd_dec (fun h4 => ?_) (fun h4 => ?_)
            · ((conv => whnf); (repeat ((first | refine SeqN.plain ?_ | refine BoxN.own ?_ | refine RwN.own ?_ | refine VrN.norm (wrap_i64 (by omega)) ?_ | refine VrN.keep ?_ | refine DrawN.calm (by decide +kernel) ?_ | refine Nd.mk (by decide +kernel) ?_ | refine Nd.mk (by omega) ?_ | (refine Nd.mk ?_ ?_; focus ((repeat' (first | exact trivial | exact wkE_refl _ | refine And.intro ?_ ?_)); done)) | refine RdN.intro _ rfl (by rfl) ?_); (conv => whnf))))
              refine Nd.mk (by rw [bs_size]; simp only [List.length_append, List.length_cons, List.length_nil]; show form.length + 1 + 1 < _; omega) ?_
              rw [show (⟨#[62]⟩ : ByteArray) = bs [62] from rfl, bs_app]
              ((conv => whnf); (repeat ((first | refine SeqN.plain ?_ | refine BoxN.own ?_ | refine RwN.own ?_ | refine VrN.norm (wrap_i64 (by omega)) ?_ | refine VrN.keep ?_ | refine DrawN.calm (by decide +kernel) ?_ | refine Nd.mk (by decide +kernel) ?_ | refine Nd.mk (by omega) ?_ | (refine Nd.mk ?_ ?_; focus ((repeat' (first | exact trivial | exact wkE_refl _ | refine And.intro ?_ ?_)); done)) | refine RdN.intro _ rfl (by rfl) ?_); (conv => whnf))))
              refine ⟨(), trivial, ?_, ⟨wkE_refl _, wkE_refl _, wkE_refl _, wkH_nil _⟩⟩
              (repeat' (first | exact trivial | refine And.intro (by with_reducible rfl) ?_ | (with_reducible exact wkC_refl _) | (with_reducible exact wkCs_refl _) | refine And.intro ?_ ?_))
              all_goals first | rfl | exact av_bs (by simp [bigW, show 2 ≤ k by omega, show k < 8 by omega])
            · ((conv => whnf); (repeat ((first | refine SeqN.plain ?_ | refine BoxN.own ?_ | refine RwN.own ?_ | refine VrN.norm (wrap_i64 (by omega)) ?_ | refine VrN.keep ?_ | refine DrawN.calm (by decide +kernel) ?_ | refine Nd.mk (by decide +kernel) ?_ | refine Nd.mk (by omega) ?_ | (refine Nd.mk ?_ ?_; focus ((repeat' (first | exact trivial | exact wkE_refl _ | refine And.intro ?_ ?_)); done)) | refine RdN.intro _ rfl (by rfl) ?_); (conv => whnf))))
              refine ⟨(), trivial, ?_, ⟨wkE_refl _, wkE_refl _, wkE_refl _, wkH_nil _⟩⟩
              (repeat' (first | exact trivial | refine And.intro (by with_reducible rfl) ?_ | (with_reducible exact wkC_refl _) | (with_reducible exact wkCs_refl _) | refine And.intro ?_ ?_))
              all_goals first | rfl | exact av_bs (by simp [bigW, show ¬ k < 8 by omega])
          · ((conv => whnf); (repeat ((first | refine SeqN.plain ?_ | refine BoxN.own ?_ | refine RwN.own ?_ | refine VrN.norm (wrap_i64 (by omega)) ?_ | refine VrN.keep ?_ | refine DrawN.calm (by decide +kernel) ?_ | refine Nd.mk (by decide +kernel) ?_ | refine Nd.mk (by omega) ?_ | (refine Nd.mk ?_ ?_; focus ((repeat' (first | exact trivial | exact wkE_refl _ | refine And.intro ?_ ?_)); done)) | refine RdN.intro _ rfl (by rfl) ?_); (conv => whnf))))
            refine ⟨(), trivial, ?_, ⟨wkE_refl _, wkE_refl _, wkE_refl _, wkH_nil _⟩⟩
            (repeat' (first | exact trivial | refine And.intro (by with_reducible rfl) ?_ | (with_reducible exact wkC_refl _) | (with_reducible exact wkCs_refl _) | refine And.intro ?_ ?_))
            all_goals first | rfl | exact av_bs (by simp [bigW, show ¬ 2 ≤ k by omega])
      intro _ _
      ((conv => whnf); (repeat ((first | refine SeqN.plain ?_ | refine BoxN.own ?_ | refine RwN.own ?_ | refine VrN.norm (wrap_i64 (by omega)) ?_ | refine VrN.keep ?_ | refine DrawN.calm (by decide +kernel) ?_ | refine Nd.mk (by decide +kernel) ?_ | refine Nd.mk (by omega) ?_ | (refine Nd.mk ?_ ?_; focus ((repeat' (first | exact trivial | exact wkE_refl _ | refine And.intro ?_ ?_)); done)) | refine RdN.intro _ rfl (by rfl) ?_); (conv => whnf))))
      refine Nd.mk ⟨hsa, by omega, by omega⟩ ?_
      (first | refine wX ?_ | exact wZ)
      refine LdN.fld (.int .i64 p.count) rfl (fun w hw => hw.1) (by rw [Int.toNat_natCast]; exact picksC_get l i 1 (by decide) hp) ?_
      (first | refine wX ?_ | exact wZ)
      try rw [hJ]
      refine Nd.mk ⟨rfl, by first | omega | (rw [hJ]; omega), by first | (show (j : Int) < 8; omega) | (rw [hJ]; show (j : Int) < 8; omega)⟩ ?_
      (first | refine wX ?_ | exact wZ)
      refine LdN.one (.string (bs (cts.getD j []))) rfl (fun w hw => hw.2.1) (by show ctsC[Int.toNat _ * 1]? = _; (first | rw [Int.toNat_natCast, Nat.mul_one] | rw [hJ, Int.toNat_natCast, Nat.mul_one]); exact cts_get hj8) ?_
      (first | refine wX ?_ | exact wZ)
      refine SeqN.join Unit (fun _ => True) (fun _ => mkS Tryd.f16.ntmps 0 [(0, .c (.v (.slice ia l.length pcap))), (4, .c (.v (.string (bs (form ++ [letter18 k] ++ bigW p.great k))))), (5, .c (.v (.slice (at0 ob) items.length cap))), (6, .c (.v (.slice (some ⟨cb, 0, none⟩) 8 8))), (7, .c (.v (.int .i64 (i : Int)))), (8, .c (.v (.int .i64 (k : Int)))), (9, .c (.v (.string (bs [letter18 k])))), (10, .c (.v (.string (bs (cntW k j)))))]) (fun _ => [.fact (PicksF ia l), .app 9 1 ctsC (some ⟨cb, 0, none⟩) 8 8, .app 49 3 (itemsC items) (at0 ob) items.length cap]) (fun _ _ => Nat.le_refl _) (fun _ _ => rfl) (fun _ _ => okHB_eq rfl) ?_ ?_
      · have h8 : j = 0 ∨ j = 1 ∨ j = 2 ∨ j = 3 ∨ j = 5 ∨ j = 7 ∨ j = 4 ∨ j = 6 := by omega
        clear hjj hJ hj8
        rcases h8 with rfl | rfl | rfl | rfl | rfl | rfl | rfl | rfl
        iterate 6
          · ((conv => whnf); (repeat ((first | refine SeqN.plain ?_ | refine BoxN.own ?_ | refine RwN.own ?_ | refine VrN.norm (wrap_i64 (by omega)) ?_ | refine VrN.keep ?_ | refine DrawN.calm (by decide +kernel) ?_ | refine Nd.mk (by decide +kernel) ?_ | refine Nd.mk (by omega) ?_ | (refine Nd.mk ?_ ?_; focus ((repeat' (first | exact trivial | exact wkE_refl _ | refine And.intro ?_ ?_)); done)) | refine RdN.intro _ rfl (by rfl) ?_); (conv => whnf))))
            refine ⟨(), trivial, ?_, ⟨wkE_refl _, wkE_refl _, wkE_refl _, wkH_nil _⟩⟩
            (repeat' (first | exact trivial | refine And.intro (by with_reducible rfl) ?_ | (with_reducible exact wkC_refl _) | (with_reducible exact wkCs_refl _) | refine And.intro ?_ ?_))
            all_goals first | rfl | exact av_bs (by simp [cntW, cts])
        · ((conv => whnf); (repeat ((first | refine SeqN.plain ?_ | refine BoxN.own ?_ | refine RwN.own ?_ | refine VrN.norm (wrap_i64 (by omega)) ?_ | refine VrN.keep ?_ | refine DrawN.calm (by decide +kernel) ?_ | refine Nd.mk (by decide +kernel) ?_ | refine Nd.mk (by omega) ?_ | (refine Nd.mk ?_ ?_; focus ((repeat' (first | exact trivial | exact wkE_refl _ | refine And.intro ?_ ?_)); done)) | refine RdN.intro _ rfl (by rfl) ?_); (conv => whnf))))
          refine brd_dec (fun h3 => ?_) (fun h3 => ?_)
          · ((conv => whnf); (repeat ((first | refine SeqN.plain ?_ | refine BoxN.own ?_ | refine RwN.own ?_ | refine VrN.norm (wrap_i64 (by omega)) ?_ | refine VrN.keep ?_ | refine DrawN.calm (by decide +kernel) ?_ | refine Nd.mk (by decide +kernel) ?_ | refine Nd.mk (by omega) ?_ | (refine Nd.mk ?_ ?_; focus ((repeat' (first | exact trivial | exact wkE_refl _ | refine And.intro ?_ ?_)); done)) | refine RdN.intro _ rfl (by rfl) ?_); (conv => whnf))))
            refine ⟨(), trivial, ?_, ⟨wkE_refl _, wkE_refl _, wkE_refl _, wkH_nil _⟩⟩
            (repeat' (first | exact trivial | refine And.intro (by with_reducible rfl) ?_ | (with_reducible exact wkC_refl _) | (with_reducible exact wkCs_refl _) | refine And.intro ?_ ?_))
            all_goals first | rfl | exact av_bs (by simp [cntW, cts, show 16 ≤ k by omega])
          · ((conv => whnf); (repeat ((first | refine SeqN.plain ?_ | refine BoxN.own ?_ | refine RwN.own ?_ | refine VrN.norm (wrap_i64 (by omega)) ?_ | refine VrN.keep ?_ | refine DrawN.calm (by decide +kernel) ?_ | refine Nd.mk (by decide +kernel) ?_ | refine Nd.mk (by omega) ?_ | (refine Nd.mk ?_ ?_; focus ((repeat' (first | exact trivial | exact wkE_refl _ | refine And.intro ?_ ?_)); done)) | refine RdN.intro _ rfl (by rfl) ?_); (conv => whnf))))
            refine ⟨(), trivial, ?_, ⟨wkE_refl _, wkE_refl _, wkE_refl _, wkH_nil _⟩⟩
            (repeat' (first | exact trivial | refine And.intro (by with_reducible rfl) ?_ | (with_reducible exact wkC_refl _) | (with_reducible exact wkCs_refl _) | refine And.intro ?_ ?_))
            all_goals first | rfl | exact av_bs (by simp [cntW, cts, show ¬ 16 ≤ k by omega])
        · by_cases he : letter18 k = 64
          · have hc : cntW k 6 = [48] := by unfold cntW; rw [he]; rfl
            rw [he, hc]
            ((conv => whnf); (repeat ((first | refine SeqN.plain ?_ | refine BoxN.own ?_ | refine RwN.own ?_ | refine VrN.norm (wrap_i64 (by omega)) ?_ | refine VrN.keep ?_ | refine DrawN.calm (by decide +kernel) ?_ | refine Nd.mk (by decide +kernel) ?_ | refine Nd.mk (by omega) ?_ | (refine Nd.mk ?_ ?_; focus ((repeat' (first | exact trivial | exact wkE_refl _ | refine And.intro ?_ ?_)); done)) | refine RdN.intro _ rfl (by rfl) ?_); (conv => whnf))))
            refine ⟨(), trivial, ?_, ⟨wkE_refl _, wkE_refl _, wkE_refl _, wkH_nil _⟩⟩
            (repeat' (first | exact trivial | refine And.intro (by with_reducible rfl) ?_ | (with_reducible exact wkC_refl _) | (with_reducible exact wkCs_refl _) | refine And.intro ?_ ?_))
            all_goals first | rfl | exact av_bs (by simp [cts])
          · have hc : cntW k 6 = [] := by simp [cntW, cts, he]
            rw [hc]
            ((conv => whnf); (repeat ((first | refine SeqN.plain ?_ | refine BoxN.own ?_ | refine RwN.own ?_ | refine VrN.norm (wrap_i64 (by omega)) ?_ | refine VrN.keep ?_ | refine DrawN.calm (by decide +kernel) ?_ | refine Nd.mk (by decide +kernel) ?_ | refine Nd.mk (by omega) ?_ | (refine Nd.mk ?_ ?_; focus ((repeat' (first | exact trivial | exact wkE_refl _ | refine And.intro ?_ ?_)); done)) | refine RdN.intro _ rfl (by rfl) ?_); (conv => whnf))))
            refine brdT (show (!([letter18 k] == [(64 : UInt8)])) = true by simp [he]) ?_
            ((conv => whnf); (repeat ((first | refine SeqN.plain ?_ | refine BoxN.own ?_ | refine RwN.own ?_ | refine VrN.norm (wrap_i64 (by omega)) ?_ | refine VrN.keep ?_ | refine DrawN.calm (by decide +kernel) ?_ | refine Nd.mk (by decide +kernel) ?_ | refine Nd.mk (by omega) ?_ | (refine Nd.mk ?_ ?_; focus ((repeat' (first | exact trivial | exact wkE_refl _ | refine And.intro ?_ ?_)); done)) | refine RdN.intro _ rfl (by rfl) ?_); (conv => whnf))))
            refine ⟨(), trivial, ?_, ⟨wkE_refl _, wkE_refl _, wkE_refl _, wkH_nil _⟩⟩
            (repeat' (first | exact trivial | refine And.intro (by with_reducible rfl) ?_ | (with_reducible exact wkC_refl _) | (with_reducible exact wkCs_refl _) | refine And.intro ?_ ?_))
            all_goals first | rfl | exact av_bs (by rfl)
      intro _ _
      have hbl := big_le p.great k
      have hcl := cnt_le k hj8
      (first | refine wX ?_ | exact wZ)
      refine SeqN.plain ?_
      (first | refine wX ?_ | exact wZ)
      refine Nd.mk (by rw [bs_size, bs_size]; simp only [List.length_append, List.length_cons, List.length_nil]; omega) ?_
      rw [bs_app]
      (first | refine wX ?_ | exact wZ)
      refine SeqN.join Unit (fun _ => True) (fun _ => mkS Tryd.f16.ntmps 0 [(0, .c (.v (.slice ia l.length pcap))), (6, .c (.v (.slice (some ⟨cb, 0, none⟩) 8 8))), (7, .c (.v (.int .i64 (i : Int)))), (8, .c (.v (.int .i64 (k : Int)))), (9, .c (.v (.string (bs [letter18 k])))), (4, .c (.v (.string (bs (form ++ piece k p.great j (decide (i % 3 = 1))))))), (5, .c (.v (.slice (at0 ob) items.length cap))), (10, .c (.v (.string (bs (cntW k j)))))]) (fun _ => [.fact (PicksF ia l), .app 9 1 ctsC (some ⟨cb, 0, none⟩) 8 8, .app 49 3 (itemsC items) (at0 ob) items.length cap]) (fun _ _ => Nat.le_refl _) (fun _ _ => rfl) (fun _ _ => okHB_eq rfl) ?_ ?_
      · ((conv => whnf); (repeat ((first | refine SeqN.plain ?_ | refine BoxN.own ?_ | refine RwN.own ?_ | refine VrN.norm (wrap_i64 (by omega)) ?_ | refine VrN.keep ?_ | refine DrawN.calm (by decide +kernel) ?_ | refine Nd.mk (by decide +kernel) ?_ | refine Nd.mk (by omega) ?_ | (refine Nd.mk ?_ ?_; focus ((repeat' (first | exact trivial | exact wkE_refl _ | refine And.intro ?_ ?_)); done)) | refine RdN.intro _ rfl (by rfl) ?_); (conv => whnf))))
        rw [hi3]
        refine brd_eq (fun h3 => ?_) (fun h3 => ?_)
        · ((conv => whnf); (repeat ((first | refine SeqN.plain ?_ | refine BoxN.own ?_ | refine RwN.own ?_ | refine VrN.norm (wrap_i64 (by omega)) ?_ | refine VrN.keep ?_ | refine DrawN.calm (by decide +kernel) ?_ | refine Nd.mk (by decide +kernel) ?_ | refine Nd.mk (by omega) ?_ | (refine Nd.mk ?_ ?_; focus ((repeat' (first | exact trivial | exact wkE_refl _ | refine And.intro ?_ ?_)); done)) | refine RdN.intro _ rfl (by rfl) ?_); (conv => whnf))))
          refine Nd.mk (by rw [bs_size]; simp only [List.length_append, List.length_cons, List.length_nil]; show _ + 1 < _; omega) ?_
          rw [show (⟨#[32]⟩ : ByteArray) = bs [32] from rfl, bs_app]
          ((conv => whnf); (repeat ((first | refine SeqN.plain ?_ | refine BoxN.own ?_ | refine RwN.own ?_ | refine VrN.norm (wrap_i64 (by omega)) ?_ | refine VrN.keep ?_ | refine DrawN.calm (by decide +kernel) ?_ | refine Nd.mk (by decide +kernel) ?_ | refine Nd.mk (by omega) ?_ | (refine Nd.mk ?_ ?_; focus ((repeat' (first | exact trivial | exact wkE_refl _ | refine And.intro ?_ ?_)); done)) | refine RdN.intro _ rfl (by rfl) ?_); (conv => whnf))))
          refine ⟨(), trivial, ?_, ⟨wkE_refl _, wkE_refl _, wkE_refl _, wkH_nil _⟩⟩
          (repeat' (first | exact trivial | refine And.intro (by with_reducible rfl) ?_ | (with_reducible exact wkC_refl _) | (with_reducible exact wkCs_refl _) | refine And.intro ?_ ?_))
          all_goals first | rfl | exact av_bs (by simp [piece, show i % 3 = 1 by omega])
        · ((conv => whnf); (repeat ((first | refine SeqN.plain ?_ | refine BoxN.own ?_ | refine RwN.own ?_ | refine VrN.norm (wrap_i64 (by omega)) ?_ | refine VrN.keep ?_ | refine DrawN.calm (by decide +kernel) ?_ | refine Nd.mk (by decide +kernel) ?_ | refine Nd.mk (by omega) ?_ | (refine Nd.mk ?_ ?_; focus ((repeat' (first | exact trivial | exact wkE_refl _ | refine And.intro ?_ ?_)); done)) | refine RdN.intro _ rfl (by rfl) ?_); (conv => whnf))))
          refine ⟨(), trivial, ?_, ⟨wkE_refl _, wkE_refl _, wkE_refl _, wkH_nil _⟩⟩
          (repeat' (first | exact trivial | refine And.intro (by with_reducible rfl) ?_ | (with_reducible exact wkC_refl _) | (with_reducible exact wkCs_refl _) | refine And.intro ?_ ?_))
          all_goals first | rfl | exact av_bs (by simp [piece, show ¬ i % 3 = 1 by omega])
      intro _ _
      obtain ⟨ds2, hfo2⟩ := hfo.step k j p.great (decide (i % 3 = 1)) hk18 hj8
      generalize form ++ piece k p.great j (decide (i % 3 = 1)) = F at *
      generalize cntW k j = C at *
      (first | refine wX ?_ | exact wZ)
      refine SeqN.plain ?_
      ((conv => whnf); (repeat ((first | refine SeqN.plain ?_ | refine BoxN.own ?_ | refine RwN.own ?_ | refine VrN.norm (wrap_i64 (by omega)) ?_ | refine VrN.keep ?_ | refine DrawN.calm (by decide +kernel) ?_ | refine Nd.mk (by decide +kernel) ?_ | refine Nd.mk (by omega) ?_ | (refine Nd.mk ?_ ?_; focus ((repeat' (first | exact trivial | exact wkE_refl _ | refine And.intro ?_ ?_)); done)) | refine RdN.intro _ rfl (by rfl) ?_); (conv => whnf))))
      refine brd_dec (fun h3 => ?_) (fun h3 => ?_)
      · ((conv => whnf); (repeat ((first | refine SeqN.plain ?_ | refine BoxN.own ?_ | refine RwN.own ?_ | refine VrN.norm (wrap_i64 (by omega)) ?_ | refine VrN.keep ?_ | refine DrawN.calm (by decide +kernel) ?_ | refine Nd.mk (by decide +kernel) ?_ | refine Nd.mk (by omega) ?_ | (refine Nd.mk ?_ ?_; focus ((repeat' (first | exact trivial | exact wkE_refl _ | refine And.intro ?_ ?_)); done)) | refine RdN.intro _ rfl (by rfl) ?_); (conv => whnf))))
        refine ⟨(i + 1, F, ds2, items, ob, cap), ⟨by omega, by omega, hfo2, by omega, hio, hob⟩, by show 20 - (i + 1) < 20 - i; omega, ?_, ⟨wkE_refl _, wkE_refl _, wkE_refl _, wkH_nil _⟩⟩
        (repeat' (first | exact trivial | refine And.intro (by with_reducible rfl) ?_ | (with_reducible exact wkC_refl _) | (with_reducible exact wkCs_refl _) | refine And.intro ?_ ?_))
        all_goals first | rfl | exact av_int (by first | omega | (rw [wrap_i64 (by omega)]; omega))
      · (first | refine wX ?_ | exact wZ)
        refine SeqN.plain ?_
        (first | refine wX ?_ | exact wZ)
        refine Nd.mk ⟨hsa, by omega, by omega⟩ ?_
        (first | refine wX ?_ | exact wZ)
        refine LdN.fld (.int .i64 p.int) rfl (fun w hw => hw.1) (by rw [Int.toNat_natCast]; exact picksC_get l i 2 (by decide) hp) ?_
        (first | refine wX ?_ | exact wZ)
        refine SeqN.join Int (fun n => -9223372036854775808 ≤ n ∧ n < 9223372036854775808) (fun n => mkS Tryd.f16.ntmps 0 [(0, .c (.v (.slice ia l.length pcap))), (6, .c (.v (.slice (some ⟨cb, 0, none⟩) 8 8))), (7, .c (.v (.int .i64 (i : Int)))), (8, .c (.v (.int .i64 (k : Int)))), (9, .c (.v (.string (bs [letter18 k])))), (4, .c (.v (.string (bs F)))), (5, .c (.v (.slice (at0 ob) items.length cap))), (10, .c (.v (.string (bs C)))), (11, .c (.v (.int .i64 n)))]) (fun _ => [.fact (PicksF ia l), .app 9 1 ctsC (some ⟨cb, 0, none⟩) 8 8, .app 49 3 (itemsC items) (at0 ob) items.length cap]) (fun _ _ => Nat.le_refl _) (fun _ _ => rfl) (fun _ _ => okHB_eq rfl) ?_ ?_
        · ((conv => whnf); (repeat ((first | refine SeqN.plain ?_ | refine BoxN.own ?_ | refine RwN.own ?_ | refine VrN.norm (wrap_i64 (by omega)) ?_ | refine VrN.keep ?_ | refine DrawN.calm (by decide +kernel) ?_ | refine Nd.mk (by decide +kernel) ?_ | refine Nd.mk (by omega) ?_ | (refine Nd.mk ?_ ?_; focus ((repeat' (first | exact trivial | exact wkE_refl _ | refine And.intro ?_ ?_)); done)) | refine RdN.intro _ rfl (by rfl) ?_); (conv => whnf))))
          refine brd_dec (fun h4 => ?_) (fun h4 => ?_)
          · ((conv => whnf); (repeat ((first | refine SeqN.plain ?_ | refine BoxN.own ?_ | refine RwN.own ?_ | refine VrN.norm (wrap_i64 (by omega)) ?_ | refine VrN.keep ?_ | refine DrawN.calm (by decide +kernel) ?_ | refine Nd.mk (by decide +kernel) ?_ | refine Nd.mk (by omega) ?_ | (refine Nd.mk ?_ ?_; focus ((repeat' (first | exact trivial | exact wkE_refl _ | refine And.intro ?_ ?_)); done)) | refine RdN.intro _ rfl (by rfl) ?_); (conv => whnf))))
            refine Nd.mk ⟨hsa, by omega, by omega⟩ ?_
            (first | refine wX ?_ | exact wZ)
            refine LdN.fld (.int .i64 p.count) rfl (fun w hw => hw.1) (by rw [Int.toNat_natCast]; exact picksC_get l i 1 (by decide) hp) ?_
            (first | refine wX ?_ | exact wZ)
            refine brd_intro (fun _ => ?_) (fun _ => ?_)
            · ((conv => whnf); (repeat ((first | refine SeqN.plain ?_ | refine BoxN.own ?_ | refine RwN.own ?_ | refine VrN.norm (wrap_i64 (by omega)) ?_ | refine VrN.keep ?_ | refine DrawN.calm (by decide +kernel) ?_ | refine Nd.mk (by decide +kernel) ?_ | refine Nd.mk (by omega) ?_ | (refine Nd.mk ?_ ?_; focus ((repeat' (first | exact trivial | exact wkE_refl _ | refine And.intro ?_ ?_)); done)) | refine RdN.intro _ rfl (by rfl) ?_); (conv => whnf))))
              refine ⟨(IntKind.i64.wrap ((BitVec.ofInt IntKind.i64.bits p.int &&& BitVec.ofInt IntKind.i64.bits 127).toNat : Int)), wrap_rng _, ?_, ⟨wkE_refl _, wkE_refl _, wkE_refl _, wkH_nil _⟩⟩
              (repeat' (first | exact trivial | refine And.intro (by with_reducible rfl) ?_ | (with_reducible exact wkC_refl _) | (with_reducible exact wkCs_refl _) | refine And.intro ?_ ?_))
              all_goals rfl
            · ((conv => whnf); (repeat ((first | refine SeqN.plain ?_ | refine BoxN.own ?_ | refine RwN.own ?_ | refine VrN.norm (wrap_i64 (by omega)) ?_ | refine VrN.keep ?_ | refine DrawN.calm (by decide +kernel) ?_ | refine Nd.mk (by decide +kernel) ?_ | refine Nd.mk (by omega) ?_ | (refine Nd.mk ?_ ?_; focus ((repeat' (first | exact trivial | exact wkE_refl _ | refine And.intro ?_ ?_)); done)) | refine RdN.intro _ rfl (by rfl) ?_); (conv => whnf))))
              refine ⟨p.int, hpr, ?_, ⟨wkE_refl _, wkE_refl _, wkE_refl _, wkH_nil _⟩⟩
              (repeat' (first | exact trivial | refine And.intro (by with_reducible rfl) ?_ | (with_reducible exact wkC_refl _) | (with_reducible exact wkCs_refl _) | refine And.intro ?_ ?_))
              all_goals rfl
          · ((conv => whnf); (repeat ((first | refine SeqN.plain ?_ | refine BoxN.own ?_ | refine RwN.own ?_ | refine VrN.norm (wrap_i64 (by omega)) ?_ | refine VrN.keep ?_ | refine DrawN.calm (by decide +kernel) ?_ | refine Nd.mk (by decide +kernel) ?_ | refine Nd.mk (by omega) ?_ | (refine Nd.mk ?_ ?_; focus ((repeat' (first | exact trivial | exact wkE_refl _ | refine And.intro ?_ ?_)); done)) | refine RdN.intro _ rfl (by rfl) ?_); (conv => whnf))))
            refine ⟨p.int, hpr, ?_, ⟨wkE_refl _, wkE_refl _, wkE_refl _, wkH_nil _⟩⟩
            (repeat' (first | exact trivial | refine And.intro (by with_reducible rfl) ?_ | (with_reducible exact wkC_refl _) | (with_reducible exact wkCs_refl _) | refine And.intro ?_ ?_))
            all_goals rfl
        intro n hn
        (first | refine wX ?_ | exact wZ)
        refine SeqN.plain ?_
        (first | refine wX ?_ | exact wZ)
        refine Nd.mk ⟨hsa, by omega, by omega⟩ ?_
        (first | refine wX ?_ | exact wZ)
        refine LdN.fld (.string (bs p.text)) rfl (fun w hw => hw.1) (by rw [Int.toNat_natCast]; exact picksC_get l i 4 (by decide) hp) ?_
        (first | refine wX ?_ | exact wZ)
        have hzt := bs_size p.text
        refine SeqN.join (List UInt8) (fun t => t.length ≤ 50) (fun t => mkS Tryd.f16.ntmps 0 [(0, .c (.v (.slice ia l.length pcap))), (6, .c (.v (.slice (some ⟨cb, 0, none⟩) 8 8))), (7, .c (.v (.int .i64 (i : Int)))), (8, .c (.v (.int .i64 (k : Int)))), (9, .c (.v (.string (bs [letter18 k])))), (4, .c (.v (.string (bs F)))), (5, .c (.v (.slice (at0 ob) items.length cap))), (10, .c (.v (.string (bs C)))), (11, .c (.v (.int .i64 n))), (12, .c (.v (.string (bs t))))]) (fun _ => [.fact (PicksF ia l), .app 9 1 ctsC (some ⟨cb, 0, none⟩) 8 8, .app 49 3 (itemsC items) (at0 ob) items.length cap]) (fun _ _ => Nat.le_refl _) (fun _ _ => rfl) (fun _ _ => okHB_eq rfl) ?_ ?_
        · ((conv => whnf); (repeat ((first | refine SeqN.plain ?_ | refine BoxN.own ?_ | refine RwN.own ?_ | refine VrN.norm (wrap_i64 (by omega)) ?_ | refine VrN.keep ?_ | refine DrawN.calm (by decide +kernel) ?_ | refine Nd.mk (by decide +kernel) ?_ | refine Nd.mk (by omega) ?_ | (refine Nd.mk ?_ ?_; focus ((repeat' (first | exact trivial | exact wkE_refl _ | refine And.intro ?_ ?_)); done)) | refine RdN.intro _ rfl (by rfl) ?_); (conv => whnf))))
          rw [hzt]
          refine brd_dec (fun h4 => ?_) (fun h4 => ?_)
          · ((conv => whnf); (repeat ((first | refine SeqN.plain ?_ | refine BoxN.own ?_ | refine RwN.own ?_ | refine VrN.norm (wrap_i64 (by omega)) ?_ | refine VrN.keep ?_ | refine DrawN.calm (by decide +kernel) ?_ | refine Nd.mk (by decide +kernel) ?_ | refine Nd.mk (by omega) ?_ | (refine Nd.mk ?_ ?_; focus ((repeat' (first | exact trivial | exact wkE_refl _ | refine And.intro ?_ ?_)); done)) | refine RdN.intro _ rfl (by rfl) ?_); (conv => whnf))))
            refine ReadW.sl_h 50 rfl Tryd.underlying9 rfl rfl ⟨rfl, by omega⟩ ?_
            ((conv => whnf); (repeat ((first | refine SeqN.plain ?_ | refine BoxN.own ?_ | refine RwN.own ?_ | refine VrN.norm (wrap_i64 (by omega)) ?_ | refine VrN.keep ?_ | refine DrawN.calm (by decide +kernel) ?_ | refine Nd.mk (by decide +kernel) ?_ | refine Nd.mk (by omega) ?_ | (refine Nd.mk ?_ ?_; focus ((repeat' (first | exact trivial | exact wkE_refl _ | refine And.intro ?_ ?_)); done)) | refine RdN.intro _ rfl (by rfl) ?_); (conv => whnf))))
            refine ⟨(p.text.take 50), (by show (p.text.take 50).length ≤ 50; rw [List.length_take]; omega), ?_, ⟨wkE_refl _, wkE_refl _, wkE_refl _, wkH_nil _⟩⟩
            (repeat' (first | exact trivial | refine And.intro (by with_reducible rfl) ?_ | (with_reducible exact wkC_refl _) | (with_reducible exact wkCs_refl _) | refine And.intro ?_ ?_))
            all_goals rfl
          · ((conv => whnf); (repeat ((first | refine SeqN.plain ?_ | refine BoxN.own ?_ | refine RwN.own ?_ | refine VrN.norm (wrap_i64 (by omega)) ?_ | refine VrN.keep ?_ | refine DrawN.calm (by decide +kernel) ?_ | refine Nd.mk (by decide +kernel) ?_ | refine Nd.mk (by omega) ?_ | (refine Nd.mk ?_ ?_; focus ((repeat' (first | exact trivial | exact wkE_refl _ | refine And.intro ?_ ?_)); done)) | refine RdN.intro _ rfl (by rfl) ?_); (conv => whnf))))
            refine ⟨p.text, (by show p.text.length ≤ 50; omega), ?_, ⟨wkE_refl _, wkE_refl _, wkE_refl _, wkH_nil _⟩⟩
            (repeat' (first | exact trivial | refine And.intro (by with_reducible rfl) ?_ | (with_reducible exact wkC_refl _) | (with_reducible exact wkCs_refl _) | refine And.intro ?_ ?_))
            all_goals rfl
        intro t ht
        have ht2 : t.length ≤ 50 := ht
        (first | refine wX ?_ | exact wZ)
        refine SeqN.join (List UInt8) (fun t => t.length ≤ 100) (fun t => mkS Tryd.f16.ntmps 0 [(0, .c (.v (.slice ia l.length pcap))), (6, .c (.v (.slice (some ⟨cb, 0, none⟩) 8 8))), (7, .c (.v (.int .i64 (i : Int)))), (8, .c (.v (.int .i64 (k : Int)))), (9, .c (.v (.string (bs [letter18 k])))), (4, .c (.v (.string (bs F)))), (5, .c (.v (.slice (at0 ob) items.length cap))), (10, .c (.v (.string (bs C)))), (11, .c (.v (.int .i64 n))), (12, .c (.v (.string (bs t))))]) (fun _ => [.fact (PicksF ia l), .app 9 1 ctsC (some ⟨cb, 0, none⟩) 8 8, .app 49 3 (itemsC items) (at0 ob) items.length cap]) (fun _ _ => Nat.le_refl _) (fun _ _ => rfl) (fun _ _ => okHB_eq rfl) ?_ ?_
        · ((conv => whnf); (repeat ((first | refine SeqN.plain ?_ | refine BoxN.own ?_ | refine RwN.own ?_ | refine VrN.norm (wrap_i64 (by omega)) ?_ | refine VrN.keep ?_ | refine DrawN.calm (by decide +kernel) ?_ | refine Nd.mk (by decide +kernel) ?_ | refine Nd.mk (by omega) ?_ | (refine Nd.mk ?_ ?_; focus ((repeat' (first | exact trivial | exact wkE_refl _ | refine And.intro ?_ ?_)); done)) | refine RdN.intro _ rfl (by rfl) ?_); (conv => whnf))))
          refine brd_intro (fun _ => ?_) (fun _ => ?_)
          · ((conv => whnf); (repeat ((first | refine SeqN.plain ?_ | refine BoxN.own ?_ | refine RwN.own ?_ | refine VrN.norm (wrap_i64 (by omega)) ?_ | refine VrN.keep ?_ | refine DrawN.calm (by decide +kernel) ?_ | refine Nd.mk (by decide +kernel) ?_ | refine Nd.mk (by omega) ?_ | (refine Nd.mk ?_ ?_; focus ((repeat' (first | exact trivial | exact wkE_refl _ | refine And.intro ?_ ?_)); done)) | refine RdN.intro _ rfl (by rfl) ?_); (conv => whnf))))
            refine Nd.mk ⟨hsa, by omega, by omega⟩ ?_
            (first | refine wX ?_ | exact wZ)
            refine LdN.fld (.int .i64 p.count) rfl (fun w hw => hw.1) (by rw [Int.toNat_natCast]; exact picksC_get l i 1 (by decide) hp) ?_
            (first | refine wX ?_ | exact wZ)
            refine brd_intro (fun _ => ?_) (fun _ => ?_)
            · ((conv => whnf); (repeat ((first | refine SeqN.plain ?_ | refine BoxN.own ?_ | refine RwN.own ?_ | refine VrN.norm (wrap_i64 (by omega)) ?_ | refine VrN.keep ?_ | refine DrawN.calm (by decide +kernel) ?_ | refine Nd.mk (by decide +kernel) ?_ | refine Nd.mk (by omega) ?_ | (refine Nd.mk ?_ ?_; focus ((repeat' (first | exact trivial | exact wkE_refl _ | refine And.intro ?_ ?_)); done)) | refine RdN.intro _ rfl (by rfl) ?_); (conv => whnf))))
              refine call1 (Hex_r t (by omega) _) ?_
              ((conv => whnf); (repeat ((first | refine SeqN.plain ?_ | refine BoxN.own ?_ | refine RwN.own ?_ | refine VrN.norm (wrap_i64 (by omega)) ?_ | refine VrN.keep ?_ | refine DrawN.calm (by decide +kernel) ?_ | refine Nd.mk (by decide +kernel) ?_ | refine Nd.mk (by omega) ?_ | (refine Nd.mk ?_ ?_; focus ((repeat' (first | exact trivial | exact wkE_refl _ | refine And.intro ?_ ?_)); done)) | refine RdN.intro _ rfl (by rfl) ?_); (conv => whnf))))
              refine ⟨(hex t), (by show (hex t).length ≤ 100; rw [hex_len]; omega), ?_, ⟨wkE_refl _, wkE_refl _, wkE_refl _, wkH_nil _⟩⟩
              (repeat' (first | exact trivial | refine And.intro (by with_reducible rfl) ?_ | (with_reducible exact wkC_refl _) | (with_reducible exact wkCs_refl _) | refine And.intro ?_ ?_))
              all_goals rfl
            · ((conv => whnf); (repeat ((first | refine SeqN.plain ?_ | refine BoxN.own ?_ | refine RwN.own ?_ | refine VrN.norm (wrap_i64 (by omega)) ?_ | refine VrN.keep ?_ | refine DrawN.calm (by decide +kernel) ?_ | refine Nd.mk (by decide +kernel) ?_ | refine Nd.mk (by omega) ?_ | (refine Nd.mk ?_ ?_; focus ((repeat' (first | exact trivial | exact wkE_refl _ | refine And.intro ?_ ?_)); done)) | refine RdN.intro _ rfl (by rfl) ?_); (conv => whnf))))
              refine ⟨t, (by show t.length ≤ 100; omega), ?_, ⟨wkE_refl _, wkE_refl _, wkE_refl _, wkH_nil _⟩⟩
              (repeat' (first | exact trivial | refine And.intro (by with_reducible rfl) ?_ | (with_reducible exact wkC_refl _) | (with_reducible exact wkCs_refl _) | refine And.intro ?_ ?_))
              all_goals rfl
          · ((conv => whnf); (repeat ((first | refine SeqN.plain ?_ | refine BoxN.own ?_ | refine RwN.own ?_ | refine VrN.norm (wrap_i64 (by omega)) ?_ | refine VrN.keep ?_ | refine DrawN.calm (by decide +kernel) ?_ | refine Nd.mk (by decide +kernel) ?_ | refine Nd.mk (by omega) ?_ | (refine Nd.mk ?_ ?_; focus ((repeat' (first | exact trivial | exact wkE_refl _ | refine And.intro ?_ ?_)); done)) | refine RdN.intro _ rfl (by rfl) ?_); (conv => whnf))))
            refine ⟨t, (by show t.length ≤ 100; omega), ?_, ⟨wkE_refl _, wkE_refl _, wkE_refl _, wkH_nil _⟩⟩
            (repeat' (first | exact trivial | refine And.intro (by with_reducible rfl) ?_ | (with_reducible exact wkC_refl _) | (with_reducible exact wkCs_refl _) | refine And.intro ?_ ?_))
            all_goals rfl
        clear ht2 ht t
        intro t ht0
        have ht : t.length ≤ 100 := ht0
        have hn2 : -9223372036854775808 ≤ n ∧ n < 9223372036854775808 := hn
        (first | refine wX ?_ | exact wZ)
        refine SeqN.plain ?_
        (first | refine wX ?_ | exact wZ)
        try refine Nd.mk ⟨Nat.le_refl 1, rfl, rfl⟩ ?_
        (conv => whnf)
        have hx0 : ItOk ⟨decide ((k : Int) ≥ 12), n, t⟩ := ⟨ht, hn2⟩
        refine AppN.grow 2 (itemsC items) (itemC ⟨decide ((k : Int) ≥ 12), n, t⟩) rfl rfl ⟨Nat.le_refl 1, ⟨by show (items.length + 1) * 32 ≤ _; omega, by omega⟩, by show 3 ≠ 0; omega⟩ fun b1 c1 h11 h12 => ?_
        (first | refine wX ?_ | exact wZ)
        have hI1 : (items ++ [(⟨decide ((k : Int) ≥ 12), n, t⟩ : Pack.Item)]).length = items.length + 1 := by rw [List.length_append]; rfl
        have hO1 : ∀ y ∈ items ++ [(⟨decide ((k : Int) ≥ 12), n, t⟩ : Pack.Item)], ItOk y := fun y hy => by
          rcases List.mem_append.1 hy with hy | hy
          · exact hio y hy
          · rw [List.mem_singleton.1 hy]; exact hx0
        have hC1 := itemsC_snoc items ⟨decide ((k : Int) ≥ 12), n, t⟩
        generalize items ++ [(⟨decide ((k : Int) ≥ 12), n, t⟩ : Pack.Item)] = its1 at *
        refine SeqN.join (List Pack.Item × Option Nat × Nat) (fun ⟨its, o, c⟩ => its.length ≤ items.length + 2 ∧ (∀ y ∈ its, ItOk y) ∧ ((o = none → its = [] ∧ c = 0) ∧ its.length ≤ c)) (fun ⟨its, o, c⟩ => mkS Tryd.f16.ntmps 0 [(0, .c (.v (.slice ia l.length pcap))), (6, .c (.v (.slice (some ⟨cb, 0, none⟩) 8 8))), (7, .c (.v (.int .i64 (i : Int)))), (8, .c (.v (.int .i64 (k : Int)))), (9, .c (.v (.string (bs [letter18 k])))), (4, .c (.v (.string (bs F)))), (5, .c (.v (.slice (at0 o) its.length c))), (10, .c (.v (.string (bs C)))), (11, .c (.v (.int .i64 n)))]) (fun ⟨its, o, c⟩ => [.fact (PicksF ia l), .app 9 1 ctsC (some ⟨cb, 0, none⟩) 8 8, .app 49 3 (itemsC its) (at0 o) its.length c, .dead]) (fun _ _ => Nat.le_of_ble_eq_true rfl) (fun _ _ => rfl) (fun _ _ => okHB_eq rfl) ?_ ?_
        · ((conv => whnf); (repeat ((first | refine SeqN.plain ?_ | refine BoxN.own ?_ | refine RwN.own ?_ | refine VrN.norm (wrap_i64 (by omega)) ?_ | refine VrN.keep ?_ | refine DrawN.calm (by decide +kernel) ?_ | refine Nd.mk (by decide +kernel) ?_ | refine Nd.mk (by omega) ?_ | (refine Nd.mk ?_ ?_; focus ((repeat' (first | exact trivial | exact wkE_refl _ | refine And.intro ?_ ?_)); done)) | refine RdN.intro _ rfl (by rfl) ?_); (conv => whnf))))
          refine brd_dec (fun h4 => ?_) (fun h4 => ?_)
          · ((conv => whnf); (repeat ((first | refine SeqN.plain ?_ | refine BoxN.own ?_ | refine RwN.own ?_ | refine VrN.norm (wrap_i64 (by omega)) ?_ | refine VrN.keep ?_ | refine DrawN.calm (by decide +kernel) ?_ | refine Nd.mk (by decide +kernel) ?_ | refine Nd.mk (by omega) ?_ | (refine Nd.mk ?_ ?_; focus ((repeat' (first | exact trivial | exact wkE_refl _ | refine And.intro ?_ ?_)); done)) | refine RdN.intro _ rfl (by rfl) ?_); (conv => whnf))))
            refine brd_intro (fun _ => ?_) (fun _ => ?_)
            · ((conv => whnf); (repeat ((first | refine SeqN.plain ?_ | refine BoxN.own ?_ | refine RwN.own ?_ | refine VrN.norm (wrap_i64 (by omega)) ?_ | refine VrN.keep ?_ | refine DrawN.calm (by decide +kernel) ?_ | refine Nd.mk (by decide +kernel) ?_ | refine Nd.mk (by omega) ?_ | (refine Nd.mk ?_ ?_; focus ((repeat' (first | exact trivial | exact wkE_refl _ | refine And.intro ?_ ?_)); done)) | refine RdN.intro _ rfl (by rfl) ?_); (conv => whnf))))
              refine Nd.mk ⟨Nat.le_refl 1, rfl, rfl⟩ ?_
              (conv => whnf)
              have hx1 : ItOk ⟨false, IntKind.i64.wrap (n.tdiv 2), []⟩ := ⟨Nat.zero_le _, wrap_rng _⟩
              rw [hC1]
              refine AppN.grow 2 (itemsC its1) (itemC ⟨false, IntKind.i64.wrap (n.tdiv 2), []⟩) rfl rfl ⟨Nat.le_refl 1, ⟨by show (items.length + 1 + 1) * 32 ≤ _; omega, by omega⟩, by show 3 ≠ 0; omega⟩ fun b2 c2 h21 h22 => ?_
              ((conv => whnf); (repeat ((first | refine SeqN.plain ?_ | refine BoxN.own ?_ | refine RwN.own ?_ | refine VrN.norm (wrap_i64 (by omega)) ?_ | refine VrN.keep ?_ | refine DrawN.calm (by decide +kernel) ?_ | refine Nd.mk (by decide +kernel) ?_ | refine Nd.mk (by omega) ?_ | (refine Nd.mk ?_ ?_; focus ((repeat' (first | exact trivial | exact wkE_refl _ | refine And.intro ?_ ?_)); done)) | refine RdN.intro _ rfl (by rfl) ?_); (conv => whnf))))
              have hI2 : (its1 ++ [(⟨false, IntKind.i64.wrap (n.tdiv 2), []⟩ : Pack.Item)]).length = items.length + 1 + 1 := by rw [List.length_append, hI1]; rfl
              refine ⟨(its1 ++ [(⟨false, IntKind.i64.wrap (n.tdiv 2), []⟩ : Pack.Item)], some b2, c2), ⟨by omega, fun y hy => ?_, fun h => (by cases h), by omega⟩, ?_, ⟨wkE_refl _, wkE_refl _, .inl ⟨rfl, rfl, itemsC_snoc its1 _, rfl, hI2.symm, rfl⟩, trivial, wkH_nil _⟩⟩
              · rcases List.mem_append.1 hy with hy | hy
                · exact hO1 y hy
                · rw [List.mem_singleton.1 hy]; exact hx1
              · (repeat' (first | exact trivial | refine And.intro (by with_reducible rfl) ?_ | (with_reducible exact wkC_refl _) | (with_reducible exact wkCs_refl _) | refine And.intro ?_ ?_))
                all_goals first | rfl | (rw [hI2]; rfl)
            · ((conv => whnf); (repeat ((first | refine SeqN.plain ?_ | refine BoxN.own ?_ | refine RwN.own ?_ | refine VrN.norm (wrap_i64 (by omega)) ?_ | refine VrN.keep ?_ | refine DrawN.calm (by decide +kernel) ?_ | refine Nd.mk (by decide +kernel) ?_ | refine Nd.mk (by omega) ?_ | (refine Nd.mk ?_ ?_; focus ((repeat' (first | exact trivial | exact wkE_refl _ | refine And.intro ?_ ?_)); done)) | refine RdN.intro _ rfl (by rfl) ?_); (conv => whnf))))
              refine brd_intro (fun _ => ?_) (fun _ => ?_)
              · ((conv => whnf); (repeat ((first | refine SeqN.plain ?_ | refine BoxN.own ?_ | refine RwN.own ?_ | refine VrN.norm (wrap_i64 (by omega)) ?_ | refine VrN.keep ?_ | refine DrawN.calm (by decide +kernel) ?_ | refine Nd.mk (by decide +kernel) ?_ | refine Nd.mk (by omega) ?_ | (refine Nd.mk ?_ ?_; focus ((repeat' (first | exact trivial | exact wkE_refl _ | refine And.intro ?_ ?_)); done)) | refine RdN.intro _ rfl (by rfl) ?_); (conv => whnf))))
                refine Nd.mk ⟨Nat.le_refl 1, rfl, rfl⟩ ?_
                (conv => whnf)
                have hx1 : ItOk ⟨false, IntKind.i64.wrap (n.tdiv 2), []⟩ := ⟨Nat.zero_le _, wrap_rng _⟩
                rw [hC1]
                refine AppN.grow 2 (itemsC its1) (itemC ⟨false, IntKind.i64.wrap (n.tdiv 2), []⟩) rfl rfl ⟨Nat.le_refl 1, ⟨by show (items.length + 1 + 1) * 32 ≤ _; omega, by omega⟩, by show 3 ≠ 0; omega⟩ fun b2 c2 h21 h22 => ?_
                ((conv => whnf); (repeat ((first | refine SeqN.plain ?_ | refine BoxN.own ?_ | refine RwN.own ?_ | refine VrN.norm (wrap_i64 (by omega)) ?_ | refine VrN.keep ?_ | refine DrawN.calm (by decide +kernel) ?_ | refine Nd.mk (by decide +kernel) ?_ | refine Nd.mk (by omega) ?_ | (refine Nd.mk ?_ ?_; focus ((repeat' (first | exact trivial | exact wkE_refl _ | refine And.intro ?_ ?_)); done)) | refine RdN.intro _ rfl (by rfl) ?_); (conv => whnf))))
                have hI2 : (its1 ++ [(⟨false, IntKind.i64.wrap (n.tdiv 2), []⟩ : Pack.Item)]).length = items.length + 1 + 1 := by rw [List.length_append, hI1]; rfl
                refine ⟨(its1 ++ [(⟨false, IntKind.i64.wrap (n.tdiv 2), []⟩ : Pack.Item)], some b2, c2), ⟨by omega, fun y hy => ?_, fun h => (by cases h), by omega⟩, ?_, ⟨wkE_refl _, wkE_refl _, .inl ⟨rfl, rfl, itemsC_snoc its1 _, rfl, hI2.symm, rfl⟩, trivial, wkH_nil _⟩⟩
                · rcases List.mem_append.1 hy with hy | hy
                  · exact hO1 y hy
                  · rw [List.mem_singleton.1 hy]; exact hx1
                · (repeat' (first | exact trivial | refine And.intro (by with_reducible rfl) ?_ | (with_reducible exact wkC_refl _) | (with_reducible exact wkCs_refl _) | refine And.intro ?_ ?_))
                  all_goals first | rfl | (rw [hI2]; rfl)
              · ((conv => whnf); (repeat ((first | refine SeqN.plain ?_ | refine BoxN.own ?_ | refine RwN.own ?_ | refine VrN.norm (wrap_i64 (by omega)) ?_ | refine VrN.keep ?_ | refine DrawN.calm (by decide +kernel) ?_ | refine Nd.mk (by decide +kernel) ?_ | refine Nd.mk (by omega) ?_ | (refine Nd.mk ?_ ?_; focus ((repeat' (first | exact trivial | exact wkE_refl _ | refine And.intro ?_ ?_)); done)) | refine RdN.intro _ rfl (by rfl) ?_); (conv => whnf))))
                refine ⟨(its1, some b1, c1), ⟨by omega, hO1, fun h => (by cases h), by omega⟩, ?_, ⟨wkE_refl _, wkE_refl _, .inl ⟨rfl, rfl, hC1, rfl, hI1.symm, rfl⟩, trivial, wkH_nil _⟩⟩
                (repeat' (first | exact trivial | refine And.intro (by with_reducible rfl) ?_ | (with_reducible exact wkC_refl _) | (with_reducible exact wkCs_refl _) | refine And.intro ?_ ?_))
                all_goals first | rfl | (rw [hI1]; rfl)
          · ((conv => whnf); (repeat ((first | refine SeqN.plain ?_ | refine BoxN.own ?_ | refine RwN.own ?_ | refine VrN.norm (wrap_i64 (by omega)) ?_ | refine VrN.keep ?_ | refine DrawN.calm (by decide +kernel) ?_ | refine Nd.mk (by decide +kernel) ?_ | refine Nd.mk (by omega) ?_ | (refine Nd.mk ?_ ?_; focus ((repeat' (first | exact trivial | exact wkE_refl _ | refine And.intro ?_ ?_)); done)) | refine RdN.intro _ rfl (by rfl) ?_); (conv => whnf))))
            refine ⟨(its1, some b1, c1), ⟨by omega, hO1, fun h => (by cases h), by omega⟩, ?_, ⟨wkE_refl _, wkE_refl _, .inl ⟨rfl, rfl, hC1, rfl, hI1.symm, rfl⟩, trivial, wkH_nil _⟩⟩
            (repeat' (first | exact trivial | refine And.intro (by with_reducible rfl) ?_ | (with_reducible exact wkC_refl _) | (with_reducible exact wkCs_refl _) | refine And.intro ?_ ?_))
            all_goals first | rfl | (rw [hI1]; rfl)
        rintro ⟨its2, o2, c2⟩ ⟨hl2, hO2, hob2⟩
        (first | refine wX ?_ | exact wZ)
        refine SeqN.plain ?_
        ((conv => whnf); (repeat ((first | refine SeqN.plain ?_ | refine BoxN.own ?_ | refine RwN.own ?_ | refine VrN.norm (wrap_i64 (by omega)) ?_ | refine VrN.keep ?_ | refine DrawN.calm (by decide +kernel) ?_ | refine Nd.mk (by decide +kernel) ?_ | refine Nd.mk (by omega) ?_ | (refine Nd.mk ?_ ?_; focus ((repeat' (first | exact trivial | exact wkE_refl _ | refine And.intro ?_ ?_)); done)) | refine RdN.intro _ rfl (by rfl) ?_); (conv => whnf))))
        refine brd_dec (fun h4 => ?_) (fun h4 => ?_)
        · ((conv => whnf); (repeat ((first | refine SeqN.plain ?_ | refine BoxN.own ?_ | refine RwN.own ?_ | refine VrN.norm (wrap_i64 (by omega)) ?_ | refine VrN.keep ?_ | refine DrawN.calm (by decide +kernel) ?_ | refine Nd.mk (by decide +kernel) ?_ | refine Nd.mk (by omega) ?_ | (refine Nd.mk ?_ ?_; focus ((repeat' (first | exact trivial | exact wkE_refl _ | refine And.intro ?_ ?_)); done)) | refine RdN.intro _ rfl (by rfl) ?_); (conv => whnf))))
          refine brd_intro (fun _ => ?_) (fun _ => ?_)
          · ((conv => whnf); (repeat ((first | refine SeqN.plain ?_ | refine BoxN.own ?_ | refine RwN.own ?_ | refine VrN.norm (wrap_i64 (by omega)) ?_ | refine VrN.keep ?_ | refine DrawN.calm (by decide +kernel) ?_ | refine Nd.mk (by decide +kernel) ?_ | refine Nd.mk (by omega) ?_ | (refine Nd.mk ?_ ?_; focus ((repeat' (first | exact trivial | exact wkE_refl _ | refine And.intro ?_ ?_)); done)) | refine RdN.intro _ rfl (by rfl) ?_); (conv => whnf))))
            refine Nd.mk ⟨Nat.le_refl 1, rfl, rfl⟩ ?_
            (conv => whnf)
            have hx1 : ItOk ⟨false, IntKind.i64.wrap (n.tdiv 3), []⟩ := ⟨Nat.zero_le _, wrap_rng _⟩
            refine AppN.grow 2 (itemsC its2) (itemC ⟨false, IntKind.i64.wrap (n.tdiv 3), []⟩) rfl rfl ⟨Nat.le_refl 1, ⟨by show (its2.length + 1) * 32 ≤ _; omega, by omega⟩, by show 3 ≠ 0; omega⟩ fun b2 c3 h21 h22 => ?_
            ((conv => whnf); (repeat ((first | refine SeqN.plain ?_ | refine BoxN.own ?_ | refine RwN.own ?_ | refine VrN.norm (wrap_i64 (by omega)) ?_ | refine VrN.keep ?_ | refine DrawN.calm (by decide +kernel) ?_ | refine Nd.mk (by decide +kernel) ?_ | refine Nd.mk (by omega) ?_ | (refine Nd.mk ?_ ?_; focus ((repeat' (first | exact trivial | exact wkE_refl _ | refine And.intro ?_ ?_)); done)) | refine RdN.intro _ rfl (by rfl) ?_); (conv => whnf))))
            have hI2 : (its2 ++ [(⟨false, IntKind.i64.wrap (n.tdiv 3), []⟩ : Pack.Item)]).length = its2.length + 1 := by rw [List.length_append]; rfl
            refine ⟨(i + 1, F, ds2, its2 ++ [(⟨false, IntKind.i64.wrap (n.tdiv 3), []⟩ : Pack.Item)], some b2, c3), ⟨by omega, by omega, hfo2, by omega, fun y hy => ?_, ⟨fun h => (by cases h), by omega⟩⟩, by show 20 - (i + 1) < 20 - i; omega, ?_, ⟨wkE_refl _, wkE_refl _, .inl ⟨rfl, rfl, itemsC_snoc its2 _, rfl, hI2.symm, rfl⟩, wkH_nil _⟩⟩
            · rcases List.mem_append.1 hy with hy | hy
              · exact hO2 y hy
              · rw [List.mem_singleton.1 hy]; exact hx1
            · (repeat' (first | exact trivial | refine And.intro (by with_reducible rfl) ?_ | (with_reducible exact wkC_refl _) | (with_reducible exact wkCs_refl _) | refine And.intro ?_ ?_))
              all_goals first | rfl | (rw [hI2]; rfl) | exact av_int (by first | omega | (rw [wrap_i64 (by omega)]; omega))
          · ((conv => whnf); (repeat ((first | refine SeqN.plain ?_ | refine BoxN.own ?_ | refine RwN.own ?_ | refine VrN.norm (wrap_i64 (by omega)) ?_ | refine VrN.keep ?_ | refine DrawN.calm (by decide +kernel) ?_ | refine Nd.mk (by decide +kernel) ?_ | refine Nd.mk (by omega) ?_ | (refine Nd.mk ?_ ?_; focus ((repeat' (first | exact trivial | exact wkE_refl _ | refine And.intro ?_ ?_)); done)) | refine RdN.intro _ rfl (by rfl) ?_); (conv => whnf))))
            refine ⟨(i + 1, F, ds2, its2, o2, c2), ⟨by omega, by omega, hfo2, by omega, hO2, hob2⟩, by show 20 - (i + 1) < 20 - i; omega, ?_, ⟨wkE_refl _, wkE_refl _, wkE_refl _, wkH_nil _⟩⟩
            (repeat' (first | exact trivial | refine And.intro (by with_reducible rfl) ?_ | (with_reducible exact wkC_refl _) | (with_reducible exact wkCs_refl _) | refine And.intro ?_ ?_))
            all_goals first | rfl | exact av_int (by first | omega | (rw [wrap_i64 (by omega)]; omega))
        · ((conv => whnf); (repeat ((first | refine SeqN.plain ?_ | refine BoxN.own ?_ | refine RwN.own ?_ | refine VrN.norm (wrap_i64 (by omega)) ?_ | refine VrN.keep ?_ | refine DrawN.calm (by decide +kernel) ?_ | refine Nd.mk (by decide +kernel) ?_ | refine Nd.mk (by omega) ?_ | (refine Nd.mk ?_ ?_; focus ((repeat' (first | exact trivial | exact wkE_refl _ | refine And.intro ?_ ?_)); done)) | refine RdN.intro _ rfl (by rfl) ?_); (conv => whnf))))
          refine ⟨(i + 1, F, ds2, its2, o2, c2), ⟨by omega, by omega, hfo2, by omega, hO2, hob2⟩, by show 20 - (i + 1) < 20 - i; omega, ?_, ⟨wkE_refl _, wkE_refl _, wkE_refl _, wkH_nil _⟩⟩
          (repeat' (first | exact trivial | refine And.intro (by with_reducible rfl) ?_ | (with_reducible exact wkC_refl _) | (with_reducible exact wkCs_refl _) | refine And.intro ?_ ?_))
          all_goals first | rfl | exact av_int (by first | omega | (rw [wrap_i64 (by omega)]; omega))
    · ((conv => whnf); (repeat ((first | refine SeqN.plain ?_ | refine BoxN.own ?_ | refine RwN.own ?_ | refine VrN.norm (wrap_i64 (by omega)) ?_ | refine VrN.keep ?_ | refine DrawN.calm (by decide +kernel) ?_ | refine Nd.mk (by decide +kernel) ?_ | refine Nd.mk (by omega) ?_ | (refine Nd.mk ?_ ?_; focus ((repeat' (first | exact trivial | exact wkE_refl _ | refine And.intro ?_ ?_)); done)) | refine RdN.intro _ rfl (by rfl) ?_); (conv => whnf))))
      refine fin_p (fun w => SlAt (at0 ob) (items.length * 3) (itemsC items) w) ?_ (fun w hw => hw.2.2.1)
      exact ⟨form, ds, i, items, ob, cap, rfl, hi20, hil, hfo, by omega, hio, fun h => (hob.1 h).1, hob.2, fun w hw => hw⟩
  · ((conv => whnf); (repeat ((first | refine SeqN.plain ?_ | refine BoxN.own ?_ | refine RwN.own ?_ | refine VrN.norm (wrap_i64 (by omega)) ?_ | refine VrN.keep ?_ | refine DrawN.calm (by decide +kernel) ?_ | refine Nd.mk (by decide +kernel) ?_ | refine Nd.mk (by omega) ?_ | (refine Nd.mk ?_ ?_; focus ((repeat' (first | exact trivial | exact wkE_refl _ | refine And.intro ?_ ?_)); done)) | refine RdN.intro _ rfl (by rfl) ?_); (conv => whnf))))
    refine fin_p (fun w => SlAt (at0 ob) (items.length * 3) (itemsC items) w) ?_ (fun w hw => hw.2.2.1)
    exact ⟨form, ds, i, items, ob, cap, rfl, hi20, hil, hfo, by omega, hio, fun h => (hob.1 h).1, hob.2, fun w hw => hw⟩
end Go.Proofs.YtjkchonpnocffaaDoor

/-
  Contracts: the examples, PackHexes (law).
-/
namespace Go.Proofs.YtjkchonpnocffaaDoor
open Go.AX Go.RowKit Go.Pack
set_option maxRecDepth 20000

theorem hp1 : packV (packS [67, 110] [⟨false, 1, []⟩, ⟨false, 258, []⟩]) = .tuple #[.string (bs [1, 1, 2]), .int .i64 0] := by rfl
theorem hp2 : packV (packS [65, 51] [⟨true, 0, [120]⟩]) = .tuple #[.string (bs [120, 32, 32]), .int .i64 0] := by rfl
theorem hu1 : unpackS [119] [129, 0] = .ok [⟨false, 128, []⟩] := by rfl
theorem Pack1 (b : Nat) : ∀ H, (∀ w, Facts H w → ItemsF (some ⟨b, 0, none⟩) [⟨false, 1, []⟩, ⟨false, 258, []⟩] w) → SpecH Tryd.prog 17 (pvs [.string (bs [67, 110]), .slice (some ⟨b, 0, none⟩) 2 2]) H (Ret (.tuple #[.string (bs [1, 1, 2]), .int .i64 0]) H) := fun H hF => by
  have h := Pack_c [67, 110] (some ⟨b, 0, none⟩) [⟨false, 1, []⟩, ⟨false, 258, []⟩] 2 (by decide) (fun _ => rfl) (by decide) (by simp) H hF
  rw [hp1] at h
  exact h
theorem Pack2 (b : Nat) : ∀ H, (∀ w, Facts H w → ItemsF (some ⟨b, 0, none⟩) [⟨true, 0, [120]⟩] w) → SpecH Tryd.prog 17 (pvs [.string (bs [65, 51]), .slice (some ⟨b, 0, none⟩) 1 1]) H (Ret (.tuple #[.string (bs [120, 32, 32]), .int .i64 0]) H) := fun H hF => by
  have h := Pack_c [65, 51] (some ⟨b, 0, none⟩) [⟨true, 0, [120]⟩] 1 (by decide) (fun _ => rfl) (by decide) (by simp) H hF
  rw [hp2] at h
  exact h
theorem sane_c : ∀ H, (∀ w, Facts H w → UtfF w) → SpecH Tryd.prog 8 (pvs []) H (Ret (.bool true) H) := by
  refine factC hm Tryd.func8 (by kernel_rfl) rfl rfl ?_
  ((conv => whnf); (repeat ((first | refine BoxN.own ?_ | refine VrN.norm (wrap_i64 (by omega)) ?_ | refine VrN.keep ?_ | refine DrawN.calm (by decide +kernel) ?_ | refine Nd.mk (by decide +kernel) ?_ | refine Nd.mk (by omega) ?_ | (refine Nd.mk ?_ ?_; focus ((repeat' (first | exact trivial | exact wkE_refl _ | refine And.intro ?_ ?_)); done)) | refine RdN.intro _ rfl (by rfl) ?_); (conv => whnf))))
  refine RwN.known _ rfl fun b1 => ?_
  ((conv => whnf); (repeat ((first | refine BoxN.own ?_ | refine VrN.norm (wrap_i64 (by omega)) ?_ | refine VrN.keep ?_ | refine DrawN.calm (by decide +kernel) ?_ | refine Nd.mk (by decide +kernel) ?_ | refine Nd.mk (by omega) ?_ | (refine Nd.mk ?_ ?_; focus ((repeat' (first | exact trivial | exact wkE_refl _ | refine And.intro ?_ ?_)); done)) | refine RdN.intro _ rfl (by rfl) ?_); (conv => whnf))))
  refine call1 (Pack1 b1 _ (fun w hw => hw.2.1)) ?_
  (first | refine wX ?_ | exact wZ)
  refine SpecF.call (Unpack_c [119] [129, 0] (by decide) (by decide)) (fun w hw => hw.1) fun v G hR => ?_
  rw [hu1] at hR
  obtain ⟨ob, cap, rfl, hob, hG⟩ := hR
  obtain ⟨g, rfl⟩ : ∃ g, ob = some g := by
    cases ob with
    | none => cases hob rfl
    | some g => exact ⟨g, rfl⟩
  ((conv => whnf); (repeat ((first | refine BoxN.own ?_ | refine VrN.norm (wrap_i64 (by omega)) ?_ | refine VrN.keep ?_ | refine DrawN.calm (by decide +kernel) ?_ | refine Nd.mk (by decide +kernel) ?_ | refine Nd.mk (by omega) ?_ | (refine Nd.mk ?_ ?_; focus ((repeat' (first | exact trivial | exact wkE_refl _ | refine And.intro ?_ ?_)); done)) | refine RdN.intro _ rfl (by rfl) ?_); (conv => whnf))))
  refine RwN.known _ rfl fun b2 => ?_
  ((conv => whnf); (repeat ((first | refine BoxN.own ?_ | refine VrN.norm (wrap_i64 (by omega)) ?_ | refine VrN.keep ?_ | refine DrawN.calm (by decide +kernel) ?_ | refine Nd.mk (by decide +kernel) ?_ | refine Nd.mk (by omega) ?_ | (refine Nd.mk ?_ ?_; focus ((repeat' (first | exact trivial | exact wkE_refl _ | refine And.intro ?_ ?_)); done)) | refine RdN.intro _ rfl (by rfl) ?_); (conv => whnf))))
  refine call1 (Pack2 b2 _ (fun w hw => hw.2.2.2.1)) ?_
  (first | refine wX ?_ | exact wZ)
  refine Nd.mk ⟨rfl, by decide, by decide⟩ ?_
  (first | refine wX ?_ | exact wZ)
  refine LdN.fld (a := some ⟨g, 0, none⟩) (q := 0) (.int .i64 128) rfl (fun w hw => hG w hw.2.2.1) rfl ?_
  (first | refine wX ?_ | exact wZ)
  rfl
end Go.Proofs.YtjkchonpnocffaaDoor
