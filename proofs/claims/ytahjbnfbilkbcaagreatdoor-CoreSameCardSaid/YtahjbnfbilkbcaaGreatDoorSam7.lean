/-
  Lemmas (W2 U1 Q1 Q2 O1 O2 K1 Q3 Q4 Q5 W3).
-/
import Derived.Test.YtahjbnfbilkbcaaGreatDoorChecked
import Derived.Tactics
import Derived.Tactics2
import Derived.Defers
import Derived.Laws.Pointers
import Derived.Laws.LoneSync
import Derived.RegionTactic
import Derived.RegionCalls
import Derived.ChangeAlike
import Derived.Test.YtahjbnfbilkbcaaGreatDoorSam6
set_option linter.unusedVariables false
set_option linter.unusedSimpArgs false
/-
  What a writer knows of its graph; slices.Contains at numbers.
-/
namespace Go.Core
theorem foldT_snoc {f : List UInt8 → Int → List UInt8} {pre : Nat → List UInt8} : ∀ (l : List Int) (i : Nat) (o : List UInt8) (x : Int), foldT f pre i (l ++ [x]) o = f (foldT f pre i l o ++ pre (i + l.length)) x
  | [], i, o, x => by simp [foldT]
  | y :: l, i, o, x => by
    rw [List.cons_append]
    unfold foldT
    rw [foldT_snoc l (i + 1), List.length_cons]
    rw [show i + 1 + l.length = i + (l.length + 1) by omega]
theorem foldT_take {f : List UInt8 → Int → List UInt8} {pre : Nat → List UInt8} {l : List Int} {k : Nat} {x : Int} (h : l[k]? = some x) (o : List UInt8) : foldT f pre 0 (l.take (k + 1)) o = f (foldT f pre 0 (l.take k) o ++ pre k) x := by
  have hk := (List.getElem?_eq_some_iff.1 h).1
  rw [List.take_add_one, h]
  show foldT f pre 0 (l.take k ++ [x]) o = _
  rw [foldT_snoc, List.length_take, Nat.zero_add, Nat.min_eq_left (by omega)]
theorem writeS_in {M : Nat} {leafT : Cell → List UInt8} {g : List Cell} {n : Nat} {out : List UInt8} {way : List Int} {u : Int} {c : Cell} (h : ¬ M < out.length) (hc : at_ g u = c) (hl : ¬ isLeaf c = true) : writeS M leafT g (n + 1) out way u = if u ∈ way then out ++ frontT c ++ markT c ++ backT c else
    foldT (fun o k => writeS M leafT g n o (way ++ [u]) k) (preT c) 0 c.items (out ++ frontT c) ++ backT c := by
  subst hc
  conv => lhs; unfold writeS
  rw [if_neg h, if_neg hl]
theorem preT_6 {c : Cell} (h : c.kind = 6) (k : Nat) : preT c k = if 0 < k then [44, 32] else [] := by
  unfold preT
  rw [if_neg (by omega), if_neg (by omega)]
theorem preT_7 {c : Cell} (h : c.kind = 7) (k : Nat) : preT c k = if k % 2 = 1 then [32, 61, 62, 32] else if 0 < k then [44, 32] else [] := by
  unfold preT
  rw [if_neg (by omega)]
  by_cases h2 : k % 2 = 1
  · rw [if_pos ⟨h, h2⟩, if_pos h2]
  · rw [if_neg (fun e => h2 e.2), if_neg h2]
theorem preT_8 {c : Cell} (h : c.kind = 8) (k : Nat) : preT c k = (if k = 0 then [32] else [44, 32]) ++ c.names.getD k [] ++ [61] := by
  unfold preT
  rw [if_pos h]
theorem way_le {n : Nat} {way : List Int} (hn : way.Nodup) (hr : ∀ x ∈ way, 0 ≤ x ∧ x < (n : Int)) : way.length ≤ n := by
  have h1 : (way.map Int.toNat).Nodup := (List.pairwise_map.2 (hn.imp_of_mem fun {a b} ha hb hab => by
    have := hr a ha
    have := hr b hb
    omega))
  have := Go.AX.nodup_len (b := List.range n) h1 fun x hx => by
    obtain ⟨y, hy, rfl⟩ := List.mem_map.1 hx
    have := hr y hy
    exact List.mem_range.2 (by omega)
  simpa using this
def leafS (qt : List UInt8 → List UInt8) (it : Int → List UInt8) (c : Cell) : List UInt8 :=
  if c.kind = 0 then [110, 105, 108] else if c.kind = 1 then [116, 114, 117, 101] else if c.kind = 2 then [102, 97, 108, 115, 101] else if c.kind = 3 then it c.num else if c.kind = 4 then [34] ++ qt c.text ++ [34] else [58] ++ c.text
theorem at_cases (g : List Cell) (a : Int) : at_ g a ∈ g ∨ at_ g a = nilC := by
  unfold at_
  rw [List.getD_eq_getElem?_getD]
  cases h : g[a.toNat]? with
  | none => exact .inr rfl
  | some c => exact .inl (List.mem_of_getElem? h)
theorem cellD_kind {n : Nat} {c : Cell} (h : cellD n c = true) : 0 ≤ c.kind ∧ c.kind ≤ 8 := by
  unfold cellD at h
  simp only [Bool.and_eq_true, Bool.not_eq_true', Bool.or_eq_false_iff, decide_eq_false_iff_not] at h
  have := h.1.2.1.1.1
  omega
theorem cellD_text {n : Nat} {c : Cell} (h : cellD n c = true) : c.text.length ≤ 2000 := by
  have hk := cellD_kind h
  unfold cellD at h
  simp only [Bool.and_eq_true] at h
  have h2 := h.2
  split at h2
  · have := h2
    simp only [Bool.and_eq_true, decide_eq_true_eq] at this
    rw [this.1.1]; simp
  split at h2
  · simpa using h2
  split at h2
  · have : c.text.length ≤ 40 := by simpa using h2
    omega
  split at h2
  · simp only [Bool.and_eq_true, decide_eq_true_eq] at h2
    rw [h2.1]; simp
  split at h2
  · simp only [Bool.and_eq_true] at h2
    have := h2.1.1
    unfold constD wordD at this
    simp only [Bool.and_eq_true, decide_eq_true_eq] at this
    omega
  · have : c.text = [] := by simpa using h2
    rw [this]; simp
theorem cellD_names {n : Nat} {c : Cell} (h : cellD n c = true) : ∀ s ∈ c.names, s.length ≤ 40 := by
  intro s hs
  have hk : c.kind = 8 := by
    unfold cellD at h
    simp only [Bool.and_eq_true, Bool.not_eq_true', Bool.or_eq_false_iff, Bool.and_eq_false_iff, decide_eq_false_iff_not] at h
    rcases h.1.2.1.2 with h1 | h1
    · simpa using h1
    · have : c.names = [] := by simpa using h1
      rw [this] at hs; cases hs
  have h1 := cell_eq n c
  rw [h] at h1
  unfold plainS at h1
  simp only [Bool.and_eq_true] at h1
  have h2 := h1.1.2
  rw [if_neg (by omega), if_neg (by omega)] at h2
  simp only [Bool.and_eq_true] at h2
  have := List.all_eq_true.1 h2.2 s hs
  unfold Go.Scan.iiB at this
  simp only [Bool.and_eq_true, decide_eq_true_eq] at this
  exact this.2
theorem cellD_lens {n : Nat} {c : Cell} (h : cellD n c = true) (h8 : c.kind = 8) : c.names.length = c.items.length := by
  have h1 := cell_eq n c
  rw [h] at h1
  unfold plainS at h1
  simp only [Bool.and_eq_true] at h1
  have h2 := h1.1.2
  rw [if_neg (by omega), if_neg (by omega)] at h2
  simp only [Bool.and_eq_true, decide_eq_true_eq] at h2
  exact h2.1.1
theorem valid_short {g : List Cell} {qt : List UInt8 → List UInt8} {it : Int → List UInt8} (hv : ValidP g) (hs : ∀ c ∈ g, c.items.length ≤ 2000) (hq : ∀ s, (qt s).length ≤ 2 * s.length) (hi : ∀ x, (it x).length ≤ 30) : Short (leafS qt it) g := by
  have hall : ∀ a, cellD g.length (at_ g a) = true ∨ at_ g a = nilC := fun a => (at_cases g a).imp (hv.2.1 _) id
  have ht : ∀ a, (at_ g a).text.length ≤ 2000 := fun a => by
    rcases hall a with h | h
    · exact cellD_text h
    · rw [h]; exact Nat.zero_le _
  refine ⟨fun a _ => ?_, fun a _ => ht a, fun a s hsm => ?_, fun a => ?_⟩
  · have h1 := ht a
    have h2 := hq (at_ g a).text
    have h3 := hi (at_ g a).num
    unfold leafS
    repeat' split
    all_goals first | omega | (simp only [List.length_append, List.length_cons, List.length_nil]; omega)
  · rcases hall a with h | h
    · exact cellD_names h s hsm
    · rw [h] at hsm; cases hsm
  · rcases at_cases g a with h | h
    · exact hs _ h
    · rw [h]; exact Nat.zero_le _
end Go.Core
namespace Go.Proofs.YtahjbnfbilkbcaaGreatDoor
open Go.AX Go.RowKit Go.Core Go.Scan
set_option maxRecDepth 20000

structure WEnv (a : Option Addr) (l : List CellP) (E : World → Prop) (qt : List UInt8 → List UInt8) (it : Int → List UInt8) : Prop where
  ha : a = none → l = []
  sm : Small l
  ok : ∀ p ∈ l, CellOk p
  val : ValidP (l.map (·.c))
  q : ∀ p ∈ l, p.c.kind = 4 → ∀ H, SpecH Tryz.prog 98 (pvs [.string (bs p.c.text)]) H (Ret (.string (bs (qt p.c.text))) H)
  ql : ∀ s, (qt s).length ≤ 2 * s.length
  i : ∀ p ∈ l, p.c.kind = 3 → ∀ H, (∀ w, Facts H w → E w) → SpecH Tryz.prog 97 (pvs [.int .i64 p.c.num]) H (Ret (.string (bs (it p.c.num))) H)
  il : ∀ x, (it x).length ≤ 30
theorem WEnv.short {a : Option Addr} {l : List CellP} {E : World → Prop} {qt : List UInt8 → List UInt8} {it : Int → List UInt8} (V : WEnv a l E qt it) : Short (leafS qt it) (l.map (·.c)) :=
  valid_short V.val (fun c hc => by
    obtain ⟨p, hp, rfl⟩ := List.mem_map.1 hc
    exact (V.sm.2 p hp).2) V.ql V.il
theorem contains_c (ob : Option Nat) (cap : Nat) (way : List Int) (x : Int) (hob : ob = none → way = []) (hl : way.length ≤ 200000000000000) : ∀ H, (∀ w, Facts H w → SlAt (at0 ob) (way.length * 1) (iC way) w) → SpecH Tryz.prog 121 (pvs [.slice (at0 ob) way.length cap, .int .i64 x]) H (Ret (.bool (decide (x ∈ way))) H) := fun H hH =>
  SpecH.rawP (R := fun r => r = .bool (decide (x ∈ way))) (callOk Tryz.func121 (by kernel_rfl) rfl) (fun w hw => by
    cases ob with
    | none =>
      obtain rfl := hob rfl
      exact (Tryz.slices_Contains_int_empty _ cap x w).mono fun e w' ⟨he, hw'⟩ => by
        subst hw'
        exact ⟨_, he, by simp, Below.refl _ _⟩
    | some b =>
      have hs := hH w hw
      refine (Tryz.slices_Contains_int b 0 way.length cap way x w (Nat.le_refl _) (by omega) fun j hj => ?_).mono fun e w' ⟨he, hw'⟩ => ?_
      · have := hs.2.2 j (by omega)
        unfold iC at this
        rw [List.getElem?_map, List.getElem?_eq_getElem hj] at this
        rw [List.getD_eq_getElem?_getD, List.getElem?_eq_getElem hj]
        have e2 : ((at0 (some b)).getD default).add j = ⟨b, 0 + j, none⟩ := add_lit _ _ _
        rw [e2] at this
        exact this
      · subst hw'
        refine ⟨_, he, ?_, Below.refl _ _⟩
        rw [List.take_length, List.contains_eq_mem]) fun r hr => by subst hr; exact ⟨rfl, rfl⟩
end Go.Proofs.YtahjbnfbilkbcaaGreatDoor

/-
  Contracts: what a list has; what a cell's text begins and ends with (document).
-/
namespace Go.Core
end Go.Core
namespace Go.Proofs.YtahjbnfbilkbcaaGreatDoor
open Go.AX Go.RowKit Go.Core Go.Scan
set_option maxRecDepth 20000

theorem rHas_c (a : Option Addr) (c : Nat) (l : List Int) (x : Int) (ha : a = none → l = []) (hl : l.length ≤ 200000000000000) : ∀ H, (∀ w, Facts H w → SlAt a (l.length * 1) (iC l) w) → SpecH Tryz.prog 102 (pvs [.slice a l.length c, .int .i64 x]) H (Ret (.bool (decide (x ∈ l))) H) := by
  refine factC hm Tryz.func102 (by kernel_rfl) rfl rfl ?_
  (first | refine wX ?_ | exact wZ)
  refine loopS Nat (fun i => i ≤ l.length ∧ x ∉ l.take i) (fun i => mkS Tryz.f102.ntmps 0 [(0, .c (.v (.slice a l.length c))), (1, .c (.v (.int .i64 x))), (5, .c (.v (.int .i64 (i : Int))))]) (fun i => l.length - i) rfl (fun _ => rfl) 0 ⟨Nat.zero_le _, by simp⟩ ?_ ?_
  · (repeat' (first | exact trivial | refine And.intro (by with_reducible rfl) ?_ | (with_reducible exact wkC_refl _) | (with_reducible exact wkCs_refl _) | refine And.intro ?_ ?_))
    all_goals rfl
  intro i ⟨hi, hno⟩
  (first | refine wX ?_ | exact wZ)
  refine brd_dec (fun h1 => ?_) (fun h1 => ?_)
  · obtain ⟨s, hs⟩ : ∃ s, l[i]? = some s := ⟨_, List.getElem?_eq_getElem (by omega)⟩
    have hsa : a.isSome = true := by
      cases a with
      | none => rw [ha rfl] at hs; cases hs
      | some b => rfl
    (first | refine wX ?_ | exact wZ)
    refine Nd.mk ⟨hsa, by omega, by omega⟩ ?_
    (first | refine wX ?_ | exact wZ)
    refine LdN.one (.int .i64 s) rfl (fun w hw => hw.1) (by rw [Int.toNat_natCast]; show (iC l)[i * 1]? = _; rw [Nat.mul_one]; exact iC_get hs) ?_
    (first | refine wX ?_ | exact wZ)
    refine brd_eq (fun h2 => ?_) (fun h2 => ?_)
    · (first | refine wX ?_ | exact wZ)
      exact out_bool (decide_eq_true (h2 ▸ List.mem_of_getElem? hs)).symm
    · (first | refine wX ?_ | exact wZ)
      refine ⟨i + 1, ⟨by omega, ?_⟩, by omega, ?_, by (repeat' (first | exact trivial | exact wkE_refl _ | refine And.intro ?_ ?_))⟩
      · rw [List.take_add_one, hs]
        intro h
        rcases List.mem_append.1 h with h | h
        · exact hno h
        · exact h2 (List.mem_singleton.1 (show x ∈ [s] from h)).symm
      · (repeat' (first | exact trivial | refine And.intro (by with_reducible rfl) ?_ | (with_reducible exact wkC_refl _) | (with_reducible exact wkCs_refl _) | refine And.intro ?_ ?_))
        all_goals first | rfl | exact av_int (by rw [wrap_i64 (by omega)]; omega)
  · have hin : i = l.length := by omega
    subst hin
    rw [List.take_length] at hno
    (first | refine wX ?_ | exact wZ)
    exact out_bool (decide_eq_false hno).symm
end Go.Proofs.YtahjbnfbilkbcaaGreatDoor

/-
  Contract: strings.NewReplacer: a struct at a known address that holds the texts.
-/
namespace Go.Proofs.YtahjbnfbilkbcaaGreatDoor
open Go.AX Go.RowKit
set_option maxRecDepth 20000

/-- The cells of a Replacer: the Once's word, its lock's state and sema, what replaces, the texts. -/
def replC (once st : Int) (r : Value) (a : Option Addr) (n cap : Nat) : List Value := [.int .u32 once, .int .i32 st, .int .u32 0, r, .slice a n cap]
theorem NewReplacer_c (b0 : Nat) (xs : List Value) (cap : Nat) (hl : xs.length ≤ 1000) (he : xs.length % 2 = 0) (h0 : xs ≠ []) (h1 : ∀ u ∈ xs, oneV u = true) : SpecH Tryz.prog 119 (pvs [.slice (some ⟨b0, 0, none⟩) xs.length cap]) [.fz 9 1 xs.length xs b0 cap]
    (RetG (fun _ : Nat × Nat × Nat => True) (fun i => .pointer (some ⟨i.1, 0, none⟩)) fun i => [.fz 9 1 xs.length xs b0 cap, .app 9 1 xs (some ⟨i.2.1, 0, none⟩) xs.length i.2.2, .app 173 5 (replC 0 0 .nilIface (some ⟨i.2.1, 0, none⟩) xs.length i.2.2) (some ⟨i.1, 0, none⟩) 1 1]) := by
  have hx : 1 ≤ xs.length := by
    cases xs with
    | nil => exact absurd rfl h0
    | cons _ _ => simp
  refine ownC hm Tryz.func119 (by kernel_rfl) rfl rfl (fun _ _ => ⟨trivial, trivial, trivial, trivial⟩) (fun _ _ => by simp) ?_
  (first | refine wX ?_ | exact wZ)
  refine brdF (by have : ((xs.length : Int).tmod 2) = 0 := by rw [Int.tmod_eq_emod_of_nonneg (by omega)]; omega
                  simp [this]) ?_
  (first | refine wX ?_ | exact wZ)
  refine brdF (by cases hq : Nat.beq xs.length 0 with
                  | false => rfl
                  | true => have := Nat.eq_of_beq_eq_true hq; omega) ?_
  refine Nd.mk rfl ?_
  refine ApN.intro xs (Nat.mul_one _).symm h1 (fun w hw j v hv => hw.1.sl.cell hv) ?_
  (conv => whnf)
  refine AppN.new xs ⟨rfl, rfl, rfl⟩ (plains_vs xs) ⟨hx, ⟨by show (0 + xs.length) * 16 ≤ _; omega, by omega⟩, by show 1 ≠ 0; omega⟩ fun c k hk hm => ?_
  (conv => whnf)
  refine BoxN.known _ rfl fun b => ?_
  (conv => whnf)
  exact ⟨(b, c, k), trivial, rfl, by (repeat' (first | exact trivial | exact wkE_refl _ | refine And.intro ?_ ?_))⟩
end Go.Proofs.YtahjbnfbilkbcaaGreatDoor

/-
  Contract: (*strings.byteStringReplacer).Replace: each byte replaced by what the table holds.
-/
namespace Go.Proofs.YtahjbnfbilkbcaaGreatDoor
open Go.AX Go.RowKit
set_option maxRecDepth 20000

/-- The table's cells. -/
structure Tbl where
  b : Nat
  cells : List Value
  ta : Option Addr
  tcap : Nat
/-- What a table says: the bytes that are replaced, each by its text. -/
structure TblOk (f : UInt8 → List UInt8) (olds : List UInt8) (d : Tbl) : Prop where
  len : d.cells.length = 257
  last : d.cells[256]? = some (.slice d.ta olds.length d.tcap)
  tas : d.ta.isSome = true
  cell : ∀ c : UInt8, (c ∉ olds ∧ f c = [c] ∧ d.cells[c.toNat]? = some (.slice none 0 0)) ∨ (c ∈ olds ∧ ∃ a cap, d.cells[c.toNat]? = some (.slice (some a) (f c).length cap))
  nodup : olds.Nodup
  small : ∀ c, 1 ≤ (f c).length ∧ (f c).length ≤ 6
  few : olds.length ≤ 16
def TblF (f : UInt8 → List UInt8) (olds : List UInt8) (d : Tbl) (w : World) : Prop :=
  SlAt (some ⟨d.b, 0, none⟩) 257 d.cells w ∧ SlAt d.ta olds.length (olds.map fun c => .string (bs [c])) w ∧ ∀ c : UInt8, ∀ a cap, d.cells[c.toNat]? = some (.slice (some a) (f c).length cap) → SlAt (some a) (f c).length (u8s (f c)) w
/-- What the replaced bytes add. -/
def gain (f : UInt8 → List UInt8) (s : List UInt8) : List UInt8 → Nat
  | [] => 0
  | c :: l => s.count c * ((f c).length - 1) + gain f s l
theorem gain_snoc (f : UInt8 → List UInt8) (s : List UInt8) (c : UInt8) : ∀ l, gain f s (l ++ [c]) = gain f s l + s.count c * ((f c).length - 1)
  | [] => by simp [gain]
  | x :: l => by simp only [List.cons_append, gain, gain_snoc f s c l]; omega
theorem gain_take (f : UInt8 → List UInt8) (s : List UInt8) : ∀ (i : Nat) (l : List UInt8), gain f s (l.take i) ≤ gain f s l
  | _, [] => by simp
  | 0, _ :: _ => by simp [gain]
  | i + 1, c :: l => by
    have := gain_take f s i l
    simp only [List.take_succ_cons, gain]
    omega
theorem gain_nil (f : UInt8 → List UInt8) : ∀ l, gain f [] l = 0
  | [] => rfl
  | _ :: l => by simp [gain, gain_nil f l]
theorem gain_cons (f : UInt8 → List UInt8) (a : UInt8) (s : List UInt8) : ∀ l : List UInt8, l.Nodup → gain f (a :: s) l = gain f s l + if a ∈ l then (f a).length - 1 else 0
  | [], _ => by simp [gain]
  | c :: l, h => by
    rw [List.nodup_cons] at h
    have ih := gain_cons f a s l h.2
    simp only [gain, ih, List.count_cons, List.mem_cons]
    by_cases hac : a = c
    · subst hac
      simp [h.1, Nat.add_mul]; omega
    · simp [hac]; omega
theorem gain_app (f : UInt8 → List UInt8) (s t : List UInt8) : ∀ l, gain f (s ++ t) l = gain f s l + gain f t l
  | [] => rfl
  | c :: l => by
    simp only [gain, gain_app f s t l, List.count_append, Nat.add_mul]
    omega
theorem gain_all {f : UInt8 → List UInt8} {olds : List UInt8} {d : Tbl} (hd : TblOk f olds d) : ∀ s, (s.flatMap f).length = s.length + gain f s olds
  | [] => by simp [gain_nil]
  | a :: s => by
    have h1 := (hd.small a).1
    rw [List.flatMap_cons, List.length_append, gain_all hd s, gain_cons f a s olds hd.nodup, List.length_cons]
    rcases hd.cell a with ⟨h2, h3, _⟩ | ⟨h2, _⟩
    · simp [h2, h3]; omega
    · simp [h2]; omega
theorem flat_none {f : UInt8 → List UInt8} {olds : List UInt8} {d : Tbl} (hd : TblOk f olds d) : ∀ s : List UInt8, (s.any fun c => decide (c ∈ olds)) = false → s.flatMap f = s
  | [], _ => rfl
  | a :: s, h => by
    simp only [List.any_cons, Bool.or_eq_false_iff, decide_eq_false_iff_not] at h
    rcases hd.cell a with ⟨_, h3, _⟩ | ⟨h2, _⟩
    · rw [List.flatMap_cons, flat_none hd s h.2, h3]; rfl
    · exact absurd h2 h.1
theorem any_count (s : List UInt8) (l : List UInt8) : (l.any fun c => s.count c != 0) = s.any fun c => decide (c ∈ l) := by
  rw [Bool.eq_iff_iff]
  simp only [List.any_eq_true, decide_eq_true_eq, bne_iff_ne]
  constructor
  · rintro ⟨c, h1, h2⟩
    exact ⟨c, List.count_pos_iff.1 (by omega), h1⟩
  · rintro ⟨c, h1, h2⟩
    exact ⟨c, h2, by have := List.count_pos_iff.2 h1; omega⟩
theorem flat_short {f : UInt8 → List UInt8} {olds : List UInt8} {d : Tbl} (hd : TblOk f olds d) (s : List UInt8) : (s.flatMap f).length ≤ 6 * s.length := by
  induction s with
  | nil => simp
  | cons a s ih =>
    have := (hd.small a).2
    rw [List.flatMap_cons, List.length_append, List.length_cons]
    omega
theorem put_buf (P q : List UInt8) (N : Nat) (_ : P.length + q.length ≤ N) : (u8s P ++ List.replicate (N - P.length) (Value.int .u8 0)).take P.length ++ u8s q ++ (u8s P ++ List.replicate (N - P.length) (Value.int .u8 0)).drop (P.length + q.length) = u8s (P ++ q) ++ List.replicate (N - (P ++ q).length) (Value.int .u8 0) := by
  have e : (u8s P).length = P.length := u8s_len P
  rw [List.take_append_of_le_length (by omega), List.take_of_length_le (by omega), List.drop_append, e, List.drop_of_length_le (by omega), List.nil_append, List.drop_replicate, List.length_append]
  rw [show P.length + q.length - P.length = q.length by omega, show N - P.length - q.length = N - (P.length + q.length) by omega]
  simp [u8s]
theorem bsr_c (f : UInt8 → List UInt8) (olds : List UInt8) (d : Tbl) (hd : TblOk f olds d) (s : List UInt8) (hs : s.length ≤ 1000000) : ∀ H, (∀ w, Facts H w → TblF f olds d w) →
    SpecH Tryz.prog 225 (pvs [.pointer (some ⟨d.b, 0, none⟩), .string (bs s)]) H (Ret (.string (bs (s.flatMap f))) H) := by
  refine factC hm Tryz.func225 (by kernel_rfl) rfl rfl ?_
  (first | refine wX ?_ | exact wZ)
  refine LdN.one (a := some ⟨d.b, 0, none⟩) (q := 256) (.slice d.ta olds.length d.tcap) rfl (fun w hw => hw.1.1) hd.last ?_
  have hfew := hd.few
  have hz := bs_size s
  have hall := gain_all hd s
  have hsh := flat_short hd s
  (first | refine wX ?_ | exact wZ)
  rw [hz]
  refine brd_dec (fun h1 => ?_) (fun h1 => ?_)
  · (first | refine wX ?_ | exact wZ)
    refine LdN.one (a := some ⟨d.b, 0, none⟩) (q := 256) (.slice d.ta olds.length d.tcap) rfl (fun w hw => hw.1.1) hd.last ?_
    (first | refine wX ?_ | exact wZ)
    refine loopS Nat (fun i => i ≤ olds.length) (fun i => mkS Tryz.f225.ntmps 0 [(0, .c (.v (.pointer (some ⟨d.b, 0, none⟩)))), (1, .c (.v (.string (bs s)))), (5, .c (.v (.int .i64 ((s.length + gain f s (olds.take i) : Nat) : Int)))), (6, .c (.v (.bool ((olds.take i).any fun c => s.count c != 0)))), (30, .c (.v (.slice d.ta olds.length d.tcap))), (31, .c (.v (.int .i64 (olds.length : Int)))), (32, .c (.v (.int .i64 (i : Int))))]) (fun i => olds.length - i) rfl (fun _ => rfl) 0 (Nat.zero_le _) ?_ fun i hi => ?_
    · (repeat' (first | exact trivial | refine And.intro (by with_reducible rfl) ?_ | (with_reducible exact wkC_refl _) | (with_reducible exact wkCs_refl _) | refine And.intro ?_ ?_))
      all_goals first | rfl | (refine av_int ?_; simp [gain]; done)
    (first | refine wX ?_ | exact wZ)
    refine brd_dec (fun h2 => ?_) (fun h2 => ?_)
    · obtain ⟨c, hc⟩ : ∃ c, olds[i]? = some c := ⟨_, List.getElem?_eq_getElem (by omega)⟩
      have hin : c ∈ olds := List.mem_of_getElem? hc
      have hg := gain_snoc f s c (olds.take i)
      rw [← take_snoc hc] at hg
      (first | refine wX ?_ | exact wZ)
      refine Nd.mk ⟨hd.tas, by omega, by omega⟩ ?_
      (first | refine wX ?_ | exact wZ)
      refine LdN.one (.string (bs [c])) rfl (fun w hw => hw.1.2.1) (show (olds.map fun c => Value.string (bs [c]))[i * 1]? = _ by rw [Nat.mul_one]; simp [hc]) ?_
      ((first | refine wX ?_ | exact wZ); first | refine call1 (Count1_c s c _) ?_ | refine callQ (Count1_c s c _) ?_)
      (first | refine wX ?_ | exact wZ)
      have hL := hd.small c
      have hcs := List.count_le_length (a := c) (l := s)
      have hany : ((olds.take (i + 1)).any fun c => s.count c != 0) = ((olds.take i).any (fun c => s.count c != 0) || s.count c != 0) := by rw [take_snoc hc, List.any_append]; simp
      have hgb := gain_take f s i olds
      refine brd_ne (fun h3 => ?_) (fun h3 => ?_)
      · obtain ⟨a, cap, ha⟩ : ∃ a cap, d.cells[c.toNat]? = some (.slice (some a) (f c).length cap) := by
          rcases hd.cell c with h | h
          · exact absurd hin h.1
          · exact h.2
        generalize (f c).length = L at *
        (first | refine wX ?_ | exact wZ)
        refine Nd.mk ⟨by omega, by rw [bs_size]; simp⟩ ?_
        have hb0 : byteAt (bs [c]) (Int.toNat 0) = (c.toNat : Int) := byteAt_get rfl
        have hc256 := c.toNat_lt
        (conv => whnf)
        rw [hb0]
        refine Nd.mk ⟨by omega, by omega⟩ ?_
        (first | refine wX ?_ | exact wZ)
        refine LdN.fld (a := some ⟨d.b, 0, none⟩) (q := 0) (.slice (some a) L cap) rfl (fun w hw => hw.1.1) (show d.cells[0 + c.toNat * 1]? = _ by simpa using ha) ?_
        (conv => whnf)
        refine VrN.norm (m := ((s.length + gain f s (olds.take (i + 1)) : Nat) : Int)) (by
          have h6 : L = 1 ∨ L = 2 ∨ L = 3 ∨ L = 4 ∨ L = 5 ∨ L = 6 := by omega
          rw [hg]
          rcases h6 with rfl | rfl | rfl | rfl | rfl | rfl <;> (simp (disch := omega) only [wrap_i64]; omega)) ?_
        (first | refine wX ?_ | exact wZ)
        refine ⟨i + 1, by omega, by omega, ?_, by (repeat' (first | exact trivial | exact wkE_refl _ | refine And.intro ?_ ?_))⟩
        (repeat' (first | exact trivial | refine And.intro (by with_reducible rfl) ?_ | (with_reducible exact wkC_refl _) | (with_reducible exact wkCs_refl _) | refine And.intro ?_ ?_))
        · refine av_bool ?_
          rw [hany]
          have : (s.count c != 0) = true := by simp; omega
          rw [this, Bool.or_true]
        · exact av_int (by rw [wrap_i64 (by omega)]; omega)
      · (first | refine wX ?_ | exact wZ)
        refine ⟨i + 1, by omega, by omega, ?_, by (repeat' (first | exact trivial | exact wkE_refl _ | refine And.intro ?_ ?_))⟩
        have h0 : s.count c = 0 := by omega
        (repeat' (first | exact trivial | refine And.intro (by with_reducible rfl) ?_ | (with_reducible exact wkC_refl _) | (with_reducible exact wkCs_refl _) | refine And.intro ?_ ?_))
        · refine av_int ?_
          rw [hg, h0]
          simp
        · refine av_bool ?_
          rw [hany, h0]
          simp
        · exact av_int (by rw [wrap_i64 (by omega)]; omega)
    · have hil : i = olds.length := by omega
      subst hil
      rw [List.take_length, any_count, ← hall]
      cases hA : s.any fun c => decide (c ∈ olds) with
      | false =>
        rw [flat_none hd s hA] at *
        (first | refine wX ?_ | exact wZ)
      | true =>
        generalize hN : (s.flatMap f).length = N at *
        (first | refine wX ?_ | exact wZ)
        refine EffW.mkBytes N rfl Tryz.underlying84 (by kernel_rfl) rfl rfl (by omega) fun b => ?_
        (first | refine wX ?_ | exact wZ)
        refine LoopN.intro Nat (fun i => i ≤ s.length) (fun i => mkS Tryz.f225.ntmps 0 [(0, .c (.v (.pointer (some ⟨d.b, 0, none⟩)))), (1, .c (.v (.string (bs s)))), (12, .c (.v (.slice (some ⟨b, 0, none⟩) N N))), (13, .c (.v (.int .i64 (((s.take i).flatMap f).length : Int)))), (14, .c (.v (.int .i64 (i : Int))))])
          (fun i => [.fact (TblF f olds d), .app 5 1 (u8s ((s.take i).flatMap f) ++ List.replicate (N - ((s.take i).flatMap f).length) (.int .u8 0)) (some ⟨b, 0, none⟩) N N]) (fun i => s.length - i) [] rfl
          (fun _ => rfl) (fun _ => rfl) (fun _ _ => okHB_eq rfl) ⟨0, Nat.zero_le _, ?_, wkH_of_eq (by simp [u8s])⟩ ?_
        · (repeat' (first | exact trivial | refine And.intro (by with_reducible rfl) ?_ | (with_reducible exact wkC_refl _) | (with_reducible exact wkCs_refl _) | refine And.intro ?_ ?_))
          all_goals rfl
        intro i hi
        (first | refine wX ?_ | exact wZ)
        rw [hz]
        refine brd_dec (fun h2 => ?_) (fun h2 => ?_)
        · obtain ⟨c, hc⟩ : ∃ c, s[i]? = some c := ⟨_, List.getElem?_eq_getElem (by omega)⟩
          have hb : byteAt (bs s) (Int.toNat (i : Int)) = (c.toNat : Int) := by rw [Int.toNat_natCast]; exact byteAt_get hc
          have hc256 := c.toNat_lt
          have hnext : (s.take (i + 1)).flatMap f = (s.take i).flatMap f ++ f c := by rw [take_snoc hc, List.flatMap_append]; simp
          have hle : ((s.take (i + 1)).flatMap f).length ≤ N := by
            rw [← hN]
            conv => rhs; rw [← List.take_append_drop (i + 1) s, List.flatMap_append, List.length_append]
            omega
          rw [hnext, List.length_append] at hle
          have hL := hd.small c
          generalize (s.take i).flatMap f = P at *
          (first | refine wX ?_ | exact wZ)
          rw [hb]
          rcases hd.cell c with ⟨_, hfc, ha⟩ | ⟨_, a, cap, ha⟩
          · refine LdN.fld (a := some ⟨d.b, 0, none⟩) (q := 0) (.slice none 0 0) rfl (fun w hw => hw.1.1) (show d.cells[0 + c.toNat * 1]? = _ by simpa using ha) ?_
            (first | refine wX ?_ | exact wZ)
            refine Nd.mk ⟨rfl, by omega, by rw [hfc] at hle; simp at hle; omega⟩ ?_
            (first | refine wX ?_ | exact wZ)
            refine EffW.app (i := 1) (q := P.length) (ys := [.int .u8 (c.toNat : Int)]) rfl (by rw [Int.toNat_natCast]; show AV.c (CV.v (Value.pointer (some ((⟨b, 0, none⟩ : Addr).add (P.length * 1))))) = _; rw [add_lit0, Nat.mul_one]) rfl rfl rfl rfl rfl (by rw [hfc] at hle; simp at hle ⊢; omega) ?_
            (first | refine wX ?_ | exact wZ)
            refine ⟨i + 1, by omega, by omega, ?_, ⟨wkE_refl _, ?_, wkH_nil _⟩⟩
            · (repeat' (first | exact trivial | refine And.intro (by with_reducible rfl) ?_ | (with_reducible exact wkC_refl _) | (with_reducible exact wkCs_refl _) | refine And.intro ?_ ?_))
              · refine av_int ?_
                rw [hnext, hfc]
                simp
              · exact av_int (by omega)
            · rw [hnext, hfc]
              have e := put_buf P [c] N (by rw [hfc] at hle; exact hle)
              refine .inl ⟨rfl, rfl, ?_, rfl, rfl, rfl⟩
              exact e
          · refine LdN.fld (a := some ⟨d.b, 0, none⟩) (q := 0) (.slice (some a) (f c).length cap) rfl (fun w hw => hw.1.1) (show d.cells[0 + c.toNat * 1]? = _ by simpa using ha) ?_
            (first | refine wX ?_ | exact wZ)
            refine DrawN.plan [0, 1, 2, 4, 5] [(3, 1), (6, 1), (7, 1), (8, 1), (9, 1)] [(10, 0), (11, 0), (12, 0)] (by decide +kernel) ?_
            (first | refine wX ?_ | exact wZ)
            refine ReadW.slc_l P.length rfl Tryz.underlying84 (by kernel_rfl) rfl rfl ⟨rfl, by omega, by omega, by omega⟩ ?_
            (first | refine wX ?_ | exact wZ)
            refine LdN.fld (a := some ⟨d.b, 0, none⟩) (q := 0) (.slice (some a) (f c).length cap) rfl (fun w hw => hw.1.1) (show d.cells[0 + c.toNat * 1]? = _ by simpa using ha) ?_
            (first | refine wX ?_ | exact wZ)
            refine EffW.copyIn 1 rfl rfl rfl Tryz.underlying84 (by kernel_rfl) rfl rfl rfl (fun w hw => hw.1.2.2 c a cap ha) (by simp [u8s, Value.oneCell']) (by omega) (by omega) ?_
            (first | refine wX ?_ | exact wZ)
            refine ⟨i + 1, by omega, by omega, ?_, ⟨wkE_refl _, ?_, wkH_nil _⟩⟩
            · (repeat' (first | exact trivial | refine And.intro (by with_reducible rfl) ?_ | (with_reducible exact wkC_refl _) | (with_reducible exact wkCs_refl _) | refine And.intro ?_ ?_))
              · refine av_int ?_
                rw [hnext]
                simp
              · exact av_int (by omega)
            · rw [hnext]
              exact .inl ⟨rfl, rfl, put_buf P (f c) N hle, rfl, rfl, rfl⟩
        · have hil : i = s.length := by omega
          subst hil
          rw [List.take_length, hN, Nat.sub_self, List.replicate_zero, List.append_nil]
          (first | refine wX ?_ | exact wZ)
          refine ReadW.bytes (s.flatMap f) hN rfl Tryz.underlying84 Tryz.underlying5 Tryz.underlying9 rfl (fun w hw => by have := hw.2.1; rwa [Nat.mul_one] at this) ?_
          (first | refine wX ?_ | exact wZ)
          rfl
  · (first | refine wX ?_ | exact wZ)
    refine loopS Nat (fun i => i ≤ s.length) (fun i => mkS Tryz.f225.ntmps 0 [(0, .c (.v (.pointer (some ⟨d.b, 0, none⟩)))), (1, .c (.v (.string (bs s)))), (5, .c (.v (.int .i64 ((s.length + gain f (s.take i) olds : Nat) : Int)))), (6, .c (.v (.bool ((s.take i).any fun c => decide (c ∈ olds))))), (10, .c (.v (.int .i64 (i : Int))))]) (fun i => s.length - i) rfl (fun _ => rfl) 0 (Nat.zero_le _) ?_ fun i hi => ?_
    · (repeat' (first | exact trivial | refine And.intro (by with_reducible rfl) ?_ | (with_reducible exact wkC_refl _) | (with_reducible exact wkCs_refl _) | refine And.intro ?_ ?_))
      all_goals first | rfl | (refine av_int ?_; simp [gain_nil]; done)
    (first | refine wX ?_ | exact wZ)
    rw [hz]
    refine brd_dec (fun h2 => ?_) (fun h2 => ?_)
    · obtain ⟨c, hc⟩ : ∃ c, s[i]? = some c := ⟨_, List.getElem?_eq_getElem (by omega)⟩
      have hb : byteAt (bs s) (Int.toNat (i : Int)) = (c.toNat : Int) := by rw [Int.toNat_natCast]; exact byteAt_get hc
      have hc256 := c.toNat_lt
      have hg : gain f (s.take (i + 1)) olds = gain f (s.take i) olds + if c ∈ olds then (f c).length - 1 else 0 := by
        rw [take_snoc hc, gain_app f _ _ olds, gain_cons f c [] olds hd.nodup, gain_nil]
        omega
      have hany : ((s.take (i + 1)).any fun c => decide (c ∈ olds)) = ((s.take i).any (fun c => decide (c ∈ olds)) || decide (c ∈ olds)) := by rw [take_snoc hc, List.any_append]; simp
      have hL := hd.small c
      have hgb := gain_all hd (s.take i)
      have hgs := flat_short hd (s.take i)
      have hti : (s.take i).length ≤ s.length := by simp; omega
      (first | refine wX ?_ | exact wZ)
      rw [hb]
      rcases hd.cell c with ⟨hin, hfc, ha⟩ | ⟨hin, a, cap, ha⟩
      · refine LdN.fld (a := some ⟨d.b, 0, none⟩) (q := 0) (.slice none 0 0) rfl (fun w hw => hw.1.1) (show d.cells[0 + c.toNat * 1]? = _ by simpa using ha) ?_
        (first | refine wX ?_ | exact wZ)
        refine ⟨i + 1, by omega, by omega, ?_, by (repeat' (first | exact trivial | exact wkE_refl _ | refine And.intro ?_ ?_))⟩
        (repeat' (first | exact trivial | refine And.intro (by with_reducible rfl) ?_ | (with_reducible exact wkC_refl _) | (with_reducible exact wkCs_refl _) | refine And.intro ?_ ?_))
        · refine av_int ?_
          rw [hg]
          simp [hin]
        · refine av_bool ?_
          rw [hany]
          simp [hin]
        · exact av_int (by omega)
      · rw [if_pos hin] at hg
        refine LdN.fld (a := some ⟨d.b, 0, none⟩) (q := 0) (.slice (some a) (f c).length cap) rfl (fun w hw => hw.1.1) (show d.cells[0 + c.toNat * 1]? = _ by simpa using ha) ?_
        (first | refine wX ?_ | exact wZ)
        refine LdN.fld (a := some ⟨d.b, 0, none⟩) (q := 0) (.slice (some a) (f c).length cap) rfl (fun w hw => hw.1.1) (show d.cells[0 + c.toNat * 1]? = _ by simpa using ha) ?_
        (conv => whnf)
        refine VrN.norm (m := ((s.length + gain f (s.take (i + 1)) olds : Nat) : Int)) (by
          rw [hg, wrap_i64 (x := ((f c).length : Int) - 1) (by omega), wrap_i64 (by omega)]
          omega) ?_
        (first | refine wX ?_ | exact wZ)
        refine ⟨i + 1, by omega, by omega, ?_, by (repeat' (first | exact trivial | exact wkE_refl _ | refine And.intro ?_ ?_))⟩
        (repeat' (first | exact trivial | refine And.intro (by with_reducible rfl) ?_ | (with_reducible exact wkC_refl _) | (with_reducible exact wkCs_refl _) | refine And.intro ?_ ?_))
        · refine av_bool ?_
          rw [hany]
          simp [hin]
        · exact av_int (by omega)
    · have hil : i = s.length := by omega
      subst hil
      rw [List.take_length, ← hall]
      cases hA : s.any fun c => decide (c ∈ olds) with
      | false =>
        rw [flat_none hd s hA] at *
        (first | refine wX ?_ | exact wZ)
      | true =>
        generalize hN : (s.flatMap f).length = N at *
        (first | refine wX ?_ | exact wZ)
        refine EffW.mkBytes N rfl Tryz.underlying84 (by kernel_rfl) rfl rfl (by omega) fun b => ?_
        (first | refine wX ?_ | exact wZ)
        refine LoopN.intro Nat (fun i => i ≤ s.length) (fun i => mkS Tryz.f225.ntmps 0 [(0, .c (.v (.pointer (some ⟨d.b, 0, none⟩)))), (1, .c (.v (.string (bs s)))), (12, .c (.v (.slice (some ⟨b, 0, none⟩) N N))), (13, .c (.v (.int .i64 (((s.take i).flatMap f).length : Int)))), (14, .c (.v (.int .i64 (i : Int))))])
          (fun i => [.fact (TblF f olds d), .app 5 1 (u8s ((s.take i).flatMap f) ++ List.replicate (N - ((s.take i).flatMap f).length) (.int .u8 0)) (some ⟨b, 0, none⟩) N N]) (fun i => s.length - i) [] rfl
          (fun _ => rfl) (fun _ => rfl) (fun _ _ => okHB_eq rfl) ⟨0, Nat.zero_le _, ?_, wkH_of_eq (by simp [u8s])⟩ ?_
        · (repeat' (first | exact trivial | refine And.intro (by with_reducible rfl) ?_ | (with_reducible exact wkC_refl _) | (with_reducible exact wkCs_refl _) | refine And.intro ?_ ?_))
          all_goals rfl
        intro i hi
        (first | refine wX ?_ | exact wZ)
        rw [hz]
        refine brd_dec (fun h2 => ?_) (fun h2 => ?_)
        · obtain ⟨c, hc⟩ : ∃ c, s[i]? = some c := ⟨_, List.getElem?_eq_getElem (by omega)⟩
          have hb : byteAt (bs s) (Int.toNat (i : Int)) = (c.toNat : Int) := by rw [Int.toNat_natCast]; exact byteAt_get hc
          have hc256 := c.toNat_lt
          have hnext : (s.take (i + 1)).flatMap f = (s.take i).flatMap f ++ f c := by rw [take_snoc hc, List.flatMap_append]; simp
          have hle : ((s.take (i + 1)).flatMap f).length ≤ N := by
            rw [← hN]
            conv => rhs; rw [← List.take_append_drop (i + 1) s, List.flatMap_append, List.length_append]
            omega
          rw [hnext, List.length_append] at hle
          have hL := hd.small c
          generalize (s.take i).flatMap f = P at *
          (first | refine wX ?_ | exact wZ)
          rw [hb]
          rcases hd.cell c with ⟨_, hfc, ha⟩ | ⟨_, a, cap, ha⟩
          · refine LdN.fld (a := some ⟨d.b, 0, none⟩) (q := 0) (.slice none 0 0) rfl (fun w hw => hw.1.1) (show d.cells[0 + c.toNat * 1]? = _ by simpa using ha) ?_
            (first | refine wX ?_ | exact wZ)
            refine Nd.mk ⟨rfl, by omega, by rw [hfc] at hle; simp at hle; omega⟩ ?_
            (first | refine wX ?_ | exact wZ)
            refine EffW.app (i := 1) (q := P.length) (ys := [.int .u8 (c.toNat : Int)]) rfl (by rw [Int.toNat_natCast]; show AV.c (CV.v (Value.pointer (some ((⟨b, 0, none⟩ : Addr).add (P.length * 1))))) = _; rw [add_lit0, Nat.mul_one]) rfl rfl rfl rfl rfl (by rw [hfc] at hle; simp at hle ⊢; omega) ?_
            (first | refine wX ?_ | exact wZ)
            refine ⟨i + 1, by omega, by omega, ?_, ⟨wkE_refl _, ?_, wkH_nil _⟩⟩
            · (repeat' (first | exact trivial | refine And.intro (by with_reducible rfl) ?_ | (with_reducible exact wkC_refl _) | (with_reducible exact wkCs_refl _) | refine And.intro ?_ ?_))
              · refine av_int ?_
                rw [hnext, hfc]
                simp
              · exact av_int (by omega)
            · rw [hnext, hfc]
              have e := put_buf P [c] N (by rw [hfc] at hle; exact hle)
              refine .inl ⟨rfl, rfl, ?_, rfl, rfl, rfl⟩
              exact e
          · refine LdN.fld (a := some ⟨d.b, 0, none⟩) (q := 0) (.slice (some a) (f c).length cap) rfl (fun w hw => hw.1.1) (show d.cells[0 + c.toNat * 1]? = _ by simpa using ha) ?_
            (first | refine wX ?_ | exact wZ)
            refine DrawN.plan [0, 1, 2, 4, 5] [(3, 1), (6, 1), (7, 1), (8, 1), (9, 1)] [(10, 0), (11, 0), (12, 0)] (by decide +kernel) ?_
            (first | refine wX ?_ | exact wZ)
            refine ReadW.slc_l P.length rfl Tryz.underlying84 (by kernel_rfl) rfl rfl ⟨rfl, by omega, by omega, by omega⟩ ?_
            (first | refine wX ?_ | exact wZ)
            refine LdN.fld (a := some ⟨d.b, 0, none⟩) (q := 0) (.slice (some a) (f c).length cap) rfl (fun w hw => hw.1.1) (show d.cells[0 + c.toNat * 1]? = _ by simpa using ha) ?_
            (first | refine wX ?_ | exact wZ)
            refine EffW.copyIn 1 rfl rfl rfl Tryz.underlying84 (by kernel_rfl) rfl rfl rfl (fun w hw => hw.1.2.2 c a cap ha) (by simp [u8s, Value.oneCell']) (by omega) (by omega) ?_
            (first | refine wX ?_ | exact wZ)
            refine ⟨i + 1, by omega, by omega, ?_, ⟨wkE_refl _, ?_, wkH_nil _⟩⟩
            · (repeat' (first | exact trivial | refine And.intro (by with_reducible rfl) ?_ | (with_reducible exact wkC_refl _) | (with_reducible exact wkCs_refl _) | refine And.intro ?_ ?_))
              · refine av_int ?_
                rw [hnext]
                simp
              · exact av_int (by omega)
            · rw [hnext]
              exact .inl ⟨rfl, rfl, put_buf P (f c) N hle, rfl, rfl, rfl⟩
        · have hil : i = s.length := by omega
          subst hil
          rw [List.take_length, hN, Nat.sub_self, List.replicate_zero, List.append_nil]
          (first | refine wX ?_ | exact wZ)
          refine ReadW.bytes (s.flatMap f) hN rfl Tryz.underlying84 Tryz.underlying5 Tryz.underlying9 rfl (fun w hw => by have := hw.2.1; rwa [Nat.mul_one] at this) ?_
          (first | refine wX ?_ | exact wZ)
          rfl
end Go.Proofs.YtahjbnfbilkbcaaGreatDoor

/-
  sync.Once, one goroutine: the parts of its slow road, after the kit's worked LazyParts.
-/
namespace Go.Proofs.YtahjbnfbilkbcaaGreatDoor
set_option maxRecDepth 100000
set_option maxHeartbeats 1600000

theorem disable (w : World) : (callFunc 179 #[]).run Tryz.prog w = .ok (.value (.tuple #[])) w := run_call_mark0 Tryz.func179 (by kernel_rfl) (by kernel_rfl) (by kernel_rfl) .disable (by kernel_rfl) w
theorem enable (w : World) : (callFunc 181 #[]).run Tryz.prog w = .ok (.value (.tuple #[])) w := run_call_mark0 Tryz.func181 (by kernel_rfl) (by kernel_rfl) (by kernel_rfl) .enable (by kernel_rfl) w
theorem acquire (a : Addr) (w : World) : (callFunc 182 #[.pointer (some a)]).run Tryz.prog w = .ok (.value (.tuple #[])) w := run_call_marked Tryz.func182 (by kernel_rfl) (by kernel_rfl) (by kernel_rfl) .acquire (by kernel_rfl) a w
theorem releaseMerge (a : Addr) (w : World) : (callFunc 184 #[.pointer (some a)]).run Tryz.prog w = .ok (.value (.tuple #[])) w := run_call_marked Tryz.func184 (by kernel_rfl) (by kernel_rfl) (by kernel_rfl) .releaseMerge (by kernel_rfl) a w

/-- '(*sync/atomic.Bool).Store(true)', entered as a deferred call: the cell holds 1. -/
theorem store_deferred (a : Addr) (x : Value) (u : FrameMode) (w : World) (hc : w.cell? a = some x) (hz : w.frozen? a = false) :
    CallsD Tryz.prog 167 #[.pointer (some a), .bool true] u w fun e u' w' => u' = u ∧ (e = .returned (.tuple #[]) ∧ w' = w.drew.setCell a (.int .u32 1)) := by
  have hc' : w.drew.cell? a = some x := by go_simp
  have hz' : w.drew.frozen? a = false := by go_simp
  have hst := run_call_store (P := Tryz.prog) Tryz.func175 (by kernel_rfl) (by kernel_rfl) (by kernel_rfl) (by kernel_rfl) (k := .u32) (y := 1) hc' hz'
  go_enter_d Tryz.func167, Tryz.ntmps167
  go_wp2
  go_region_calls
  all_goals (go_end0; exact ⟨rfl, rfl⟩)

/-- '(*sync.Mutex).Unlock', entered as a deferred call, the lock held and nobody waiting (state 1): state 0. -/
theorem unlock_deferred (a : Addr) (u : FrameMode) (w : World) (hc : w.cell? a = some (.int .i32 1)) (hz : w.frozen? a = false) :
    CallsD Tryz.prog 166 #[.pointer (some a)] u w fun e u' w' => u' = u ∧ (e = .returned (.tuple #[]) ∧ w' = w.setCell a (.int .i32 0)) := by
  have hd := disable
  have he := enable
  have hr := releaseMerge
  have hadd := run_call_add (P := Tryz.prog) Tryz.func185 (by kernel_rfl) (by kernel_rfl) (by kernel_rfl) .i32 (by kernel_rfl) (y := -1) (s := 0) hc hz (by simp [go_sem]; rfl)
  have hcv := run_convert_to_unsafe (P := Tryz.prog) (src := 237) (dst := 155) Tryz.underlying237 Tryz.underlying155 (by kernel_rfl) hc
  go_enter_d Tryz.func166, Tryz.ntmps166
  go_wp2
  go_end0
  go_wp2
  go_end0
  exact ⟨rfl, rfl⟩

/-- '(*sync.Mutex).Lock', the lock free (state 0): state 1. -/
theorem lock_free (a : Addr) (w : World) (hc : w.cell? a = some (.int .i32 0)) (hz : w.frozen? a = false) :
    Calls Tryz.prog 165 #[.pointer (some a)] w fun e w' => e = .returned (.tuple #[]) ∧ w' = w.setCell a (.int .i32 1) := by
  have hd := disable
  have he := enable
  have ha := acquire
  have hcas := run_call_cas_hit (P := Tryz.prog) Tryz.func180 (by kernel_rfl) (by kernel_rfl) (by kernel_rfl) .i32 (by kernel_rfl) (y := 1) hc hz
  have hc' : (w.setCell a (.int .i32 1)).cell? a = some (.int .i32 1) := World.cell?_setCell_same w a _ hc
  have hcv := run_convert_to_unsafe (P := Tryz.prog) (src := 237) (dst := 155) Tryz.underlying237 Tryz.underlying155 (by kernel_rfl) hc'
  go_enter Tryz.func165, Tryz.ntmps165
  go_wp2
  first | go_end0 | (simp only [Exit.inBlock, Exit.then]; refine bodyPost_ret (results_none rfl _ _ _) rfl ?_) | refine bodyPost_ret (results_none rfl _ _ _) rfl ?_
  go_wp2
  go_end0
  exact ⟨rfl, rfl⟩
end Go.Proofs.YtahjbnfbilkbcaaGreatDoor

/-
  sync.Once, one goroutine: Do, not yet done and its lock free, of a function by its contract; Do, done already.
-/
namespace Go.Proofs.YtahjbnfbilkbcaaGreatDoor
set_option maxRecDepth 100000
set_option maxHeartbeats 3200000

theorem slow_do (b off : Nat) (p : Value) (Q : World → Prop) (w : World)
    (h0 : w.cell? ⟨b, off, none⟩ = some (.int .u32 0)) (h1 : w.cell? ⟨b, off + 1, none⟩ = some (.int .i32 0))
    (f1 : w.frozen? ⟨b, off + 1, none⟩ = false)
    (hf : Calls Tryz.prog 133 #[p] (w.setCell ⟨b, off + 1, none⟩ (.int .i32 1)) fun e w2 => e = .returned (.tuple #[]) ∧ Q w2)
    (hQ : ∀ w2, Q w2 → (∃ x, w2.cell? ⟨b, off, none⟩ = some x) ∧ w2.cell? ⟨b, off + 1, none⟩ = some (.int .i32 1) ∧ w2.frozen? ⟨b, off, none⟩ = false ∧ w2.frozen? ⟨b, off + 1, none⟩ = false) :
    Calls Tryz.prog 152 #[.pointer (some ⟨b, off, none⟩), .func (.func 133) #[p] #[]] w fun e w' => e = .returned (.tuple #[]) ∧
      ∃ w2, Q w2 ∧ w' = (w2.drew.setCell ⟨b, off, none⟩ (.int .u32 1)).setCell ⟨b, off + 1, none⟩ (.int .i32 0) := by
  have hl := run_call_load (P := Tryz.prog) Tryz.func164 (by kernel_rfl) (by kernel_rfl) (by kernel_rfl) .u32 (by kernel_rfl) (w := w.setCell ⟨b, off + 1, none⟩ (.int .i32 1)) (a := ⟨b, off, none⟩) (x := 0) ((World.cell?_setCell_other _ ⟨b, off + 1, none⟩ ⟨b, off, none⟩ _ (by simp)).trans h0)
  have hnot : ∀ (x : Bool) (w : World), (Op.unary .not (.bool x)).run Tryz.prog w = .ok (.bool (!x)) w := fun _ _ => rfl
  go_enter_defers Tryz.func152, Tryz.ntmps152
  go_wp2_with (go_at_call 165; refine (lock_free ⟨b, off + 1, none⟩ _ (by go_simp) (by go_simp)).mono ?_; rintro e w' ⟨rfl, rfl⟩)
  go_wp2_with (first | (go_at_call 133; refine hf.mono ?_; rintro e w2 ⟨rfl, hq⟩) | (go_at_call 151; go_in))
  obtain ⟨⟨x, hx⟩, hm, z0, z1⟩ := hQ w2 hq
  go_wp2
  refine leaves_cons (f := 167) (args := #[.pointer (some ⟨b, off, none⟩), .bool true]) (by simp) (by simp [go_sem]) ?_
  refine (store_deferred ⟨b, off, none⟩ x .returning _ hx z0).mono ?_
  rintro e u' w'' ⟨rfl, rfl, rfl⟩
  refine leaves_cons (f := 166) (args := #[.pointer (some ⟨b, off + 1, none⟩)]) (by simp [settle]) (by simp [go_sem]) ?_
  refine (unlock_deferred ⟨b, off + 1, none⟩ _ _ ?_ (by simp [z1])).mono ?_
  · refine (World.cell?_setCell_other _ ⟨b, off, none⟩ ⟨b, off + 1, none⟩ _ (by simp)).trans ?_
    rw [World.cell?_drew]
    exact hm
  rintro e u' w'' ⟨rfl, rfl, rfl⟩
  simp [Leaves, settle, results, Tryz.results152]
  exact ⟨w2, hq, rfl⟩
/-- Not yet done, the lock free. -/
theorem do_first (b off : Nat) (p : Value) (Q : World → Prop) (w : World)
    (h0 : w.cell? ⟨b, off, none⟩ = some (.int .u32 0)) (h1 : w.cell? ⟨b, off + 1, none⟩ = some (.int .i32 0))
    (f1 : w.frozen? ⟨b, off + 1, none⟩ = false)
    (hf : Calls Tryz.prog 133 #[p] (w.setCell ⟨b, off + 1, none⟩ (.int .i32 1)) fun e w2 => e = .returned (.tuple #[]) ∧ Q w2)
    (hQ : ∀ w2, Q w2 → (∃ x, w2.cell? ⟨b, off, none⟩ = some x) ∧ w2.cell? ⟨b, off + 1, none⟩ = some (.int .i32 1) ∧ w2.frozen? ⟨b, off, none⟩ = false ∧ w2.frozen? ⟨b, off + 1, none⟩ = false) :
    Calls Tryz.prog 132 #[.pointer (some ⟨b, off, none⟩), .func (.func 133) #[p] #[]] w fun e w' => e = .returned (.tuple #[]) ∧
      ∃ w2, Q w2 ∧ w' = (w2.drew.setCell ⟨b, off, none⟩ (.int .u32 1)).setCell ⟨b, off + 1, none⟩ (.int .i32 0) := by
  have hl := run_call_load (P := Tryz.prog) Tryz.func164 (by kernel_rfl) (by kernel_rfl) (by kernel_rfl) .u32 (by kernel_rfl) h0
  have hnot : ∀ (x : Bool) (w : World), (Op.unary .not (.bool x)).run Tryz.prog w = .ok (.bool (!x)) w := fun _ _ => rfl
  go_enter Tryz.func132, Tryz.ntmps132
  go_wp2_with (first | (go_at_call 152; refine (slow_do b off p Q _ h0 h1 f1 hf hQ).mono ?_; rintro e w' ⟨rfl, hq⟩) | (go_at_call 151; go_in))
  go_end0
  exact ⟨rfl, hq⟩
end Go.Proofs.YtahjbnfbilkbcaaGreatDoor

/-
  Contract: Quote of the document.
-/
namespace Go.Proofs.YtahjbnfbilkbcaaGreatDoor
open Go.AX Go.RowKit Go.Scan
set_option maxRecDepth 20000

theorem flat_le {f : UInt8 → List UInt8} {m : Nat} (h : ∀ c, (f c).length ≤ m) (s : List UInt8) : (s.flatMap f).length ≤ m * s.length := by
  induction s with
  | nil => simp
  | cons c r ih =>
    have := h c
    rw [List.flatMap_cons, List.length_append, List.length_cons, Nat.mul_add, Nat.mul_one]
    omega
/-- A byte as the language writes it. -/
def qt (c : UInt8) : List UInt8 := if c == 92 then [92, 92] else if c == 34 then [92, 34] else if c == 35 then [92, 35] else if c == 10 then [92, 110] else if c == 0 then [92, 48] else [c]
theorem qt_2 (c : UInt8) : (qt c).length ≤ 2 := by
  unfold qt
  repeat' split
  all_goals first | decide | exact Nat.le_of_ble_eq_true rfl
end Go.Proofs.YtahjbnfbilkbcaaGreatDoor

/-
  The table of bytes that are replaced, as it is filled.
-/
namespace Go.Proofs.YtahjbnfbilkbcaaGreatDoor
open Go.AX Go.RowKit
set_option maxRecDepth 20000

/-- The texts of bytes and what replaces them. -/
def olnw (f : UInt8 → List UInt8) : List UInt8 → List Value
  | [] => []
  | c :: l => .string (bs [c]) :: .string (bs (f c)) :: olnw f l
def qtL : List UInt8 := [0, 10, 35, 34, 92]
def tab0 (t : Nat) : List Value := List.replicate 256 (.slice none 0 0) ++ [.slice (some ⟨t, 0, none⟩) 0 5]
def tabL (T : List Value) : List (Nat × Value × Value) → List Value
  | [] => T
  | (o, v, w) :: l => tabL ((T.set 256 v).set o w) l
theorem tabL_len : ∀ (l : List (Nat × Value × Value)) (T : List Value), (tabL T l).length = T.length
  | [], _ => rfl
  | (o, v, w) :: l, T => by rw [tabL, tabL_len l]; simp
theorem tabL_other {c : Nat} (hc : c ≠ 256) : ∀ (l : List (Nat × Value × Value)) (T : List Value), c ∉ l.map (·.1) → (tabL T l)[c]? = T[c]?
  | [], _, _ => rfl
  | (o, v, w) :: l, T, h => by
    simp only [List.map_cons, List.mem_cons, not_or] at h
    rw [tabL, tabL_other hc l _ h.2, List.getElem?_set_ne (Ne.symm h.1), List.getElem?_set_ne (Ne.symm hc)]
theorem tabL_mem {c : Nat} {w : Value} (hc : c < 256) : ∀ (l : List (Nat × Value × Value)) (T : List Value), T.length = 257 → (l.map (·.1)).Nodup → (∃ v, (c, v, w) ∈ l) → (tabL T l)[c]? = some w
  | [], _, _, _, h => by obtain ⟨_, h⟩ := h; cases h
  | (o, v, x) :: l, T, hT, hn, h => by
    simp only [List.map_cons, List.nodup_cons] at hn
    obtain ⟨u, hu⟩ := h
    rcases List.mem_cons.1 hu with h | h
    · cases h
      rw [tabL, tabL_other (by omega) l _ hn.1, List.getElem?_set_self (by simp; omega)]
    · rw [tabL]
      exact tabL_mem hc l _ (by simp [hT]) hn.2 ⟨u, h⟩
theorem tabL_last {o : Nat} {v w : Value} (ho : o ≠ 256) : ∀ (l : List (Nat × Value × Value)) (T : List Value), T.length = 257 → (tabL T (l ++ [(o, v, w)]))[256]? = some v
  | [], T, hT => by
    show ((T.set 256 v).set o w)[256]? = some v
    rw [List.getElem?_set_ne ho, List.getElem?_set_self (by omega)]
  | (o', v', w') :: l, T, hT => by
    show (tabL _ (l ++ [(o, v, w)]))[256]? = some v
    exact tabL_last ho l _ (by simp [hT])
theorem tab0_len (t : Nat) : (tab0 t).length = 257 := by simp [tab0]
theorem tab0_get (t : Nat) {c : Nat} (h : c < 256) : (tab0 t)[c]? = some (.slice none 0 0) := by
  rw [tab0, List.getElem?_append_left (by simpa using h), List.getElem?_replicate, if_pos h]
/-- The rounds: the byte, the block and the room of the list of bytes, the block and the room of the text. -/
def rdL (f : UInt8 → List UInt8) : Nat → List (UInt8 × Nat × Nat × Nat × Nat) → List (Nat × Value × Value)
  | _, [] => []
  | j, (o, t, k, n, c) :: l => (o.toNat, .slice (some ⟨t, 0, none⟩) (j + 1) k, .slice (some ⟨n, 0, none⟩) (f o).length c) :: rdL f (j + 1) l
theorem rdL_keys (f : UInt8 → List UInt8) : ∀ (l : List (UInt8 × Nat × Nat × Nat × Nat)) (j : Nat), (rdL f j l).map (·.1) = l.map fun r => r.1.toNat
  | [], _ => rfl
  | (o, t, k, n, c) :: l, j => by simp [rdL, rdL_keys f l]
theorem rdL_mem (f : UInt8 → List UInt8) {o : UInt8} {t k n c : Nat} : ∀ (l : List (UInt8 × Nat × Nat × Nat × Nat)) (j : Nat), (o, t, k, n, c) ∈ l → ∃ v, (o.toNat, v, .slice (some ⟨n, 0, none⟩) (f o).length c) ∈ rdL f j l
  | [], _, h => by cases h
  | r :: l, j, h => by
    obtain ⟨o', t', k', n', c'⟩ := r
    rcases List.mem_cons.1 h with h | h
    · cases h
      exact ⟨_, List.mem_cons_self ..⟩
    · obtain ⟨v, hv⟩ := rdL_mem f l (j + 1) h
      exact ⟨v, List.mem_cons_of_mem _ hv⟩
theorem rdL_app (f : UInt8 → List UInt8) (r : UInt8 × Nat × Nat × Nat × Nat) : ∀ (l : List (UInt8 × Nat × Nat × Nat × Nat)) (j : Nat), rdL f j (l ++ [r]) = rdL f j l ++ [(r.1.toNat, .slice (some ⟨r.2.1, 0, none⟩) (j + l.length + 1) r.2.2.1, .slice (some ⟨r.2.2.2.1, 0, none⟩) (f r.1).length r.2.2.2.2)]
  | [], j => rfl
  | (o, t, k, n, c) :: l, j => by simp [rdL, rdL_app f r l (j + 1)]; omega
theorem rounds_cell (f : UInt8 → List UInt8) (l : List (UInt8 × Nat × Nat × Nat × Nat)) (hn : (l.map (·.1)).Nodup) (t0 : Nat) (c : UInt8) : (c ∉ l.map (·.1) ∧ (tabL (tab0 t0) (rdL f 0 l))[c.toNat]? = some (.slice none 0 0)) ∨ ∃ t k n cap, (c, t, k, n, cap) ∈ l ∧ (tabL (tab0 t0) (rdL f 0 l))[c.toNat]? = some (.slice (some ⟨n, 0, none⟩) (f c).length cap) := by
  have hc := c.toNat_lt
  by_cases h : c ∈ l.map (·.1)
  · obtain ⟨⟨o, t, k, n, cap⟩, hr, rfl⟩ := List.mem_map.1 h
    refine .inr ⟨t, k, n, cap, hr, tabL_mem (by omega) _ _ (tab0_len t0) ?_ (rdL_mem f l 0 hr)⟩
    rw [rdL_keys]
    have : (l.map fun r => r.1.toNat) = (l.map (·.1)).map UInt8.toNat := by simp
    rw [this]
    exact List.Pairwise.map UInt8.toNat (fun a b h h2 => h (UInt8.toNat_inj.1 h2)) hn
  · refine .inl ⟨h, ?_⟩
    rw [tabL_other (by omega), tab0_get t0 (by omega)]
    rw [rdL_keys]
    intro h2
    obtain ⟨r, hr, he⟩ := List.mem_map.1 h2
    exact h (List.mem_map.2 ⟨r, hr, UInt8.toNat_inj.1 he⟩)
theorem rounds_ok (f : UInt8 → List UInt8) (l : List (UInt8 × Nat × Nat × Nat × Nat)) (r : UInt8 × Nat × Nat × Nat × Nat) (hn : ((l ++ [r]).map (·.1)).Nodup) (t0 tb : Nat) (hf : ∀ c, c ∉ (l ++ [r]).map (·.1) → f c = [c]) (hs : ∀ c, 1 ≤ (f c).length ∧ (f c).length ≤ 6) (hl : l.length ≤ 15) :
    TblOk f ((l ++ [r]).map (·.1)) ⟨tb, tabL (tab0 t0) (rdL f 0 (l ++ [r])), some ⟨r.2.1, 0, none⟩, r.2.2.1⟩ := by
  refine ⟨by rw [tabL_len, tab0_len], ?_, rfl, fun c => ?_, hn, hs, by simp; omega⟩
  · have := r.1.toNat_lt
    rw [rdL_app, tabL_last (by omega) _ _ (tab0_len t0)]
    simp
  · rcases rounds_cell f (l ++ [r]) hn t0 c with ⟨h1, h2⟩ | ⟨t, k, n, cap, h1, h2⟩
    · exact .inl ⟨h1, hf c h1, h2⟩
    · exact .inr ⟨List.mem_map.2 ⟨_, h1, rfl⟩, _, _, h2⟩
theorem rounds_fact (f : UInt8 → List UInt8) (l : List (UInt8 × Nat × Nat × Nat × Nat)) (hn : (l.map (·.1)).Nodup) (t0 : Nat) {w : World} (h : ∀ o t k n cap, (o, t, k, n, cap) ∈ l → SlAt (some ⟨n, 0, none⟩) (f o).length (u8s (f o)) w) :
    ∀ c : UInt8, ∀ a cap, (tabL (tab0 t0) (rdL f 0 l))[c.toNat]? = some (.slice (some a) (f c).length cap) → SlAt (some a) (f c).length (u8s (f c)) w := by
  intro c a cap hc
  rcases rounds_cell f l hn t0 c with ⟨_, h2⟩ | ⟨t, k, n, cap', h1, h2⟩
  · rw [h2] at hc; cases hc
  · rw [h2] at hc
    cases hc
    exact h c t k n _ h1
end Go.Proofs.YtahjbnfbilkbcaaGreatDoor

/-
  Contract: (*strings.Replacer).Replace, for the first time: the bytes that Quote replaces.
-/
namespace Go.Proofs.YtahjbnfbilkbcaaGreatDoor
open Go.AX Go.RowKit
set_option maxRecDepth 20000

theorem qt_sz (c : UInt8) : 1 ≤ (qt c).length ∧ (qt c).length ≤ 6 := by
  unfold qt
  split
  · decide
  split
  · decide
  split
  · decide
  split
  · decide
  split
  · decide
  exact ⟨Nat.le_refl 1, Nat.le_of_ble_eq_true rfl⟩
theorem qt_other (c : UInt8) (h : c ∉ qtL) : qt c = [c] := by
  simp only [qtL, List.mem_cons, List.not_mem_nil, or_false, not_or] at h
  unfold qt
  simp [h]
set_option maxHeartbeats 4000000 in
theorem first_qt (s : List UInt8) (b c k : Nat) (hs : s.length ≤ 1000000) : SpecH Tryz.prog 120 (pvs [.pointer (some ⟨b, 0, none⟩), .string (bs s)]) [.app 9 1 (olnw qt qtL.reverse) (some ⟨c, 0, none⟩) 10 k, .app 173 5 (replC 0 0 .nilIface (some ⟨c, 0, none⟩) 10 k) (some ⟨b, 0, none⟩) 1 1]
    (RetG (TblOk qt qtL) (fun _ => .string (bs (s.flatMap qt))) fun d => [.dead, .fact fun w => SlAt (some ⟨b, 0, none⟩) 5 (replC 1 0 (.iface 217 (.pointer (some ⟨d.b, 0, none⟩))) none 0 0) w ∧ TblF qt qtL d w]) := by
  refine SpecH.seal (fun _ _ => Nat.le_refl _) ?_
  refine spec_of_exec hm Tryz.func120 (by kernel_rfl) rfl rfl ?_
  (first | refine wX ?_ | exact wZ)
  refine SpecH.args (args' := pvs [.pointer (some ⟨b, 0, none⟩), .func (.func 133) #[.pointer (some ⟨b, 0, none⟩)] #[]]) (by simp [pvs, opvs, opv, nth, plainEv]; rfl) ?_
  refine SpecH.once (P := Tryz.prog) (fd := 132) (fb := 133) (p := .pointer (some ⟨b, 0, none⟩)) (T := 173) (m := 5) (b := b) (xs := replC 0 0 .nilIface (some ⟨c, 0, none⟩) 10 k) (H := [.app 9 1 (olnw qt qtL.reverse) (some ⟨c, 0, none⟩) 10 k, .app 173 5 (replC 0 0 .nilIface (some ⟨c, 0, none⟩) 10 k) (some ⟨b, 0, none⟩) 1 1]) (callOk Tryz.func132 (by kernel_rfl) rfl) 1 rfl rfl rfl (fun Q w => do_first b 0 _ Q w) ?_
  refine spec_of_exec hm Tryz.func133 (by kernel_rfl) rfl rfl ?_
  (first | refine wX ?_ | exact wZ)
  refine spec_of_exec hm Tryz.func153 (by kernel_rfl) rfl rfl ?_
  (first | refine wX ?_ | exact wZ)
  refine LdN.one (a := some ⟨b, 0, none⟩) (q := 4) (.slice (some ⟨c, 0, none⟩) 10 k) rfl (fun w hw => hw.2.1) rfl ?_
  (first | refine wX ?_ | exact wZ)
  refine LoopN.unroll 6 ?_
  ((conv => whnf); (repeat ((first | refine VrN.norm (wrap_i64 (by omega)) ?_ | refine VrN.keep ?_ | refine Nd.mk (by decide +kernel) ?_ | refine Nd.mk (by omega) ?_ | refine Nd.mk ⟨rfl, by decide +kernel, by decide +kernel⟩ ?_ | refine LdN.one _ rfl (fun w hw => hw.1) rfl ?_); (conv => whnf))))
  refine EffW.mkEmpty 5 rfl Tryz.underlying40 rfl rfl rfl rfl (by decide +kernel) fun t => ?_
  ((conv => whnf); (repeat ((first | refine VrN.norm (wrap_i64 (by omega)) ?_ | refine VrN.keep ?_ | refine Nd.mk (by decide +kernel) ?_ | refine Nd.mk (by omega) ?_ | refine Nd.mk ⟨rfl, by decide +kernel, by decide +kernel⟩ ?_ | refine LdN.one _ rfl (fun w hw => hw.1) rfl ?_); (conv => whnf))))
  refine BoxN.known _ rfl fun tb => ?_
  ((conv => whnf); (repeat ((first | refine VrN.norm (wrap_i64 (by omega)) ?_ | refine VrN.keep ?_ | refine Nd.mk (by decide +kernel) ?_ | refine Nd.mk (by omega) ?_ | refine Nd.mk ⟨rfl, by decide +kernel, by decide +kernel⟩ ?_ | refine LdN.one _ rfl (fun w hw => hw.1) rfl ?_); (conv => whnf))))
  refine EffW.appTo (i := 3) (q := 0) (tab0 t) 257 rfl rfl rfl rfl rfl rfl rfl (Nat.le_of_ble_eq_true rfl) rfl rfl ?_
  ((conv => whnf); (repeat ((first | refine VrN.norm (wrap_i64 (by omega)) ?_ | refine VrN.keep ?_ | refine Nd.mk (by decide +kernel) ?_ | refine Nd.mk (by omega) ?_ | refine Nd.mk ⟨rfl, by decide +kernel, by decide +kernel⟩ ?_ | refine LdN.one _ rfl (fun w hw => hw.1) rfl ?_); (conv => whnf))))
  refine LoopN.unroll 6 ?_
  ((conv => whnf); (repeat ((first | refine VrN.norm (wrap_i64 (by omega)) ?_ | refine VrN.keep ?_ | refine Nd.mk (by decide +kernel) ?_ | refine Nd.mk (by omega) ?_ | refine Nd.mk ⟨rfl, by decide +kernel, by decide +kernel⟩ ?_ | refine LdN.one _ rfl (fun w hw => hw.1) rfl ?_); (conv => whnf))))
  refine LdN.fld (a := some ⟨tb, 0, none⟩) (q := 0) _ rfl (fun w hw => hw.2.2.2.1) rfl ?_
  ((conv => whnf); (repeat ((first | refine VrN.norm (wrap_i64 (by omega)) ?_ | refine VrN.keep ?_ | refine Nd.mk (by decide +kernel) ?_ | refine Nd.mk (by omega) ?_ | refine Nd.mk ⟨rfl, by decide +kernel, by decide +kernel⟩ ?_ | refine LdN.one _ rfl (fun w hw => hw.1) rfl ?_); (conv => whnf))))
  refine LdN.fld (a := some ⟨tb, 0, none⟩) (q := 0) _ rfl (fun w hw => hw.2.2.2.1) rfl ?_
  ((conv => whnf); (repeat ((first | refine VrN.norm (wrap_i64 (by omega)) ?_ | refine VrN.keep ?_ | refine Nd.mk (by decide +kernel) ?_ | refine Nd.mk (by omega) ?_ | refine Nd.mk ⟨rfl, by decide +kernel, by decide +kernel⟩ ?_ | refine LdN.one _ rfl (fun w hw => hw.1) rfl ?_); (conv => whnf))))
  refine RwN.own ?_
  ((conv => whnf); (repeat ((first | refine VrN.norm (wrap_i64 (by omega)) ?_ | refine VrN.keep ?_ | refine Nd.mk (by decide +kernel) ?_ | refine Nd.mk (by omega) ?_ | refine Nd.mk ⟨rfl, by decide +kernel, by decide +kernel⟩ ?_ | refine LdN.one _ rfl (fun w hw => hw.1) rfl ?_); (conv => whnf))))
  refine ReadW.bytesOwn [0] rfl rfl Tryz.underlying84 Tryz.underlying5 Tryz.underlying9 rfl rfl ?_
  ((conv => whnf); (repeat ((first | refine VrN.norm (wrap_i64 (by omega)) ?_ | refine VrN.keep ?_ | refine Nd.mk (by decide +kernel) ?_ | refine Nd.mk (by omega) ?_ | refine Nd.mk ⟨rfl, by decide +kernel, by decide +kernel⟩ ?_ | refine LdN.one _ rfl (fun w hw => hw.1) rfl ?_); (conv => whnf))))
  refine RwN.own ?_
  ((conv => whnf); (repeat ((first | refine VrN.norm (wrap_i64 (by omega)) ?_ | refine VrN.keep ?_ | refine Nd.mk (by decide +kernel) ?_ | refine Nd.mk (by omega) ?_ | refine Nd.mk ⟨rfl, by decide +kernel, by decide +kernel⟩ ?_ | refine LdN.one _ rfl (fun w hw => hw.1) rfl ?_); (conv => whnf))))
  refine AppN.grow 2 _ _ rfl rfl ⟨by decide, ⟨Nat.le_of_ble_eq_true rfl, by omega⟩, Nat.one_ne_zero⟩ fun t1 k1 h1 h1' => ?_
  ((conv => whnf); (repeat ((first | refine VrN.norm (wrap_i64 (by omega)) ?_ | refine VrN.keep ?_ | refine Nd.mk (by decide +kernel) ?_ | refine Nd.mk (by omega) ?_ | refine Nd.mk ⟨rfl, by decide +kernel, by decide +kernel⟩ ?_ | refine LdN.one _ rfl (fun w hw => hw.1) rfl ?_); (conv => whnf))))
  refine EffW.appTo (i := 3) (q := 256) (ys := [_]) _ 257 rfl rfl rfl rfl rfl rfl rfl (Nat.le_of_ble_eq_true rfl) (put_set _ (by simp [tab0])) rfl ?_
  ((conv => whnf); (repeat ((first | refine VrN.norm (wrap_i64 (by omega)) ?_ | refine VrN.keep ?_ | refine Nd.mk (by decide +kernel) ?_ | refine Nd.mk (by omega) ?_ | refine Nd.mk ⟨rfl, by decide +kernel, by decide +kernel⟩ ?_ | refine LdN.one _ rfl (fun w hw => hw.1) rfl ?_); (conv => whnf))))
  refine EffW.bytesOf _ rfl Tryz.underlying9 Tryz.underlying84 Tryz.underlying5 rfl (by decide) fun n1 c1 g1 g1' => ?_
  ((conv => whnf); (repeat ((first | refine VrN.norm (wrap_i64 (by omega)) ?_ | refine VrN.keep ?_ | refine Nd.mk (by decide +kernel) ?_ | refine Nd.mk (by omega) ?_ | refine Nd.mk ⟨rfl, by decide +kernel, by decide +kernel⟩ ?_ | refine LdN.one _ rfl (fun w hw => hw.1) rfl ?_); (conv => whnf))))
  refine EffW.appTo (i := 3) (q := 0) (ys := [_]) _ 257 rfl rfl rfl rfl rfl rfl rfl (Nat.le_of_ble_eq_true rfl) (put_set _ (by simp [tab0])) rfl ?_
  ((conv => whnf); (repeat ((first | refine VrN.norm (wrap_i64 (by omega)) ?_ | refine VrN.keep ?_ | refine Nd.mk (by decide +kernel) ?_ | refine Nd.mk (by omega) ?_ | refine Nd.mk ⟨rfl, by decide +kernel, by decide +kernel⟩ ?_ | refine LdN.one _ rfl (fun w hw => hw.1) rfl ?_); (conv => whnf))))
  refine LdN.fld (a := some ⟨tb, 0, none⟩) (q := 0) _ rfl (fun w hw => hw.2.2.2.1) rfl ?_
  ((conv => whnf); (repeat ((first | refine VrN.norm (wrap_i64 (by omega)) ?_ | refine VrN.keep ?_ | refine Nd.mk (by decide +kernel) ?_ | refine Nd.mk (by omega) ?_ | refine Nd.mk ⟨rfl, by decide +kernel, by decide +kernel⟩ ?_ | refine LdN.one _ rfl (fun w hw => hw.1) rfl ?_); (conv => whnf))))
  refine LdN.fld (a := some ⟨tb, 0, none⟩) (q := 0) _ rfl (fun w hw => hw.2.2.2.1) rfl ?_
  ((conv => whnf); (repeat ((first | refine VrN.norm (wrap_i64 (by omega)) ?_ | refine VrN.keep ?_ | refine Nd.mk (by decide +kernel) ?_ | refine Nd.mk (by omega) ?_ | refine Nd.mk ⟨rfl, by decide +kernel, by decide +kernel⟩ ?_ | refine LdN.one _ rfl (fun w hw => hw.1) rfl ?_); (conv => whnf))))
  refine RwN.own ?_
  ((conv => whnf); (repeat ((first | refine VrN.norm (wrap_i64 (by omega)) ?_ | refine VrN.keep ?_ | refine Nd.mk (by decide +kernel) ?_ | refine Nd.mk (by omega) ?_ | refine Nd.mk ⟨rfl, by decide +kernel, by decide +kernel⟩ ?_ | refine LdN.one _ rfl (fun w hw => hw.1) rfl ?_); (conv => whnf))))
  refine ReadW.bytesOwn [10] rfl rfl Tryz.underlying84 Tryz.underlying5 Tryz.underlying9 rfl rfl ?_
  ((conv => whnf); (repeat ((first | refine VrN.norm (wrap_i64 (by omega)) ?_ | refine VrN.keep ?_ | refine Nd.mk (by decide +kernel) ?_ | refine Nd.mk (by omega) ?_ | refine Nd.mk ⟨rfl, by decide +kernel, by decide +kernel⟩ ?_ | refine LdN.one _ rfl (fun w hw => hw.1) rfl ?_); (conv => whnf))))
  refine RwN.own ?_
  ((conv => whnf); (repeat ((first | refine VrN.norm (wrap_i64 (by omega)) ?_ | refine VrN.keep ?_ | refine Nd.mk (by decide +kernel) ?_ | refine Nd.mk (by omega) ?_ | refine Nd.mk ⟨rfl, by decide +kernel, by decide +kernel⟩ ?_ | refine LdN.one _ rfl (fun w hw => hw.1) rfl ?_); (conv => whnf))))
  refine AppN.grow 2 _ _ rfl rfl ⟨by decide, ⟨Nat.le_of_ble_eq_true rfl, by omega⟩, Nat.one_ne_zero⟩ fun t2 k2 h2 h2' => ?_
  ((conv => whnf); (repeat ((first | refine VrN.norm (wrap_i64 (by omega)) ?_ | refine VrN.keep ?_ | refine Nd.mk (by decide +kernel) ?_ | refine Nd.mk (by omega) ?_ | refine Nd.mk ⟨rfl, by decide +kernel, by decide +kernel⟩ ?_ | refine LdN.one _ rfl (fun w hw => hw.1) rfl ?_); (conv => whnf))))
  refine EffW.appTo (i := 3) (q := 256) (ys := [_]) _ 257 rfl rfl rfl rfl rfl rfl rfl (Nat.le_of_ble_eq_true rfl) (put_set _ (by simp [tab0])) rfl ?_
  ((conv => whnf); (repeat ((first | refine VrN.norm (wrap_i64 (by omega)) ?_ | refine VrN.keep ?_ | refine Nd.mk (by decide +kernel) ?_ | refine Nd.mk (by omega) ?_ | refine Nd.mk ⟨rfl, by decide +kernel, by decide +kernel⟩ ?_ | refine LdN.one _ rfl (fun w hw => hw.1) rfl ?_); (conv => whnf))))
  refine EffW.bytesOf _ rfl Tryz.underlying9 Tryz.underlying84 Tryz.underlying5 rfl (by decide) fun n2 c2 g2 g2' => ?_
  ((conv => whnf); (repeat ((first | refine VrN.norm (wrap_i64 (by omega)) ?_ | refine VrN.keep ?_ | refine Nd.mk (by decide +kernel) ?_ | refine Nd.mk (by omega) ?_ | refine Nd.mk ⟨rfl, by decide +kernel, by decide +kernel⟩ ?_ | refine LdN.one _ rfl (fun w hw => hw.1) rfl ?_); (conv => whnf))))
  refine EffW.appTo (i := 3) (q := 10) (ys := [_]) _ 257 rfl rfl rfl rfl rfl rfl rfl (Nat.le_of_ble_eq_true rfl) (put_set _ (by simp [tab0])) rfl ?_
  ((conv => whnf); (repeat ((first | refine VrN.norm (wrap_i64 (by omega)) ?_ | refine VrN.keep ?_ | refine Nd.mk (by decide +kernel) ?_ | refine Nd.mk (by omega) ?_ | refine Nd.mk ⟨rfl, by decide +kernel, by decide +kernel⟩ ?_ | refine LdN.one _ rfl (fun w hw => hw.1) rfl ?_); (conv => whnf))))
  refine LdN.fld (a := some ⟨tb, 0, none⟩) (q := 0) _ rfl (fun w hw => hw.2.2.2.1) rfl ?_
  ((conv => whnf); (repeat ((first | refine VrN.norm (wrap_i64 (by omega)) ?_ | refine VrN.keep ?_ | refine Nd.mk (by decide +kernel) ?_ | refine Nd.mk (by omega) ?_ | refine Nd.mk ⟨rfl, by decide +kernel, by decide +kernel⟩ ?_ | refine LdN.one _ rfl (fun w hw => hw.1) rfl ?_); (conv => whnf))))
  refine LdN.fld (a := some ⟨tb, 0, none⟩) (q := 0) _ rfl (fun w hw => hw.2.2.2.1) rfl ?_
  ((conv => whnf); (repeat ((first | refine VrN.norm (wrap_i64 (by omega)) ?_ | refine VrN.keep ?_ | refine Nd.mk (by decide +kernel) ?_ | refine Nd.mk (by omega) ?_ | refine Nd.mk ⟨rfl, by decide +kernel, by decide +kernel⟩ ?_ | refine LdN.one _ rfl (fun w hw => hw.1) rfl ?_); (conv => whnf))))
  refine RwN.own ?_
  ((conv => whnf); (repeat ((first | refine VrN.norm (wrap_i64 (by omega)) ?_ | refine VrN.keep ?_ | refine Nd.mk (by decide +kernel) ?_ | refine Nd.mk (by omega) ?_ | refine Nd.mk ⟨rfl, by decide +kernel, by decide +kernel⟩ ?_ | refine LdN.one _ rfl (fun w hw => hw.1) rfl ?_); (conv => whnf))))
  refine ReadW.bytesOwn [35] rfl rfl Tryz.underlying84 Tryz.underlying5 Tryz.underlying9 rfl rfl ?_
  ((conv => whnf); (repeat ((first | refine VrN.norm (wrap_i64 (by omega)) ?_ | refine VrN.keep ?_ | refine Nd.mk (by decide +kernel) ?_ | refine Nd.mk (by omega) ?_ | refine Nd.mk ⟨rfl, by decide +kernel, by decide +kernel⟩ ?_ | refine LdN.one _ rfl (fun w hw => hw.1) rfl ?_); (conv => whnf))))
  refine RwN.own ?_
  ((conv => whnf); (repeat ((first | refine VrN.norm (wrap_i64 (by omega)) ?_ | refine VrN.keep ?_ | refine Nd.mk (by decide +kernel) ?_ | refine Nd.mk (by omega) ?_ | refine Nd.mk ⟨rfl, by decide +kernel, by decide +kernel⟩ ?_ | refine LdN.one _ rfl (fun w hw => hw.1) rfl ?_); (conv => whnf))))
  refine AppN.grow 2 _ _ rfl rfl ⟨by decide, ⟨Nat.le_of_ble_eq_true rfl, by omega⟩, Nat.one_ne_zero⟩ fun t3 k3 h3 h3' => ?_
  ((conv => whnf); (repeat ((first | refine VrN.norm (wrap_i64 (by omega)) ?_ | refine VrN.keep ?_ | refine Nd.mk (by decide +kernel) ?_ | refine Nd.mk (by omega) ?_ | refine Nd.mk ⟨rfl, by decide +kernel, by decide +kernel⟩ ?_ | refine LdN.one _ rfl (fun w hw => hw.1) rfl ?_); (conv => whnf))))
  refine EffW.appTo (i := 3) (q := 256) (ys := [_]) _ 257 rfl rfl rfl rfl rfl rfl rfl (Nat.le_of_ble_eq_true rfl) (put_set _ (by simp [tab0])) rfl ?_
  ((conv => whnf); (repeat ((first | refine VrN.norm (wrap_i64 (by omega)) ?_ | refine VrN.keep ?_ | refine Nd.mk (by decide +kernel) ?_ | refine Nd.mk (by omega) ?_ | refine Nd.mk ⟨rfl, by decide +kernel, by decide +kernel⟩ ?_ | refine LdN.one _ rfl (fun w hw => hw.1) rfl ?_); (conv => whnf))))
  refine EffW.bytesOf _ rfl Tryz.underlying9 Tryz.underlying84 Tryz.underlying5 rfl (by decide) fun n3 c3 g3 g3' => ?_
  ((conv => whnf); (repeat ((first | refine VrN.norm (wrap_i64 (by omega)) ?_ | refine VrN.keep ?_ | refine Nd.mk (by decide +kernel) ?_ | refine Nd.mk (by omega) ?_ | refine Nd.mk ⟨rfl, by decide +kernel, by decide +kernel⟩ ?_ | refine LdN.one _ rfl (fun w hw => hw.1) rfl ?_); (conv => whnf))))
  refine EffW.appTo (i := 3) (q := 35) (ys := [_]) _ 257 rfl rfl rfl rfl rfl rfl rfl (Nat.le_of_ble_eq_true rfl) (put_set _ (by simp [tab0])) rfl ?_
  ((conv => whnf); (repeat ((first | refine VrN.norm (wrap_i64 (by omega)) ?_ | refine VrN.keep ?_ | refine Nd.mk (by decide +kernel) ?_ | refine Nd.mk (by omega) ?_ | refine Nd.mk ⟨rfl, by decide +kernel, by decide +kernel⟩ ?_ | refine LdN.one _ rfl (fun w hw => hw.1) rfl ?_); (conv => whnf))))
  refine LdN.fld (a := some ⟨tb, 0, none⟩) (q := 0) _ rfl (fun w hw => hw.2.2.2.1) rfl ?_
  ((conv => whnf); (repeat ((first | refine VrN.norm (wrap_i64 (by omega)) ?_ | refine VrN.keep ?_ | refine Nd.mk (by decide +kernel) ?_ | refine Nd.mk (by omega) ?_ | refine Nd.mk ⟨rfl, by decide +kernel, by decide +kernel⟩ ?_ | refine LdN.one _ rfl (fun w hw => hw.1) rfl ?_); (conv => whnf))))
  refine LdN.fld (a := some ⟨tb, 0, none⟩) (q := 0) _ rfl (fun w hw => hw.2.2.2.1) rfl ?_
  ((conv => whnf); (repeat ((first | refine VrN.norm (wrap_i64 (by omega)) ?_ | refine VrN.keep ?_ | refine Nd.mk (by decide +kernel) ?_ | refine Nd.mk (by omega) ?_ | refine Nd.mk ⟨rfl, by decide +kernel, by decide +kernel⟩ ?_ | refine LdN.one _ rfl (fun w hw => hw.1) rfl ?_); (conv => whnf))))
  refine RwN.own ?_
  ((conv => whnf); (repeat ((first | refine VrN.norm (wrap_i64 (by omega)) ?_ | refine VrN.keep ?_ | refine Nd.mk (by decide +kernel) ?_ | refine Nd.mk (by omega) ?_ | refine Nd.mk ⟨rfl, by decide +kernel, by decide +kernel⟩ ?_ | refine LdN.one _ rfl (fun w hw => hw.1) rfl ?_); (conv => whnf))))
  refine ReadW.bytesOwn [34] rfl rfl Tryz.underlying84 Tryz.underlying5 Tryz.underlying9 rfl rfl ?_
  ((conv => whnf); (repeat ((first | refine VrN.norm (wrap_i64 (by omega)) ?_ | refine VrN.keep ?_ | refine Nd.mk (by decide +kernel) ?_ | refine Nd.mk (by omega) ?_ | refine Nd.mk ⟨rfl, by decide +kernel, by decide +kernel⟩ ?_ | refine LdN.one _ rfl (fun w hw => hw.1) rfl ?_); (conv => whnf))))
  refine RwN.own ?_
  ((conv => whnf); (repeat ((first | refine VrN.norm (wrap_i64 (by omega)) ?_ | refine VrN.keep ?_ | refine Nd.mk (by decide +kernel) ?_ | refine Nd.mk (by omega) ?_ | refine Nd.mk ⟨rfl, by decide +kernel, by decide +kernel⟩ ?_ | refine LdN.one _ rfl (fun w hw => hw.1) rfl ?_); (conv => whnf))))
  refine AppN.grow 2 _ _ rfl rfl ⟨by decide, ⟨Nat.le_of_ble_eq_true rfl, by omega⟩, Nat.one_ne_zero⟩ fun t4 k4 h4 h4' => ?_
  ((conv => whnf); (repeat ((first | refine VrN.norm (wrap_i64 (by omega)) ?_ | refine VrN.keep ?_ | refine Nd.mk (by decide +kernel) ?_ | refine Nd.mk (by omega) ?_ | refine Nd.mk ⟨rfl, by decide +kernel, by decide +kernel⟩ ?_ | refine LdN.one _ rfl (fun w hw => hw.1) rfl ?_); (conv => whnf))))
  refine EffW.appTo (i := 3) (q := 256) (ys := [_]) _ 257 rfl rfl rfl rfl rfl rfl rfl (Nat.le_of_ble_eq_true rfl) (put_set _ (by simp [tab0])) rfl ?_
  ((conv => whnf); (repeat ((first | refine VrN.norm (wrap_i64 (by omega)) ?_ | refine VrN.keep ?_ | refine Nd.mk (by decide +kernel) ?_ | refine Nd.mk (by omega) ?_ | refine Nd.mk ⟨rfl, by decide +kernel, by decide +kernel⟩ ?_ | refine LdN.one _ rfl (fun w hw => hw.1) rfl ?_); (conv => whnf))))
  refine EffW.bytesOf _ rfl Tryz.underlying9 Tryz.underlying84 Tryz.underlying5 rfl (by decide) fun n4 c4 g4 g4' => ?_
  ((conv => whnf); (repeat ((first | refine VrN.norm (wrap_i64 (by omega)) ?_ | refine VrN.keep ?_ | refine Nd.mk (by decide +kernel) ?_ | refine Nd.mk (by omega) ?_ | refine Nd.mk ⟨rfl, by decide +kernel, by decide +kernel⟩ ?_ | refine LdN.one _ rfl (fun w hw => hw.1) rfl ?_); (conv => whnf))))
  refine EffW.appTo (i := 3) (q := 34) (ys := [_]) _ 257 rfl rfl rfl rfl rfl rfl rfl (Nat.le_of_ble_eq_true rfl) (put_set _ (by simp [tab0])) rfl ?_
  ((conv => whnf); (repeat ((first | refine VrN.norm (wrap_i64 (by omega)) ?_ | refine VrN.keep ?_ | refine Nd.mk (by decide +kernel) ?_ | refine Nd.mk (by omega) ?_ | refine Nd.mk ⟨rfl, by decide +kernel, by decide +kernel⟩ ?_ | refine LdN.one _ rfl (fun w hw => hw.1) rfl ?_); (conv => whnf))))
  refine LdN.fld (a := some ⟨tb, 0, none⟩) (q := 0) _ rfl (fun w hw => hw.2.2.2.1) rfl ?_
  ((conv => whnf); (repeat ((first | refine VrN.norm (wrap_i64 (by omega)) ?_ | refine VrN.keep ?_ | refine Nd.mk (by decide +kernel) ?_ | refine Nd.mk (by omega) ?_ | refine Nd.mk ⟨rfl, by decide +kernel, by decide +kernel⟩ ?_ | refine LdN.one _ rfl (fun w hw => hw.1) rfl ?_); (conv => whnf))))
  refine LdN.fld (a := some ⟨tb, 0, none⟩) (q := 0) _ rfl (fun w hw => hw.2.2.2.1) rfl ?_
  ((conv => whnf); (repeat ((first | refine VrN.norm (wrap_i64 (by omega)) ?_ | refine VrN.keep ?_ | refine Nd.mk (by decide +kernel) ?_ | refine Nd.mk (by omega) ?_ | refine Nd.mk ⟨rfl, by decide +kernel, by decide +kernel⟩ ?_ | refine LdN.one _ rfl (fun w hw => hw.1) rfl ?_); (conv => whnf))))
  refine RwN.own ?_
  ((conv => whnf); (repeat ((first | refine VrN.norm (wrap_i64 (by omega)) ?_ | refine VrN.keep ?_ | refine Nd.mk (by decide +kernel) ?_ | refine Nd.mk (by omega) ?_ | refine Nd.mk ⟨rfl, by decide +kernel, by decide +kernel⟩ ?_ | refine LdN.one _ rfl (fun w hw => hw.1) rfl ?_); (conv => whnf))))
  refine ReadW.bytesOwn [92] rfl rfl Tryz.underlying84 Tryz.underlying5 Tryz.underlying9 rfl rfl ?_
  ((conv => whnf); (repeat ((first | refine VrN.norm (wrap_i64 (by omega)) ?_ | refine VrN.keep ?_ | refine Nd.mk (by decide +kernel) ?_ | refine Nd.mk (by omega) ?_ | refine Nd.mk ⟨rfl, by decide +kernel, by decide +kernel⟩ ?_ | refine LdN.one _ rfl (fun w hw => hw.1) rfl ?_); (conv => whnf))))
  refine RwN.own ?_
  ((conv => whnf); (repeat ((first | refine VrN.norm (wrap_i64 (by omega)) ?_ | refine VrN.keep ?_ | refine Nd.mk (by decide +kernel) ?_ | refine Nd.mk (by omega) ?_ | refine Nd.mk ⟨rfl, by decide +kernel, by decide +kernel⟩ ?_ | refine LdN.one _ rfl (fun w hw => hw.1) rfl ?_); (conv => whnf))))
  refine AppN.grow 2 _ _ rfl rfl ⟨by decide, ⟨Nat.le_of_ble_eq_true rfl, by omega⟩, Nat.one_ne_zero⟩ fun t5 k5 h5 h5' => ?_
  ((conv => whnf); (repeat ((first | refine VrN.norm (wrap_i64 (by omega)) ?_ | refine VrN.keep ?_ | refine Nd.mk (by decide +kernel) ?_ | refine Nd.mk (by omega) ?_ | refine Nd.mk ⟨rfl, by decide +kernel, by decide +kernel⟩ ?_ | refine LdN.one _ rfl (fun w hw => hw.1) rfl ?_); (conv => whnf))))
  refine EffW.appTo (i := 3) (q := 256) (ys := [_]) _ 257 rfl rfl rfl rfl rfl rfl rfl (Nat.le_of_ble_eq_true rfl) (put_set _ (by simp [tab0])) rfl ?_
  ((conv => whnf); (repeat ((first | refine VrN.norm (wrap_i64 (by omega)) ?_ | refine VrN.keep ?_ | refine Nd.mk (by decide +kernel) ?_ | refine Nd.mk (by omega) ?_ | refine Nd.mk ⟨rfl, by decide +kernel, by decide +kernel⟩ ?_ | refine LdN.one _ rfl (fun w hw => hw.1) rfl ?_); (conv => whnf))))
  refine EffW.bytesOf _ rfl Tryz.underlying9 Tryz.underlying84 Tryz.underlying5 rfl (by decide) fun n5 c5 g5 g5' => ?_
  ((conv => whnf); (repeat ((first | refine VrN.norm (wrap_i64 (by omega)) ?_ | refine VrN.keep ?_ | refine Nd.mk (by decide +kernel) ?_ | refine Nd.mk (by omega) ?_ | refine Nd.mk ⟨rfl, by decide +kernel, by decide +kernel⟩ ?_ | refine LdN.one _ rfl (fun w hw => hw.1) rfl ?_); (conv => whnf))))
  refine EffW.appTo (i := 3) (q := 92) (ys := [_]) _ 257 rfl rfl rfl rfl rfl rfl rfl (Nat.le_of_ble_eq_true rfl) (put_set _ (by simp [tab0])) rfl ?_
  ((conv => whnf); (repeat ((first | refine VrN.norm (wrap_i64 (by omega)) ?_ | refine VrN.keep ?_ | refine Nd.mk (by decide +kernel) ?_ | refine Nd.mk (by omega) ?_ | refine Nd.mk ⟨rfl, by decide +kernel, by decide +kernel⟩ ?_ | refine LdN.one _ rfl (fun w hw => hw.1) rfl ?_); (conv => whnf))))
  refine EffW.appTo (i := 1) (q := 3) (ys := [.iface 217 (.pointer (some ⟨tb, 0, none⟩))]) (replC 0 1 (.iface 217 (.pointer (some ⟨tb, 0, none⟩))) (some ⟨c, 0, none⟩) 10 k) 5 rfl rfl rfl rfl rfl rfl rfl (Nat.le_of_ble_eq_true rfl) rfl rfl ?_
  (first | refine wX ?_ | exact wZ)
  refine EffW.appTo (i := 1) (q := 4) (ys := [.slice none 0 0]) (replC 0 1 (.iface 217 (.pointer (some ⟨tb, 0, none⟩))) none 0 0) 5 rfl rfl rfl rfl rfl rfl rfl (Nat.le_of_ble_eq_true rfl) rfl rfl ?_
  (first | refine wX ?_ | exact wZ)
  refine ⟨rfl, 5, _, rfl, ⟨_, rfl⟩, rfl, ?_⟩
  (first | refine wX ?_ | exact wZ)
  have hD := rounds_ok qt [(0, t1, k1, n1, c1), (10, t2, k2, n2, c2), (35, t3, k3, n3, c3), (34, t4, k4, n4, c4)] (92, t5, k5, n5, c5) (show qtL.Nodup by decide) t tb (qt_other · ·) qt_sz (Nat.le_of_ble_eq_true rfl)
  refine LdN.one (a := some ⟨b, 0, none⟩) (q := 3) (.iface 217 (.pointer (some ⟨tb, 0, none⟩))) rfl (fun w hw => hw.2.1) rfl ?_
  (first | refine wX ?_ | exact wZ)
  refine InvN.intro 225 (.pointer (some ⟨tb, 0, none⟩)) (fun _ => by kernel_rfl) ?_
  have hF : ∀ w : World, SlAt (some ⟨tb, 0, none⟩) (1 * 257) (tabL (tab0 t) (rdL qt 0 [(0, t1, k1, n1, c1), (10, t2, k2, n2, c2), (35, t3, k3, n3, c3), (34, t4, k4, n4, c4), (92, t5, k5, n5, c5)])) w → SlAt (some ⟨t5, 0, none⟩) (5 * 1) (qtL.map fun c => .string (bs [c])) w →
      SlAt (some ⟨n1, 0, none⟩) ((qt 0).length * 1) (u8s (qt 0)) w → SlAt (some ⟨n2, 0, none⟩) ((qt 10).length * 1) (u8s (qt 10)) w → SlAt (some ⟨n3, 0, none⟩) ((qt 35).length * 1) (u8s (qt 35)) w → SlAt (some ⟨n4, 0, none⟩) ((qt 34).length * 1) (u8s (qt 34)) w → SlAt (some ⟨n5, 0, none⟩) ((qt 92).length * 1) (u8s (qt 92)) w →
      TblF qt qtL ⟨tb, tabL (tab0 t) (rdL qt 0 ([(0, t1, k1, n1, c1), (10, t2, k2, n2, c2), (35, t3, k3, n3, c3), (34, t4, k4, n4, c4)] ++ [(92, t5, k5, n5, c5)])), some ⟨t5, 0, none⟩, k5⟩ w := by
    intro w f1 f2 f3 f4 f5 f6 f7
    rw [Nat.mul_one] at f3 f4 f5 f6 f7
    refine ⟨f1, f2, rounds_fact qt [(0, t1, k1, n1, c1), (10, t2, k2, n2, c2), (35, t3, k3, n3, c3), (34, t4, k4, n4, c4), (92, t5, k5, n5, c5)] (show qtL.Nodup by decide) t fun o t' k' n' cap' h => ?_⟩
    simp only [List.mem_cons, Prod.mk.injEq, List.not_mem_nil, or_false] at h
    rcases h with ⟨rfl, _, _, rfl, _⟩ | ⟨rfl, _, _, rfl, _⟩ | ⟨rfl, _, _, rfl, _⟩ | ⟨rfl, _, _, rfl, _⟩ | ⟨rfl, _, _, rfl, _⟩
    · exact f3
    · exact f4
    · exact f5
    · exact f6
    · exact f7
  refine call1 (bsr_c qt qtL _ hD s hs _ fun w hw => hF w hw.2.2.2.1 hw.2.2.1 hw.2.2.2.2.1 hw.2.2.2.2.2.1 hw.2.2.2.2.2.2.1 hw.2.2.2.2.2.2.2.1 hw.2.2.2.2.2.2.2.2.1) ?_
  (first | refine wX ?_ | exact wZ)
  refine ⟨_, hD, rfl, Nat.le_of_ble_eq_true rfl, fun e he => ?_⟩
  rcases List.mem_cons.1 he with rfl | he
  · exact .inl rfl
  · obtain rfl := List.mem_singleton.1 he
    exact .inr ⟨_, rfl, fun w hw => ⟨hw.2.1, hF w hw.2.2.2.1 hw.2.2.1 hw.2.2.2.2.1 hw.2.2.2.2.2.1 hw.2.2.2.2.2.2.1 hw.2.2.2.2.2.2.2.1 hw.2.2.2.2.2.2.2.2.1⟩⟩
end Go.Proofs.YtahjbnfbilkbcaaGreatDoor

/-
  Contract: Quote (program).
-/
namespace Go.Proofs.YtahjbnfbilkbcaaGreatDoor
open Go.AX Go.RowKit Go.Scan
set_option maxRecDepth 20000

theorem Quote_c (s : List UInt8) (hs : s.length ≤ 1000000) : ∀ H : List Ent, SpecH Tryz.prog 98 (pvs [.string (bs s)]) H (Ret (.string (bs (s.flatMap qt))) H) := by
  refine pureC hm Tryz.func98 (by kernel_rfl) rfl rfl ?_
  (first | refine wX ?_ | exact wZ)
  refine SpecH.freeze (callOk Tryz.func119 (by kernel_rfl) rfl) 0 rfl rfl fun b0 cap _ => ?_
  refine SpecH.plain rfl ?_
  refine callG (NewReplacer_c b0 (olnw qt qtL.reverse) cap (by decide) (by decide) (by decide) (by decide)) [0] rfl ⟨rfl, trivial⟩ rfl fun ⟨b, c, k⟩ _ => ?_
  (first | refine wX ?_ | exact wZ)
  refine callG (first_qt s b c k hs) [1, 2] rfl ⟨rfl, rfl, trivial⟩ rfl fun d hd => ?_
  (first | refine wX ?_ | exact wZ)
end Go.Proofs.YtahjbnfbilkbcaaGreatDoor

/-
  Contract: the writer writes a cell (program).
-/
namespace Go.AX
/-- min(x, y) -/
theorem BlindW.min2 {P : Program} {o : Oper} {s : List AV} {K : AV → Prop} {x y : Operand} {args : Array Operand} {ts : Array TypeId} {a b : Int} (ho : o.op = .call { callee := .builtin .min, args := args, argTypes := ts }) (ha : args = #[x, y])
    (hx : opv s x = .c (.v (.int .i64 a))) (hy : opv s y = .c (.v (.int .i64 b))) (hk : K (.c (.v (.int .i64 (minI a b))))) : ∃ x, BlindW P o s K x := by
  subst ha
  refine ⟨.int .i64 (minI a b), ?_, fun w => execOp_blt ho fun consts => ?_, hk⟩
  · rw [ho]
    show allPlain s [x, y] = true
    simp [allPlain, hx, hy]
  · have e1 : plainEv s x = .int .i64 a := by unfold plainEv; rw [hx]
    have e2 : plainEv s y = .int .i64 b := by unfold plainEv; rw [hy]
    simp [builtin, Builtin.min_, Builtin.min2, e1, e2, minI]
end Go.AX
namespace Go.Proofs.YtahjbnfbilkbcaaGreatDoor
open Go.AX Go.RowKit Go.Core Go.Scan
set_option maxRecDepth 20000

def gF (a : Option Addr) (l : List CellP) (E : World → Prop) : World → Prop := fun w => GrF a l w ∧ E w
/-- What the writer holds when a text was written. -/
def wR (gv : Value) (F : World → Prop) (way : List Int) (out : List UInt8) : Out → List Ent → Prop :=
  RetG (ι := BSt × BSt) (fun x => x.1.ok out.length ∧ x.2.ok way.length) (fun _ => .tuple #[]) fun x => wH gv F true out x.1 way x.2
theorem FormatBool_c (b : Bool) (s : List UInt8) (hs : Lib.formatBool b = s) : ∀ H, SpecH Tryz.prog 96 (pvs [.bool b]) H (Ret (.string (bs s)) H) := fun H =>
  SpecH.rawP (R := fun r => r = .string (bs s)) (callOk Tryz.func96 (by kernel_rfl) rfl) (fun w _ => (Tryz.strconv_FormatBool b w).mono fun e w' ⟨he, hw⟩ => by
    subst hw hs
    exact ⟨_, he, rfl, Below.refl _ _⟩) fun r hr => by subst hr; exact ⟨rfl, rfl⟩
set_option maxHeartbeats 8000000 in
theorem write_t {a : Option Addr} (ca : Nat) {l : List CellP} {E : World → Prop} {qt : List UInt8 → List UInt8} {it : Int → List UInt8} (V : WEnv a l E qt it) (n : Nat) : n ≤ 600 → ∀ (out : List UInt8) (way : List Int) (i j : BSt) (u : Nat), i.ok out.length → j.ok way.length → u < l.length → way.Nodup → (∀ x ∈ way, 0 ≤ x ∧ x < (l.length : Int)) → l.length + 2 ≤ n + way.length → out.length ≤ 1000000000000 →
    SpecH Tryz.prog 51 [.c (.lp 0 0), .c (.v (.int .i64 (u : Int)))] (wH (.slice a l.length ca) (gF a l E) true out i way j) (wR (.slice a l.length ca) (gF a l E) way (writeS 20000 (leafS qt it) (l.map (·.c)) n out way u)) := by
  induction n with
  | zero =>
    intro _ out way i j u _ _ _ hw hr hf _
    have := way_le hw hr
    omega
  | succ m ih =>
    intro hn out way i j u hi hj hu hw hr hf ho
    by_cases hM : 20000 < out.length
    · rw [write_same _ _ _ _ hM]
      refine ownC hm Tryz.func51 (by kernel_rfl) rfl rfl (fun _ _ => wH_ok _ _ _ _ _ _ _) (fun _ _ => Nat.le_refl _) ?_
      (first | refine wX ?_ | exact wZ)
      refine callG (Len_w _ _ way j true out i) [0, 1, 2, 3] rfl ⟨rfl, rfl, rfl, rfl, trivial⟩ rfl fun _ _ => ?_
      (first | refine wX ?_ | exact wZ)
      refine brd_dec (fun _ => ?_) (fun h => absurd (show (out.length : Int) > 20000 by omega) h)
      (first | refine wX ?_ | exact wZ)
      exact ⟨(i, j), ⟨hi, hj⟩, rfl, wkH_refl _⟩
    obtain ⟨p, hp⟩ : ∃ p, l[u]? = some p := ⟨_, List.getElem?_eq_getElem hu⟩
    have hpm := List.mem_of_getElem? hp
    have hsa : a.isSome = true := by
      have := V.ha
      cases a with
      | none => rw [this rfl] at hp; cases hp
      | some b => rfl
    have hat : at_ (l.map (·.c)) (u : Int) = p.c := at_map hp
    have hcd : cellD l.length p.c = true := by
      have := V.val.2.1 p.c (List.mem_map.2 ⟨p, hpm, rfl⟩)
      simpa using this
    have hpo := V.ok p hpm
    have hps := V.sm.2 p hpm
    have hsml := V.sm.1
    have hq4 := V.q p hpm
    have hit := V.i p hpm
    have hql := V.ql
    have hil3 := V.il
    have hsh := V.short
    have htx := cellD_text hcd
    have hk := cellD_kind hcd
    have hwl := way_le hw hr
    obtain ⟨⟨kind, num, text, names, items⟩, na, nc, ia, ic⟩ := p
    simp only at hat hcd hps hq4 hit hk htx
    have hkk : kind = 0 ∨ kind = 1 ∨ kind = 2 ∨ kind = 3 ∨ kind = 4 ∨ kind = 5 ∨ kind = 6 ∨ kind = 7 ∨ kind = 8 := by omega
    rcases hkk with rfl | rfl | rfl | rfl | rfl | rfl | rfl | rfl | rfl
    · -- [110, 105, 108]: the text of the leaf, 0: the kind
      have hwr : writeS 20000 (leafS qt it) (l.map (·.c)) (m + 1) out way u = out ++ ([110, 105, 108]) := by
        unfold writeS
        rw [if_neg hM, hat, if_pos (show isLeaf (Cell.mk 0 num text names items) = true from rfl)]
        rfl
      rw [hwr]
      -- 0: the kind
      refine ownC hm Tryz.func51 (by kernel_rfl) rfl rfl (fun _ _ => wH_ok _ _ _ _ _ _ _) (fun _ _ => Nat.le_refl _) ?_
      (first | refine wX ?_ | exact wZ)
      refine callG (Len_w _ _ way j true out i) [0, 1, 2, 3] rfl ⟨rfl, rfl, rfl, rfl, trivial⟩ rfl fun _ _ => ?_
      (first | refine wX ?_ | exact wZ)
      refine brd_dec (fun h => absurd h (by omega)) (fun _ => ?_)
      (first | refine wX ?_ | exact wZ)
      refine Nd.mk ⟨hsa, by omega, by omega⟩ ?_
      (first | refine wX ?_ | exact wZ)
      refine LdN.agg [.int .i64 0, .int .i64 num, .string (bs text), .slice na names.length nc, .slice ia items.length ic] rfl (fun w hw => hw.2.2.1.1.1) rfl (fun k hk => by rw [Int.toNat_natCast]; exact grC_get l u k hk hp) ?_
      (first | refine wXD ?_ | exact wZD)
      -- [110, 105, 108]: the text of the leaf
      refine callG (WriteString_w _ _ way j true out ([110, 105, 108]) i hi (by first | omega | (simp; omega))) [0, 1, 2, 3] rfl ⟨rfl, rfl, rfl, rfl, trivial⟩ rfl fun i2 hi2 => ?_
      (first | refine wX ?_ | exact wZ)
      exact ⟨(i2, j), ⟨hi2, hj⟩, rfl, by (repeat' (first | exact trivial | exact wkE_refl _ | refine And.intro ?_ ?_))⟩
    · -- [116, 114, 117, 101]: the text of the leaf, 1: the kind
      have hwr : writeS 20000 (leafS qt it) (l.map (·.c)) (m + 1) out way u = out ++ ([116, 114, 117, 101]) := by
        unfold writeS
        rw [if_neg hM, hat, if_pos (show isLeaf (Cell.mk 1 num text names items) = true from rfl)]
        rfl
      rw [hwr]
      -- 1: the kind
      refine ownC hm Tryz.func51 (by kernel_rfl) rfl rfl (fun _ _ => wH_ok _ _ _ _ _ _ _) (fun _ _ => Nat.le_refl _) ?_
      (first | refine wX ?_ | exact wZ)
      refine callG (Len_w _ _ way j true out i) [0, 1, 2, 3] rfl ⟨rfl, rfl, rfl, rfl, trivial⟩ rfl fun _ _ => ?_
      (first | refine wX ?_ | exact wZ)
      refine brd_dec (fun h => absurd h (by omega)) (fun _ => ?_)
      (first | refine wX ?_ | exact wZ)
      refine Nd.mk ⟨hsa, by omega, by omega⟩ ?_
      (first | refine wX ?_ | exact wZ)
      refine LdN.agg [.int .i64 1, .int .i64 num, .string (bs text), .slice na names.length nc, .slice ia items.length ic] rfl (fun w hw => hw.2.2.1.1.1) rfl (fun k hk => by rw [Int.toNat_natCast]; exact grC_get l u k hk hp) ?_
      (first | refine wXD ?_ | exact wZD)
      -- true: which, [116, 114, 117, 101]: the text
      refine DrawN.planQ [0, 3] [1, 2, 4, 5, 6] [(7, 0)] (by decide +kernel) ?_
      (first | refine wX ?_ | exact wZ)
      refine callQ (FormatBool_c true ([116, 114, 117, 101]) (by decide) _) ?_
      (first | refine wX ?_ | exact wZ)
      -- [116, 114, 117, 101]: the text of the leaf
      refine callG (WriteString_w _ _ way j true out ([116, 114, 117, 101]) i hi (by first | omega | (simp; omega))) [0, 1, 2, 3] rfl ⟨rfl, rfl, rfl, rfl, trivial⟩ rfl fun i2 hi2 => ?_
      (first | refine wX ?_ | exact wZ)
      exact ⟨(i2, j), ⟨hi2, hj⟩, rfl, by (repeat' (first | exact trivial | exact wkE_refl _ | refine And.intro ?_ ?_))⟩
    · -- [102, 97, 108, 115, 101]: the text of the leaf, 2: the kind
      have hwr : writeS 20000 (leafS qt it) (l.map (·.c)) (m + 1) out way u = out ++ ([102, 97, 108, 115, 101]) := by
        unfold writeS
        rw [if_neg hM, hat, if_pos (show isLeaf (Cell.mk 2 num text names items) = true from rfl)]
        rfl
      rw [hwr]
      -- 2: the kind
      refine ownC hm Tryz.func51 (by kernel_rfl) rfl rfl (fun _ _ => wH_ok _ _ _ _ _ _ _) (fun _ _ => Nat.le_refl _) ?_
      (first | refine wX ?_ | exact wZ)
      refine callG (Len_w _ _ way j true out i) [0, 1, 2, 3] rfl ⟨rfl, rfl, rfl, rfl, trivial⟩ rfl fun _ _ => ?_
      (first | refine wX ?_ | exact wZ)
      refine brd_dec (fun h => absurd h (by omega)) (fun _ => ?_)
      (first | refine wX ?_ | exact wZ)
      refine Nd.mk ⟨hsa, by omega, by omega⟩ ?_
      (first | refine wX ?_ | exact wZ)
      refine LdN.agg [.int .i64 2, .int .i64 num, .string (bs text), .slice na names.length nc, .slice ia items.length ic] rfl (fun w hw => hw.2.2.1.1.1) rfl (fun k hk => by rw [Int.toNat_natCast]; exact grC_get l u k hk hp) ?_
      (first | refine wXD ?_ | exact wZD)
      -- false: which, [102, 97, 108, 115, 101]: the text
      refine DrawN.planQ [0, 3] [1, 2, 4, 5, 6] [(7, 0)] (by decide +kernel) ?_
      (first | refine wX ?_ | exact wZ)
      refine callQ (FormatBool_c false ([102, 97, 108, 115, 101]) (by decide) _) ?_
      (first | refine wX ?_ | exact wZ)
      -- [102, 97, 108, 115, 101]: the text of the leaf
      refine callG (WriteString_w _ _ way j true out ([102, 97, 108, 115, 101]) i hi (by first | omega | (simp; omega))) [0, 1, 2, 3] rfl ⟨rfl, rfl, rfl, rfl, trivial⟩ rfl fun i2 hi2 => ?_
      (first | refine wX ?_ | exact wZ)
      exact ⟨(i2, j), ⟨hi2, hj⟩, rfl, by (repeat' (first | exact trivial | exact wkE_refl _ | refine And.intro ?_ ?_))⟩
    · -- it num: the text of the leaf, 3: the kind
      have hwr : writeS 20000 (leafS qt it) (l.map (·.c)) (m + 1) out way u = out ++ (it num) := by
        unfold writeS
        rw [if_neg hM, hat, if_pos (show isLeaf (Cell.mk 3 num text names items) = true from rfl)]
        rfl
      rw [hwr]
      -- 3: the kind
      refine ownC hm Tryz.func51 (by kernel_rfl) rfl rfl (fun _ _ => wH_ok _ _ _ _ _ _ _) (fun _ _ => Nat.le_refl _) ?_
      (first | refine wX ?_ | exact wZ)
      refine callG (Len_w _ _ way j true out i) [0, 1, 2, 3] rfl ⟨rfl, rfl, rfl, rfl, trivial⟩ rfl fun _ _ => ?_
      (first | refine wX ?_ | exact wZ)
      refine brd_dec (fun h => absurd h (by omega)) (fun _ => ?_)
      (first | refine wX ?_ | exact wZ)
      refine Nd.mk ⟨hsa, by omega, by omega⟩ ?_
      (first | refine wX ?_ | exact wZ)
      refine LdN.agg [.int .i64 3, .int .i64 num, .string (bs text), .slice na names.length nc, .slice ia items.length ic] rfl (fun w hw => hw.2.2.1.1.1) rfl (fun k hk => by rw [Int.toNat_natCast]; exact grC_get l u k hk hp) ?_
      (first | refine wXD ?_ | exact wZD)
      refine DrawN.planQ [0, 3] [1, 2, 4, 5] [(6, 0)] (by decide +kernel) ?_
      (first | refine wX ?_ | exact wZ)
      refine callQ (hit rfl _ (fun w hw => hw.2.2.1.2)) ?_
      (first | refine wX ?_ | exact wZ)
      have := hil3 num
      -- it num: the text of the leaf
      refine callG (WriteString_w _ _ way j true out (it num) i hi (by first | omega | (simp; omega))) [0, 1, 2, 3] rfl ⟨rfl, rfl, rfl, rfl, trivial⟩ rfl fun i2 hi2 => ?_
      (first | refine wX ?_ | exact wZ)
      exact ⟨(i2, j), ⟨hi2, hj⟩, rfl, by (repeat' (first | exact trivial | exact wkE_refl _ | refine And.intro ?_ ?_))⟩
    · -- [34] ++ qt text ++ [34]: the text of the leaf, 4: the kind
      have hwr : writeS 20000 (leafS qt it) (l.map (·.c)) (m + 1) out way u = out ++ ([34] ++ qt text ++ [34]) := by
        unfold writeS
        rw [if_neg hM, hat, if_pos (show isLeaf (Cell.mk 4 num text names items) = true from rfl)]
        rfl
      rw [hwr]
      -- 4: the kind
      refine ownC hm Tryz.func51 (by kernel_rfl) rfl rfl (fun _ _ => wH_ok _ _ _ _ _ _ _) (fun _ _ => Nat.le_refl _) ?_
      (first | refine wX ?_ | exact wZ)
      refine callG (Len_w _ _ way j true out i) [0, 1, 2, 3] rfl ⟨rfl, rfl, rfl, rfl, trivial⟩ rfl fun _ _ => ?_
      (first | refine wX ?_ | exact wZ)
      refine brd_dec (fun h => absurd h (by omega)) (fun _ => ?_)
      (first | refine wX ?_ | exact wZ)
      refine Nd.mk ⟨hsa, by omega, by omega⟩ ?_
      (first | refine wX ?_ | exact wZ)
      refine LdN.agg [.int .i64 4, .int .i64 num, .string (bs text), .slice na names.length nc, .slice ia items.length ic] rfl (fun w hw => hw.2.2.1.1.1) rfl (fun k hk => by rw [Int.toNat_natCast]; exact grC_get l u k hk hp) ?_
      (first | refine wXD ?_ | exact wZD)
      refine DrawN.planQ [0, 3] [1, 2, 4, 5, 6, 7] [(8, 0)] (by decide +kernel) ?_
      (first | refine wX ?_ | exact wZ)
      refine callQ (hq4 rfl _) ?_
      (first | refine wX ?_ | exact wZ)
      have hq1 := hql text
      refine Nd.mk (by show 1 + (bs (qt text)).size < _; rw [bs_size]; omega) ?_
      (first | refine wX ?_ | exact wZ)
      rw [show (({ data := #[34] } : ByteArray) ++ bs (qt text)) = bs ([34] ++ qt text) by rw [← bs_app]; rfl]
      refine Nd.mk (by show (bs ([34] ++ qt text)).size + 1 < _; rw [bs_size]; simp; omega) ?_
      rw [show (bs ([34] ++ qt text) ++ ({ data := #[34] } : ByteArray)) = bs ([34] ++ qt text ++ [34]) by rw [← bs_app]; rfl]
      (first | refine wX ?_ | exact wZ)
      -- [34] ++ qt text ++ [34]: the text of the leaf
      refine callG (WriteString_w _ _ way j true out ([34] ++ qt text ++ [34]) i hi (by first | omega | (simp; omega))) [0, 1, 2, 3] rfl ⟨rfl, rfl, rfl, rfl, trivial⟩ rfl fun i2 hi2 => ?_
      (first | refine wX ?_ | exact wZ)
      exact ⟨(i2, j), ⟨hi2, hj⟩, rfl, by (repeat' (first | exact trivial | exact wkE_refl _ | refine And.intro ?_ ?_))⟩
    · -- [58] ++ text: the text of the leaf, 5: the kind
      have hwr : writeS 20000 (leafS qt it) (l.map (·.c)) (m + 1) out way u = out ++ ([58] ++ text) := by
        unfold writeS
        rw [if_neg hM, hat, if_pos (show isLeaf (Cell.mk 5 num text names items) = true from rfl)]
        rfl
      rw [hwr]
      -- 5: the kind
      refine ownC hm Tryz.func51 (by kernel_rfl) rfl rfl (fun _ _ => wH_ok _ _ _ _ _ _ _) (fun _ _ => Nat.le_refl _) ?_
      (first | refine wX ?_ | exact wZ)
      refine callG (Len_w _ _ way j true out i) [0, 1, 2, 3] rfl ⟨rfl, rfl, rfl, rfl, trivial⟩ rfl fun _ _ => ?_
      (first | refine wX ?_ | exact wZ)
      refine brd_dec (fun h => absurd h (by omega)) (fun _ => ?_)
      (first | refine wX ?_ | exact wZ)
      refine Nd.mk ⟨hsa, by omega, by omega⟩ ?_
      (first | refine wX ?_ | exact wZ)
      refine LdN.agg [.int .i64 5, .int .i64 num, .string (bs text), .slice na names.length nc, .slice ia items.length ic] rfl (fun w hw => hw.2.2.1.1.1) rfl (fun k hk => by rw [Int.toNat_natCast]; exact grC_get l u k hk hp) ?_
      (first | refine wXD ?_ | exact wZD)
      refine DrawN.planQ [0, 3] [1, 2, 4, 5] [(6, 0)] (by decide +kernel) ?_
      (first | refine wX ?_ | exact wZ)
      refine Nd.mk (by show 1 + (bs text).size < _; rw [bs_size]; omega) ?_
      rw [show (({ data := #[58] } : ByteArray) ++ bs text) = bs ([58] ++ text) by rw [← bs_app]; rfl]
      (first | refine wX ?_ | exact wZ)
      -- [58] ++ text: the text of the leaf
      refine callG (WriteString_w _ _ way j true out ([58] ++ text) i hi (by first | omega | (simp; omega))) [0, 1, 2, 3] rfl ⟨rfl, rfl, rfl, rfl, trivial⟩ rfl fun i2 hi2 => ?_
      (first | refine wX ?_ | exact wZ)
      exact ⟨(i2, j), ⟨hi2, hj⟩, rfl, by (repeat' (first | exact trivial | exact wkE_refl _ | refine And.intro ?_ ?_))⟩
    · -- 6: the kind
      rw [writeS_in hM hat (fun h => absurd (of_decide_eq_true h) (by show ¬ (6 : Int) ≤ 5; decide))]
      -- 6: the kind
      refine ownC hm Tryz.func51 (by kernel_rfl) rfl rfl (fun _ _ => wH_ok _ _ _ _ _ _ _) (fun _ _ => Nat.le_refl _) ?_
      (first | refine wX ?_ | exact wZ)
      refine callG (Len_w _ _ way j true out i) [0, 1, 2, 3] rfl ⟨rfl, rfl, rfl, rfl, trivial⟩ rfl fun _ _ => ?_
      (first | refine wX ?_ | exact wZ)
      refine brd_dec (fun h => absurd h (by omega)) (fun _ => ?_)
      (first | refine wX ?_ | exact wZ)
      refine Nd.mk ⟨hsa, by omega, by omega⟩ ?_
      (first | refine wX ?_ | exact wZ)
      refine LdN.agg [.int .i64 6, .int .i64 num, .string (bs text), .slice na names.length nc, .slice ia items.length ic] rfl (fun w hw => hw.2.2.1.1.1) rfl (fun k hk => by rw [Int.toNat_natCast]; exact grC_get l u k hk hp) ?_
      (first | refine wXD ?_ | exact wZD)
      refine spec_of_exec hm Tryz.func99 (by kernel_rfl) rfl rfl ?_
      (first | refine wXD ?_ | exact wZD)
      refine SpecH.args (args' := pvs [.slice (at0 j.ob) way.length j.cap, .int .i64 (u : Int)]) (by simp [pvs, opvs, opv, nth]; try rfl) ?_
      refine call1 (contains_c j.ob j.cap way u (fun h => List.eq_nil_of_length_eq_zero (hj.1 h).1) (by omega) _ (fun w hw => hw.2.1)) ?_
      (first | refine wXD ?_ | exact wZD)
      try refine Nd.mk ⟨Nat.le_refl 1, rfl, rfl⟩ ?_
      (conv => whnf)
      refine AppN.grow 2 (iC way) [.int .i64 (u : Int)] rfl rfl ⟨Nat.le_refl 1, ⟨by show (way.length + 1) * 8 ≤ _; omega, by omega⟩, Nat.one_ne_zero⟩ fun wb wc hwc _ => ?_
      obtain ⟨way2, hway2⟩ : ∃ w2, w2 = way ++ [(u : Int)] := ⟨_, rfl⟩
      have hcl : iC way ++ [.int .i64 (u : Int)] = iC way2 := by rw [hway2]; simp [iC]
      have hll : way.length + 1 = way2.length := by rw [hway2]; simp
      rw [hcl, hll]
      (first | refine wXD ?_ | exact wZD)
      -- out: what is there, [91]: what is written, i: the Builder's place, hi: its word, i2: the place behind
      refine callG (WriteString_w _ _ way2 ⟨some wb, wc⟩ true (out) ([91]) i hi (by first | omega | (simp; omega))) [0, 1, 2, 3] rfl ⟨rfl, rfl, rfl, rfl, trivial⟩ rfl fun i2 hi2 => ?_
      (first | refine wXD ?_ | exact wZD)
      -- [91]: front, [46, 46, 46]: mark, [93]: back
      cases hun : decide ((u : Int) ∈ way) with
      | true =>
        rw [if_pos (of_decide_eq_true hun)]
        (first | refine wXD ?_ | exact wZD)
        -- out ++ ([91]): what is there, [46, 46, 46]: what is written, i2: the Builder's place, hi2: its word, i3: the place behind
        refine callG (WriteString_w _ _ way2 ⟨some wb, wc⟩ true (out ++ ([91])) ([46, 46, 46]) i2 hi2 (by first | omega | (simp; omega))) [0, 1, 2, 3] rfl ⟨rfl, rfl, rfl, rfl, trivial⟩ rfl fun i3 hi3 => ?_
        (first | refine wXD ?_ | exact wZD)
        -- out ++ ([91]) ++ ([46, 46, 46]): what is there, [93]: what is written, i3: the Builder's place, hi3: its word, i4: the place behind
        refine callG (WriteString_w _ _ way2 ⟨some wb, wc⟩ true (out ++ ([91]) ++ ([46, 46, 46])) ([93]) i3 hi3 (by first | omega | (simp; omega))) [0, 1, 2, 3] rfl ⟨rfl, rfl, rfl, rfl, trivial⟩ rfl fun i4 hi4 => ?_
        (first | refine wXD ?_ | exact wZD)
        -- i4: the Builder's place
        refine DrawN.plan [0, 1, 5] [(2, 1), (3, 1), (4, 1), (6, 1), (7, 1), (8, 1), (9, 1), (10, 1), (11, 1), (12, 1), (13, 1)] [(14, 0)] (by decide +kernel) ?_
        (first | refine wXD ?_ | exact wZD)
        rw [show IntKind.i64.wrap ((way2.length : Int) - 1) = (way.length : Int) by rw [wrap_i64 (by omega)]; omega]
        refine ReadW.slc_hi rfl (by kernel_rfl) rfl rfl (by show (0 : Int) ≤ (way.length : Int) ∧ (way.length : Int) ≤ (wc : Int); omega) ?_
        rw [Int.toNat_natCast]
        (first | refine wXD ?_ | exact wZD)
        refine ⟨(i4, ⟨some wb, wc⟩), ⟨hi4, (fun h => by cases h), by show way.length ≤ wc; omega, fun h => by have : wc = 0 := h; omega⟩, rfl, ⟨rfl, rfl, rfl, rfl, rfl, trivial⟩, wkE_refl _, .inr (.inr ⟨rfl, rfl, ?_, rfl, by omega, rfl⟩), wkE_refl _, trivial⟩
        rw [hway2, Nat.mul_one]
        simp [iC]
      | false =>
      rw [if_neg (of_decide_eq_false hun)]
      (first | refine wXD ?_ | exact wZD)
      -- 6: the kind, [91]: the front
      rw [← hway2]
      have hnd2 : way2.Nodup := by
        rw [hway2]
        exact List.nodup_append.2 ⟨hw, by simp, fun x hx y hy => by
          rw [List.mem_singleton.1 hy]
          intro e
          subst e
          exact of_decide_eq_false hun hx⟩
      have hr2 : ∀ x ∈ way2, 0 ≤ x ∧ x < (l.length : Int) := fun x hx => by
        rw [hway2] at hx
        rcases List.mem_append.1 hx with hx | hx
        · exact hr x hx
        · rw [List.mem_singleton.1 hx]; omega
      obtain ⟨ff, hff⟩ : ∃ ff, ff = fun o k => writeS 20000 (leafS qt it) (l.map (·.c)) m o way2 k := ⟨_, rfl⟩
      rw [← hff]
      have hfx : ∀ o x, ff o x = writeS 20000 (leafS qt it) (l.map (·.c)) m o way2 x := fun o x => by rw [hff]
      have hpre : ∀ i, (preT (Cell.mk 6 num text names items) i).length ≤ 50 := fun i => by
        have := pre_le hsh (u : Int) i
        rw [hat] at this
        exact this
      have hfold : ∀ k, (foldT ff (preT (Cell.mk 6 num text names items)) 0 (items.take k) (out ++ ([91]))).length ≤ 130000000 := fun k => by
        have hfl : (out ++ ([91])).length ≤ out.length + 2002 := by simp; try omega
        have := foldT_len (M := 20000) (f := ff) (pre := preT (Cell.mk 6 num text names items)) (p := 50) (X := 20000 + m * 200000) hpre (by omega) (fun o k ho => by rw [hff]; exact write_same m o _ k ho) (fun o k ho => by rw [hff]; have := write_len (M := 20000) hsh m o way2 k; show (writeS _ _ _ _ _ _ _).length ≤ _; omega) (items.take k) 0 (out ++ ([91])) (22002 + m * 200000) (by omega) (by omega)
        rw [List.length_take] at this
        omega
      refine spec_of_exec hm Tryz.func122 (by kernel_rfl) rfl rfl ?_
      (first | refine wXD ?_ | exact wZD)
      -- 6: the kind, [91]: the front
      refine LoopN.intro (Nat × BSt × BSt) (fun ⟨k, i, j⟩ => k ≤ items.length ∧ i.ok (foldT ff (preT (Cell.mk 6 num text names items)) 0 (items.take k) (out ++ ([91]))).length ∧ j.ok way2.length) (fun ⟨k, _, _⟩ => mkS Tryz.f122.ntmps 0 [(0, .c (.lp 0 0)), (3, .c (.lp 7 0)), (7, .c (.v (.slice ia items.length ic))), (8, .c (.v (.int .i64 (items.length : Int)))), (9, .c (.v (.int .i64 (k : Int))))])
        (fun ⟨k, i, j⟩ => wH (.slice a l.length ca) (gF a l E) true (foldT ff (preT (Cell.mk 6 num text names items)) 0 (items.take k) (out ++ ([91]))) i way2 j ++ [.dead, .dead, .dead, .blk 42 [.v (.int .i64 6), .v (.int .i64 num), .v (.string (bs text)), .v (.slice na names.length nc), .v (.slice ia items.length ic)]]) (fun ⟨k, _, _⟩ => items.length - k) [] rfl (fun ⟨_, _, _⟩ => rfl) (fun ⟨_, _, _⟩ => rfl) (fun ⟨_, _, _⟩ _ => okHB_eq rfl) ?_ ?_
      · refine ⟨(0, i2, ⟨some wb, wc⟩), ⟨Nat.zero_le _, hi2, (fun h => by cases h), by show way2.length ≤ wc; omega, fun h => by have : wc = 0 := h; omega⟩, ?_, wkE_refl _, wkE_refl _, wkE_refl _, wkE_refl _, trivial, trivial, trivial, wkE_refl _, trivial⟩
        (repeat' (first | exact trivial | refine And.intro (by with_reducible rfl) ?_ | (with_reducible exact wkC_refl _) | (with_reducible exact wkCs_refl _) | refine And.intro ?_ ?_))
        all_goals rfl
      rintro ⟨k, i3, j3⟩ ⟨hk3, hi3, hj3⟩
      (first | refine wXD ?_ | exact wZD)
      refine brd_dec (fun h1 => ?_) (fun h1 => ?_)
      · obtain ⟨x, hx⟩ : ∃ x, items[k]? = some x := ⟨_, List.getElem?_eq_getElem (by omega)⟩
        have hxin := cellD_in hcd x (List.mem_of_getElem? hx)
        obtain ⟨xn, rfl⟩ : ∃ xn : Nat, x = (xn : Int) := ⟨x.toNat, by omega⟩
        have hx1 : xn < l.length := by omega
        have hsi : ia.isSome = true := by
          have := hpo.ia
          cases ia with
          | none =>
            have h0 : items = [] := this rfl
            rw [h0] at hx
            cases hx
          | some b => rfl
        (first | refine wXD ?_ | exact wZD)
        refine Nd.mk ⟨hsi, by omega, by omega⟩ ?_
        (first | refine wXD ?_ | exact wZD)
        refine LdN.one (.int .i64 (xn : Int)) rfl (fun w hw => (hw.2.2.1.1.2 _ hpm).2) (by rw [Int.toNat_natCast]; show (iC items)[k * 1]? = _; rw [Nat.mul_one]; exact iC_get hx) ?_
        (first | refine wXD ?_ | exact wZD)
        refine brd_dec (fun hk0 => ?_) (fun hk0 => ?_)
        · (first | refine wXD ?_ | exact wZD)
          -- 6: the kind, [91]: the front, [44, 32]: what stands ahead, by rw [preT_6 rfl, if_pos (by omega)]: why
          refine callG (WriteString_w _ _ way2 j3 true (foldT ff (preT (Cell.mk 6 num text names items)) 0 (items.take k) (out ++ ([91]))) ([44, 32]) i3 hi3 (by have := hfold k; simp only [List.length_cons, List.length_nil]; omega)) [0, 1, 2, 3] rfl ⟨rfl, rfl, rfl, rfl, trivial⟩ rfl fun i6 hi6 => ?_
          (first | refine wXD ?_ | exact wZD)
          -- an item is written, and the round is over; [44, 32]: what stands ahead of it, i6: the Builder's place, by rw [preT_6 rfl, if_pos (by omega)]: the proof that it stands ahead
          refine callG (ih (by omega) (foldT ff (preT (Cell.mk 6 num text names items)) 0 (items.take k) (out ++ ([91])) ++ ([44, 32])) way2 i6 j3 xn (hi6) hj3 hx1 hnd2 hr2 (by omega) (by have := hfold k; simp only [List.length_append, List.length_cons, List.length_nil]; omega)) [0, 1, 2, 3] rfl ⟨rfl, rfl, rfl, rfl, trivial⟩ rfl fun st hst => ?_
          obtain ⟨i5, j5⟩ := st
          obtain ⟨hi5, hj5⟩ := hst
          simp only at hi5 hj5
          (first | refine wXD ?_ | exact wZD)
          have hfs := foldT_take (f := ff) (pre := preT (Cell.mk 6 num text names items)) hx (out ++ ([91]))
          rw [show preT (Cell.mk 6 num text names items) k = [44, 32] from by rw [preT_6 rfl, if_pos (by omega)], hfx] at hfs
          refine ⟨(k + 1, i5, j5), ⟨by omega, by rw [hfs]; exact hi5, hj5⟩, by show items.length - (k + 1) < items.length - k; omega, ?_, ?_⟩
          · (repeat' (first | exact trivial | refine And.intro (by with_reducible rfl) ?_ | (with_reducible exact wkC_refl _) | (with_reducible exact wkCs_refl _) | refine And.intro ?_ ?_))
            all_goals first | rfl | exact av_int (by rw [wrap_i64 (by omega)]; omega) | exact av_int (by omega)
          · show wkH _ (wH _ _ true (foldT ff _ 0 (items.take (k + 1)) _) _ _ _ ++ _)
            rw [hfs]
            exact ⟨wkE_refl _, wkE_refl _, wkE_refl _, wkE_refl _, trivial, trivial, trivial, wkE_refl _, trivial⟩
        · (first | refine wXD ?_ | exact wZD)
          -- 6: the kind, [91]: the front, by rw [preT_6 rfl, if_neg (by omega)]: why
          rw [show foldT ff (preT (Cell.mk 6 num text names items)) 0 (items.take k) (out ++ ([91])) = foldT ff (preT (Cell.mk 6 num text names items)) 0 (items.take k) (out ++ ([91])) ++ [] from (List.append_nil _).symm]
          -- an item is written, and the round is over; []: what stands ahead of it, i3: the Builder's place, by rw [preT_6 rfl, if_neg (by omega)]: the proof that it stands ahead
          refine callG (ih (by omega) (foldT ff (preT (Cell.mk 6 num text names items)) 0 (items.take k) (out ++ ([91])) ++ ([])) way2 i3 j3 xn (by rw [List.append_nil]; exact hi3) hj3 hx1 hnd2 hr2 (by omega) (by have := hfold k; simp only [List.length_append, List.length_cons, List.length_nil]; omega)) [0, 1, 2, 3] rfl ⟨rfl, rfl, rfl, rfl, trivial⟩ rfl fun st hst => ?_
          obtain ⟨i5, j5⟩ := st
          obtain ⟨hi5, hj5⟩ := hst
          simp only at hi5 hj5
          (first | refine wXD ?_ | exact wZD)
          have hfs := foldT_take (f := ff) (pre := preT (Cell.mk 6 num text names items)) hx (out ++ ([91]))
          rw [show preT (Cell.mk 6 num text names items) k = [] from by rw [preT_6 rfl, if_neg (by omega)], hfx] at hfs
          refine ⟨(k + 1, i5, j5), ⟨by omega, by rw [hfs]; exact hi5, hj5⟩, by show items.length - (k + 1) < items.length - k; omega, ?_, ?_⟩
          · (repeat' (first | exact trivial | refine And.intro (by with_reducible rfl) ?_ | (with_reducible exact wkC_refl _) | (with_reducible exact wkCs_refl _) | refine And.intro ?_ ?_))
            all_goals first | rfl | exact av_int (by rw [wrap_i64 (by omega)]; omega) | exact av_int (by omega)
          · show wkH _ (wH _ _ true (foldT ff _ 0 (items.take (k + 1)) _) _ _ _ ++ _)
            rw [hfs]
            exact ⟨wkE_refl _, wkE_refl _, wkE_refl _, wkE_refl _, trivial, trivial, trivial, wkE_refl _, trivial⟩
      · have hin : k = items.length := by omega
        subst hin
        rw [List.take_length] at hi3 ⊢
        have hfe := hfold items.length
        rw [List.take_length] at hfe
        obtain ⟨wb, wc⟩ := j3
        cases wb with
        | none =>
          have := (hj3.1 rfl).1
          omega
        | some wb =>
        have hwc3 : way2.length ≤ wc := hj3.2.1
        (first | refine wXD ?_ | exact wZD)
        refine callG (WriteString_w _ _ way2 ⟨some wb, wc⟩ true (foldT ff (preT (Cell.mk 6 num text names items)) 0 items (out ++ ([91]))) ([93]) i3 hi3 (by simp only [List.length_cons, List.length_nil]; omega)) [0, 1, 2, 3] rfl ⟨rfl, rfl, rfl, rfl, trivial⟩ rfl fun i7 hi7 => ?_
        (first | refine wXD ?_ | exact wZD)
        -- i7: the Builder's place
        refine DrawN.plan [0, 1, 5] [(2, 1), (3, 1), (4, 1), (6, 1), (7, 1), (8, 1), (9, 1), (10, 1), (11, 1), (12, 1), (13, 1)] [(14, 0)] (by decide +kernel) ?_
        (first | refine wXD ?_ | exact wZD)
        rw [show IntKind.i64.wrap ((way2.length : Int) - 1) = (way.length : Int) by rw [wrap_i64 (by omega)]; omega]
        refine ReadW.slc_hi rfl (by kernel_rfl) rfl rfl (by show (0 : Int) ≤ (way.length : Int) ∧ (way.length : Int) ≤ (wc : Int); omega) ?_
        rw [Int.toNat_natCast]
        (first | refine wXD ?_ | exact wZD)
        refine ⟨(i7, ⟨some wb, wc⟩), ⟨hi7, (fun h => by cases h), by show way.length ≤ wc; omega, fun h => by have : wc = 0 := h; omega⟩, rfl, ⟨rfl, rfl, rfl, rfl, rfl, trivial⟩, wkE_refl _, .inr (.inr ⟨rfl, rfl, ?_, rfl, by omega, rfl⟩), wkE_refl _, trivial⟩
        rw [hway2, Nat.mul_one]
        simp [iC]
    · -- 7: the kind
      rw [writeS_in hM hat (fun h => absurd (of_decide_eq_true h) (by show ¬ (7 : Int) ≤ 5; decide))]
      -- 7: the kind
      refine ownC hm Tryz.func51 (by kernel_rfl) rfl rfl (fun _ _ => wH_ok _ _ _ _ _ _ _) (fun _ _ => Nat.le_refl _) ?_
      (first | refine wX ?_ | exact wZ)
      refine callG (Len_w _ _ way j true out i) [0, 1, 2, 3] rfl ⟨rfl, rfl, rfl, rfl, trivial⟩ rfl fun _ _ => ?_
      (first | refine wX ?_ | exact wZ)
      refine brd_dec (fun h => absurd h (by omega)) (fun _ => ?_)
      (first | refine wX ?_ | exact wZ)
      refine Nd.mk ⟨hsa, by omega, by omega⟩ ?_
      (first | refine wX ?_ | exact wZ)
      refine LdN.agg [.int .i64 7, .int .i64 num, .string (bs text), .slice na names.length nc, .slice ia items.length ic] rfl (fun w hw => hw.2.2.1.1.1) rfl (fun k hk => by rw [Int.toNat_natCast]; exact grC_get l u k hk hp) ?_
      (first | refine wXD ?_ | exact wZD)
      refine spec_of_exec hm Tryz.func99 (by kernel_rfl) rfl rfl ?_
      (first | refine wXD ?_ | exact wZD)
      refine SpecH.args (args' := pvs [.slice (at0 j.ob) way.length j.cap, .int .i64 (u : Int)]) (by simp [pvs, opvs, opv, nth]; try rfl) ?_
      refine call1 (contains_c j.ob j.cap way u (fun h => List.eq_nil_of_length_eq_zero (hj.1 h).1) (by omega) _ (fun w hw => hw.2.1)) ?_
      (first | refine wXD ?_ | exact wZD)
      try refine Nd.mk ⟨Nat.le_refl 1, rfl, rfl⟩ ?_
      (conv => whnf)
      refine AppN.grow 2 (iC way) [.int .i64 (u : Int)] rfl rfl ⟨Nat.le_refl 1, ⟨by show (way.length + 1) * 8 ≤ _; omega, by omega⟩, Nat.one_ne_zero⟩ fun wb wc hwc _ => ?_
      obtain ⟨way2, hway2⟩ : ∃ w2, w2 = way ++ [(u : Int)] := ⟨_, rfl⟩
      have hcl : iC way ++ [.int .i64 (u : Int)] = iC way2 := by rw [hway2]; simp [iC]
      have hll : way.length + 1 = way2.length := by rw [hway2]; simp
      rw [hcl, hll]
      (first | refine wXD ?_ | exact wZD)
      -- out: what is there, [123]: what is written, i: the Builder's place, hi: its word, i2: the place behind
      refine callG (WriteString_w _ _ way2 ⟨some wb, wc⟩ true (out) ([123]) i hi (by first | omega | (simp; omega))) [0, 1, 2, 3] rfl ⟨rfl, rfl, rfl, rfl, trivial⟩ rfl fun i2 hi2 => ?_
      (first | refine wXD ?_ | exact wZD)
      -- [123]: front, [46, 46, 46]: mark, [125]: back
      cases hun : decide ((u : Int) ∈ way) with
      | true =>
        rw [if_pos (of_decide_eq_true hun)]
        (first | refine wXD ?_ | exact wZD)
        -- out ++ ([123]): what is there, [46, 46, 46]: what is written, i2: the Builder's place, hi2: its word, i3: the place behind
        refine callG (WriteString_w _ _ way2 ⟨some wb, wc⟩ true (out ++ ([123])) ([46, 46, 46]) i2 hi2 (by first | omega | (simp; omega))) [0, 1, 2, 3] rfl ⟨rfl, rfl, rfl, rfl, trivial⟩ rfl fun i3 hi3 => ?_
        (first | refine wXD ?_ | exact wZD)
        -- out ++ ([123]) ++ ([46, 46, 46]): what is there, [125]: what is written, i3: the Builder's place, hi3: its word, i4: the place behind
        refine callG (WriteString_w _ _ way2 ⟨some wb, wc⟩ true (out ++ ([123]) ++ ([46, 46, 46])) ([125]) i3 hi3 (by first | omega | (simp; omega))) [0, 1, 2, 3] rfl ⟨rfl, rfl, rfl, rfl, trivial⟩ rfl fun i4 hi4 => ?_
        (first | refine wXD ?_ | exact wZD)
        -- i4: the Builder's place
        refine DrawN.plan [0, 1, 5] [(2, 1), (3, 1), (4, 1), (6, 1), (7, 1), (8, 1), (9, 1), (10, 1), (11, 1), (12, 1), (13, 1)] [(14, 0)] (by decide +kernel) ?_
        (first | refine wXD ?_ | exact wZD)
        rw [show IntKind.i64.wrap ((way2.length : Int) - 1) = (way.length : Int) by rw [wrap_i64 (by omega)]; omega]
        refine ReadW.slc_hi rfl (by kernel_rfl) rfl rfl (by show (0 : Int) ≤ (way.length : Int) ∧ (way.length : Int) ≤ (wc : Int); omega) ?_
        rw [Int.toNat_natCast]
        (first | refine wXD ?_ | exact wZD)
        refine ⟨(i4, ⟨some wb, wc⟩), ⟨hi4, (fun h => by cases h), by show way.length ≤ wc; omega, fun h => by have : wc = 0 := h; omega⟩, rfl, ⟨rfl, rfl, rfl, rfl, rfl, trivial⟩, wkE_refl _, .inr (.inr ⟨rfl, rfl, ?_, rfl, by omega, rfl⟩), wkE_refl _, trivial⟩
        rw [hway2, Nat.mul_one]
        simp [iC]
      | false =>
      rw [if_neg (of_decide_eq_false hun)]
      (first | refine wXD ?_ | exact wZD)
      -- 7: the kind, [123]: the front
      rw [← hway2]
      have hnd2 : way2.Nodup := by
        rw [hway2]
        exact List.nodup_append.2 ⟨hw, by simp, fun x hx y hy => by
          rw [List.mem_singleton.1 hy]
          intro e
          subst e
          exact of_decide_eq_false hun hx⟩
      have hr2 : ∀ x ∈ way2, 0 ≤ x ∧ x < (l.length : Int) := fun x hx => by
        rw [hway2] at hx
        rcases List.mem_append.1 hx with hx | hx
        · exact hr x hx
        · rw [List.mem_singleton.1 hx]; omega
      obtain ⟨ff, hff⟩ : ∃ ff, ff = fun o k => writeS 20000 (leafS qt it) (l.map (·.c)) m o way2 k := ⟨_, rfl⟩
      rw [← hff]
      have hfx : ∀ o x, ff o x = writeS 20000 (leafS qt it) (l.map (·.c)) m o way2 x := fun o x => by rw [hff]
      have hpre : ∀ i, (preT (Cell.mk 7 num text names items) i).length ≤ 50 := fun i => by
        have := pre_le hsh (u : Int) i
        rw [hat] at this
        exact this
      have hfold : ∀ k, (foldT ff (preT (Cell.mk 7 num text names items)) 0 (items.take k) (out ++ ([123]))).length ≤ 130000000 := fun k => by
        have hfl : (out ++ ([123])).length ≤ out.length + 2002 := by simp; try omega
        have := foldT_len (M := 20000) (f := ff) (pre := preT (Cell.mk 7 num text names items)) (p := 50) (X := 20000 + m * 200000) hpre (by omega) (fun o k ho => by rw [hff]; exact write_same m o _ k ho) (fun o k ho => by rw [hff]; have := write_len (M := 20000) hsh m o way2 k; show (writeS _ _ _ _ _ _ _).length ≤ _; omega) (items.take k) 0 (out ++ ([123])) (22002 + m * 200000) (by omega) (by omega)
        rw [List.length_take] at this
        omega
      refine spec_of_exec hm Tryz.func122 (by kernel_rfl) rfl rfl ?_
      (first | refine wXD ?_ | exact wZD)
      -- 7: the kind, [123]: the front
      refine LoopN.intro (Nat × BSt × BSt) (fun ⟨k, i, j⟩ => k ≤ items.length ∧ i.ok (foldT ff (preT (Cell.mk 7 num text names items)) 0 (items.take k) (out ++ ([123]))).length ∧ j.ok way2.length) (fun ⟨k, _, _⟩ => mkS Tryz.f122.ntmps 0 [(0, .c (.lp 0 0)), (3, .c (.lp 7 0)), (7, .c (.v (.slice ia items.length ic))), (8, .c (.v (.int .i64 (items.length : Int)))), (9, .c (.v (.int .i64 (k : Int))))])
        (fun ⟨k, i, j⟩ => wH (.slice a l.length ca) (gF a l E) true (foldT ff (preT (Cell.mk 7 num text names items)) 0 (items.take k) (out ++ ([123]))) i way2 j ++ [.dead, .dead, .dead, .blk 42 [.v (.int .i64 7), .v (.int .i64 num), .v (.string (bs text)), .v (.slice na names.length nc), .v (.slice ia items.length ic)]]) (fun ⟨k, _, _⟩ => items.length - k) [] rfl (fun ⟨_, _, _⟩ => rfl) (fun ⟨_, _, _⟩ => rfl) (fun ⟨_, _, _⟩ _ => okHB_eq rfl) ?_ ?_
      · refine ⟨(0, i2, ⟨some wb, wc⟩), ⟨Nat.zero_le _, hi2, (fun h => by cases h), by show way2.length ≤ wc; omega, fun h => by have : wc = 0 := h; omega⟩, ?_, wkE_refl _, wkE_refl _, wkE_refl _, wkE_refl _, trivial, trivial, trivial, wkE_refl _, trivial⟩
        (repeat' (first | exact trivial | refine And.intro (by with_reducible rfl) ?_ | (with_reducible exact wkC_refl _) | (with_reducible exact wkCs_refl _) | refine And.intro ?_ ?_))
        all_goals rfl
      rintro ⟨k, i3, j3⟩ ⟨hk3, hi3, hj3⟩
      (first | refine wXD ?_ | exact wZD)
      refine brd_dec (fun h1 => ?_) (fun h1 => ?_)
      · obtain ⟨x, hx⟩ : ∃ x, items[k]? = some x := ⟨_, List.getElem?_eq_getElem (by omega)⟩
        have hxin := cellD_in hcd x (List.mem_of_getElem? hx)
        obtain ⟨xn, rfl⟩ : ∃ xn : Nat, x = (xn : Int) := ⟨x.toNat, by omega⟩
        have hx1 : xn < l.length := by omega
        have hsi : ia.isSome = true := by
          have := hpo.ia
          cases ia with
          | none =>
            have h0 : items = [] := this rfl
            rw [h0] at hx
            cases hx
          | some b => rfl
        (first | refine wXD ?_ | exact wZD)
        refine Nd.mk ⟨hsi, by omega, by omega⟩ ?_
        (first | refine wXD ?_ | exact wZD)
        refine LdN.one (.int .i64 (xn : Int)) rfl (fun w hw => (hw.2.2.1.1.2 _ hpm).2) (by rw [Int.toNat_natCast]; show (iC items)[k * 1]? = _; rw [Nat.mul_one]; exact iC_get hx) ?_
        (first | refine wXD ?_ | exact wZD)
        refine brd_eq (fun hk1 => ?_) (fun hk1 => ?_)
        · rw [Int.tmod_eq_emod_of_nonneg (by omega)] at hk1
          (first | refine wXD ?_ | exact wZD)
          -- 7: the kind, [123]: the front, [32, 61, 62, 32]: what stands ahead, by rw [preT_7 rfl, if_pos (by omega)]: why
          refine callG (WriteString_w _ _ way2 j3 true (foldT ff (preT (Cell.mk 7 num text names items)) 0 (items.take k) (out ++ ([123]))) ([32, 61, 62, 32]) i3 hi3 (by have := hfold k; simp only [List.length_cons, List.length_nil]; omega)) [0, 1, 2, 3] rfl ⟨rfl, rfl, rfl, rfl, trivial⟩ rfl fun i6 hi6 => ?_
          (first | refine wXD ?_ | exact wZD)
          -- an item is written, and the round is over; [32, 61, 62, 32]: what stands ahead of it, i6: the Builder's place, by rw [preT_7 rfl, if_pos (by omega)]: the proof that it stands ahead
          refine callG (ih (by omega) (foldT ff (preT (Cell.mk 7 num text names items)) 0 (items.take k) (out ++ ([123])) ++ ([32, 61, 62, 32])) way2 i6 j3 xn (hi6) hj3 hx1 hnd2 hr2 (by omega) (by have := hfold k; simp only [List.length_append, List.length_cons, List.length_nil]; omega)) [0, 1, 2, 3] rfl ⟨rfl, rfl, rfl, rfl, trivial⟩ rfl fun st hst => ?_
          obtain ⟨i5, j5⟩ := st
          obtain ⟨hi5, hj5⟩ := hst
          simp only at hi5 hj5
          (first | refine wXD ?_ | exact wZD)
          have hfs := foldT_take (f := ff) (pre := preT (Cell.mk 7 num text names items)) hx (out ++ ([123]))
          rw [show preT (Cell.mk 7 num text names items) k = [32, 61, 62, 32] from by rw [preT_7 rfl, if_pos (by omega)], hfx] at hfs
          refine ⟨(k + 1, i5, j5), ⟨by omega, by rw [hfs]; exact hi5, hj5⟩, by show items.length - (k + 1) < items.length - k; omega, ?_, ?_⟩
          · (repeat' (first | exact trivial | refine And.intro (by with_reducible rfl) ?_ | (with_reducible exact wkC_refl _) | (with_reducible exact wkCs_refl _) | refine And.intro ?_ ?_))
            all_goals first | rfl | exact av_int (by rw [wrap_i64 (by omega)]; omega) | exact av_int (by omega)
          · show wkH _ (wH _ _ true (foldT ff _ 0 (items.take (k + 1)) _) _ _ _ ++ _)
            rw [hfs]
            exact ⟨wkE_refl _, wkE_refl _, wkE_refl _, wkE_refl _, trivial, trivial, trivial, wkE_refl _, trivial⟩
        rw [Int.tmod_eq_emod_of_nonneg (by omega)] at hk1
        (first | refine wXD ?_ | exact wZD)
        refine brd_dec (fun hk0 => ?_) (fun hk0 => ?_)
        · (first | refine wXD ?_ | exact wZD)
          -- 7: the kind, [123]: the front, [44, 32]: what stands ahead, by rw [preT_7 rfl, if_neg (by omega), if_pos (by omega)]: why
          refine callG (WriteString_w _ _ way2 j3 true (foldT ff (preT (Cell.mk 7 num text names items)) 0 (items.take k) (out ++ ([123]))) ([44, 32]) i3 hi3 (by have := hfold k; simp only [List.length_cons, List.length_nil]; omega)) [0, 1, 2, 3] rfl ⟨rfl, rfl, rfl, rfl, trivial⟩ rfl fun i6 hi6 => ?_
          (first | refine wXD ?_ | exact wZD)
          -- an item is written, and the round is over; [44, 32]: what stands ahead of it, i6: the Builder's place, by rw [preT_7 rfl, if_neg (by omega), if_pos (by omega)]: the proof that it stands ahead
          refine callG (ih (by omega) (foldT ff (preT (Cell.mk 7 num text names items)) 0 (items.take k) (out ++ ([123])) ++ ([44, 32])) way2 i6 j3 xn (hi6) hj3 hx1 hnd2 hr2 (by omega) (by have := hfold k; simp only [List.length_append, List.length_cons, List.length_nil]; omega)) [0, 1, 2, 3] rfl ⟨rfl, rfl, rfl, rfl, trivial⟩ rfl fun st hst => ?_
          obtain ⟨i5, j5⟩ := st
          obtain ⟨hi5, hj5⟩ := hst
          simp only at hi5 hj5
          (first | refine wXD ?_ | exact wZD)
          have hfs := foldT_take (f := ff) (pre := preT (Cell.mk 7 num text names items)) hx (out ++ ([123]))
          rw [show preT (Cell.mk 7 num text names items) k = [44, 32] from by rw [preT_7 rfl, if_neg (by omega), if_pos (by omega)], hfx] at hfs
          refine ⟨(k + 1, i5, j5), ⟨by omega, by rw [hfs]; exact hi5, hj5⟩, by show items.length - (k + 1) < items.length - k; omega, ?_, ?_⟩
          · (repeat' (first | exact trivial | refine And.intro (by with_reducible rfl) ?_ | (with_reducible exact wkC_refl _) | (with_reducible exact wkCs_refl _) | refine And.intro ?_ ?_))
            all_goals first | rfl | exact av_int (by rw [wrap_i64 (by omega)]; omega) | exact av_int (by omega)
          · show wkH _ (wH _ _ true (foldT ff _ 0 (items.take (k + 1)) _) _ _ _ ++ _)
            rw [hfs]
            exact ⟨wkE_refl _, wkE_refl _, wkE_refl _, wkE_refl _, trivial, trivial, trivial, wkE_refl _, trivial⟩
        · (first | refine wXD ?_ | exact wZD)
          -- 7: the kind, [123]: the front, by rw [preT_7 rfl, if_neg (by omega), if_neg (by omega)]: why
          rw [show foldT ff (preT (Cell.mk 7 num text names items)) 0 (items.take k) (out ++ ([123])) = foldT ff (preT (Cell.mk 7 num text names items)) 0 (items.take k) (out ++ ([123])) ++ [] from (List.append_nil _).symm]
          -- an item is written, and the round is over; []: what stands ahead of it, i3: the Builder's place, by rw [preT_7 rfl, if_neg (by omega), if_neg (by omega)]: the proof that it stands ahead
          refine callG (ih (by omega) (foldT ff (preT (Cell.mk 7 num text names items)) 0 (items.take k) (out ++ ([123])) ++ ([])) way2 i3 j3 xn (by rw [List.append_nil]; exact hi3) hj3 hx1 hnd2 hr2 (by omega) (by have := hfold k; simp only [List.length_append, List.length_cons, List.length_nil]; omega)) [0, 1, 2, 3] rfl ⟨rfl, rfl, rfl, rfl, trivial⟩ rfl fun st hst => ?_
          obtain ⟨i5, j5⟩ := st
          obtain ⟨hi5, hj5⟩ := hst
          simp only at hi5 hj5
          (first | refine wXD ?_ | exact wZD)
          have hfs := foldT_take (f := ff) (pre := preT (Cell.mk 7 num text names items)) hx (out ++ ([123]))
          rw [show preT (Cell.mk 7 num text names items) k = [] from by rw [preT_7 rfl, if_neg (by omega), if_neg (by omega)], hfx] at hfs
          refine ⟨(k + 1, i5, j5), ⟨by omega, by rw [hfs]; exact hi5, hj5⟩, by show items.length - (k + 1) < items.length - k; omega, ?_, ?_⟩
          · (repeat' (first | exact trivial | refine And.intro (by with_reducible rfl) ?_ | (with_reducible exact wkC_refl _) | (with_reducible exact wkCs_refl _) | refine And.intro ?_ ?_))
            all_goals first | rfl | exact av_int (by rw [wrap_i64 (by omega)]; omega) | exact av_int (by omega)
          · show wkH _ (wH _ _ true (foldT ff _ 0 (items.take (k + 1)) _) _ _ _ ++ _)
            rw [hfs]
            exact ⟨wkE_refl _, wkE_refl _, wkE_refl _, wkE_refl _, trivial, trivial, trivial, wkE_refl _, trivial⟩
      · have hin : k = items.length := by omega
        subst hin
        rw [List.take_length] at hi3 ⊢
        have hfe := hfold items.length
        rw [List.take_length] at hfe
        obtain ⟨wb, wc⟩ := j3
        cases wb with
        | none =>
          have := (hj3.1 rfl).1
          omega
        | some wb =>
        have hwc3 : way2.length ≤ wc := hj3.2.1
        (first | refine wXD ?_ | exact wZD)
        refine callG (WriteString_w _ _ way2 ⟨some wb, wc⟩ true (foldT ff (preT (Cell.mk 7 num text names items)) 0 items (out ++ ([123]))) ([125]) i3 hi3 (by simp only [List.length_cons, List.length_nil]; omega)) [0, 1, 2, 3] rfl ⟨rfl, rfl, rfl, rfl, trivial⟩ rfl fun i7 hi7 => ?_
        (first | refine wXD ?_ | exact wZD)
        -- i7: the Builder's place
        refine DrawN.plan [0, 1, 5] [(2, 1), (3, 1), (4, 1), (6, 1), (7, 1), (8, 1), (9, 1), (10, 1), (11, 1), (12, 1), (13, 1)] [(14, 0)] (by decide +kernel) ?_
        (first | refine wXD ?_ | exact wZD)
        rw [show IntKind.i64.wrap ((way2.length : Int) - 1) = (way.length : Int) by rw [wrap_i64 (by omega)]; omega]
        refine ReadW.slc_hi rfl (by kernel_rfl) rfl rfl (by show (0 : Int) ≤ (way.length : Int) ∧ (way.length : Int) ≤ (wc : Int); omega) ?_
        rw [Int.toNat_natCast]
        (first | refine wXD ?_ | exact wZD)
        refine ⟨(i7, ⟨some wb, wc⟩), ⟨hi7, (fun h => by cases h), by show way.length ≤ wc; omega, fun h => by have : wc = 0 := h; omega⟩, rfl, ⟨rfl, rfl, rfl, rfl, rfl, trivial⟩, wkE_refl _, .inr (.inr ⟨rfl, rfl, ?_, rfl, by omega, rfl⟩), wkE_refl _, trivial⟩
        rw [hway2, Nat.mul_one]
        simp [iC]
    · rw [writeS_in hM hat (fun h => absurd (of_decide_eq_true h) (by show ¬ (8 : Int) ≤ 5; decide))]
      -- 8: the kind
      refine ownC hm Tryz.func51 (by kernel_rfl) rfl rfl (fun _ _ => wH_ok _ _ _ _ _ _ _) (fun _ _ => Nat.le_refl _) ?_
      (first | refine wX ?_ | exact wZ)
      refine callG (Len_w _ _ way j true out i) [0, 1, 2, 3] rfl ⟨rfl, rfl, rfl, rfl, trivial⟩ rfl fun _ _ => ?_
      (first | refine wX ?_ | exact wZ)
      refine brd_dec (fun h => absurd h (by omega)) (fun _ => ?_)
      (first | refine wX ?_ | exact wZ)
      refine Nd.mk ⟨hsa, by omega, by omega⟩ ?_
      (first | refine wX ?_ | exact wZ)
      refine LdN.agg [.int .i64 8, .int .i64 num, .string (bs text), .slice na names.length nc, .slice ia items.length ic] rfl (fun w hw => hw.2.2.1.1.1) rfl (fun k hk => by rw [Int.toNat_natCast]; exact grC_get l u k hk hp) ?_
      (first | refine wXD ?_ | exact wZD)
      refine spec_of_exec hm Tryz.func99 (by kernel_rfl) rfl rfl ?_
      (first | refine wXF ?_ | exact wZF)
      refine BoxN.known [.int .i64 8, .int .i64 num, .string (bs text), .slice na names.length nc, .slice ia items.length ic] rfl fun cb => ?_
      (first | refine wXF ?_ | exact wZF)
      refine SpecH.args (args' := pvs [.slice (at0 j.ob) way.length j.cap, .int .i64 (u : Int)]) (by simp [pvs, opvs, opv, nth]; try rfl) ?_
      refine call1 (contains_c j.ob j.cap way u (fun h => List.eq_nil_of_length_eq_zero (hj.1 h).1) (by omega) _ (fun w hw => hw.2.1)) ?_
      (first | refine wXF ?_ | exact wZF)
      try refine Nd.mk ⟨Nat.le_refl 1, rfl, rfl⟩ ?_
      (conv => whnf)
      refine AppN.grow 2 (iC way) [.int .i64 (u : Int)] rfl rfl ⟨Nat.le_refl 1, ⟨by show (way.length + 1) * 8 ≤ _; omega, by omega⟩, Nat.one_ne_zero⟩ fun wb wc hwc _ => ?_
      obtain ⟨way2, hway2⟩ : ∃ w2, w2 = way ++ [(u : Int)] := ⟨_, rfl⟩
      have hcl : iC way ++ [.int .i64 (u : Int)] = iC way2 := by rw [hway2]; simp [iC]
      have hll : way.length + 1 = way2.length := by rw [hway2]; simp
      rw [hcl, hll]
      (first | refine wXF ?_ | exact wZF)
      refine Nd.mk (by show 2 + (bs text).size < _; rw [bs_size]; omega) ?_
      rw [show (({ data := #[35, 60] } : ByteArray) ++ bs text) = bs ([35, 60] ++ text) by rw [← bs_app]; rfl]
      (first | refine wXF ?_ | exact wZF)
      -- out: what is there, [35, 60] ++ text: what is written, i: the Builder's place, hi: its word, i2: the place behind
      refine callG (WriteString_w _ _ way2 ⟨some wb, wc⟩ true (out) ([35, 60] ++ text) i hi (by first | omega | (simp; omega))) [0, 1, 2, 3] rfl ⟨rfl, rfl, rfl, rfl, trivial⟩ rfl fun i2 hi2 => ?_
      (first | refine wXF ?_ | exact wZF)
      cases hun : decide ((u : Int) ∈ way) with
      | true =>
        rw [if_pos (of_decide_eq_true hun)]
        (first | refine wXF ?_ | exact wZF)
        -- out ++ ([35, 60] ++ text): what is there, [32, 46, 46, 46]: what is written, i2: the Builder's place, hi2: its word, i3: the place behind
        refine callG (WriteString_w _ _ way2 ⟨some wb, wc⟩ true (out ++ ([35, 60] ++ text)) ([32, 46, 46, 46]) i2 hi2 (by first | omega | (simp; omega))) [0, 1, 2, 3] rfl ⟨rfl, rfl, rfl, rfl, trivial⟩ rfl fun i3 hi3 => ?_
        (first | refine wXF ?_ | exact wZF)
        -- out ++ ([35, 60] ++ text) ++ [32, 46, 46, 46]: what is there, [62]: what is written, i3: the Builder's place, hi3: its word, i4: the place behind
        refine callG (WriteString_w _ _ way2 ⟨some wb, wc⟩ true (out ++ ([35, 60] ++ text) ++ [32, 46, 46, 46]) ([62]) i3 hi3 (by first | omega | (simp; omega))) [0, 1, 2, 3] rfl ⟨rfl, rfl, rfl, rfl, trivial⟩ rfl fun i4 hi4 => ?_
        (first | refine wXF ?_ | exact wZF)
        -- i4: the Builder's place
        refine DrawN.plan [0, 1, 5] [(2, 1), (3, 1), (4, 1), (6, 1), (7, 1), (8, 1), (9, 1), (10, 1), (11, 1), (12, 1), (13, 1)] [(14, 0)] (by decide +kernel) ?_
        (first | refine wXD ?_ | exact wZD)
        rw [show IntKind.i64.wrap ((way2.length : Int) - 1) = (way.length : Int) by rw [wrap_i64 (by omega)]; omega]
        refine ReadW.slc_hi rfl (by kernel_rfl) rfl rfl (by show (0 : Int) ≤ (way.length : Int) ∧ (way.length : Int) ≤ (wc : Int); omega) ?_
        rw [Int.toNat_natCast]
        (first | refine wXD ?_ | exact wZD)
        refine ⟨(i4, ⟨some wb, wc⟩), ⟨hi4, (fun h => by cases h), by show way.length ≤ wc; omega, fun h => by have : wc = 0 := h; omega⟩, rfl, ⟨rfl, rfl, rfl, rfl, rfl, trivial⟩, wkE_refl _, .inr (.inr ⟨rfl, rfl, ?_, rfl, by omega, rfl⟩), wkE_refl _, trivial⟩
        rw [hway2, Nat.mul_one]
        simp [iC]
      | false =>
      rw [if_neg (of_decide_eq_false hun)]
      (first | refine wXF ?_ | exact wZF)
      -- 8: the kind, [35, 60] ++ text: the front
      rw [← hway2]
      have hnd2 : way2.Nodup := by
        rw [hway2]
        exact List.nodup_append.2 ⟨hw, by simp, fun x hx y hy => by
          rw [List.mem_singleton.1 hy]
          intro e
          subst e
          exact of_decide_eq_false hun hx⟩
      have hr2 : ∀ x ∈ way2, 0 ≤ x ∧ x < (l.length : Int) := fun x hx => by
        rw [hway2] at hx
        rcases List.mem_append.1 hx with hx | hx
        · exact hr x hx
        · rw [List.mem_singleton.1 hx]; omega
      obtain ⟨ff, hff⟩ : ∃ ff, ff = fun o k => writeS 20000 (leafS qt it) (l.map (·.c)) m o way2 k := ⟨_, rfl⟩
      rw [← hff]
      have hfx : ∀ o x, ff o x = writeS 20000 (leafS qt it) (l.map (·.c)) m o way2 x := fun o x => by rw [hff]
      have hpre : ∀ i, (preT (Cell.mk 8 num text names items) i).length ≤ 50 := fun i => by
        have := pre_le hsh (u : Int) i
        rw [hat] at this
        exact this
      have hfold : ∀ k, (foldT ff (preT (Cell.mk 8 num text names items)) 0 (items.take k) (out ++ ([35, 60] ++ text))).length ≤ 130000000 := fun k => by
        have hfl : (out ++ ([35, 60] ++ text)).length ≤ out.length + 2002 := by simp; try omega
        have := foldT_len (M := 20000) (f := ff) (pre := preT (Cell.mk 8 num text names items)) (p := 50) (X := 20000 + m * 200000) hpre (by omega) (fun o k ho => by rw [hff]; exact write_same m o _ k ho) (fun o k ho => by rw [hff]; have := write_len (M := 20000) hsh m o way2 k; show (writeS _ _ _ _ _ _ _).length ≤ _; omega) (items.take k) 0 (out ++ ([35, 60] ++ text)) (22002 + m * 200000) (by omega) (by omega)
        rw [List.length_take] at this
        omega
      refine LoopN.intro (Nat × BSt × BSt) (fun ⟨k, i, j⟩ => k ≤ items.length ∧ i.ok (foldT ff (preT (Cell.mk 8 num text names items)) 0 (items.take k) (out ++ ([35, 60] ++ text))).length ∧ j.ok way2.length) (fun ⟨k, _, _⟩ => mkS Tryz.f99.ntmps 0 [(0, .c (.lp 0 0)), (5, .c (.v (.pointer (some ⟨cb, 0, none⟩)))), (8, .c (.v (.string (bs [62])))), (57, .c (.v (.slice ia items.length ic))), (58, .c (.v (.int .i64 (items.length : Int)))), (59, .c (.v (.int .i64 (k : Int))))])
        (fun ⟨k, i, j⟩ => wH (.slice a l.length ca) (gF a l E) true (foldT ff (preT (Cell.mk 8 num text names items)) 0 (items.take k) (out ++ ([35, 60] ++ text))) i way2 j ++ [.dead, .app 42 5 [.int .i64 8, .int .i64 num, .string (bs text), .slice na names.length nc, .slice ia items.length ic] (some ⟨cb, 0, none⟩) 1 1, .dead]) (fun ⟨k, _, _⟩ => items.length - k) [] rfl (fun ⟨_, _, _⟩ => rfl) (fun ⟨_, _, _⟩ => rfl) (fun ⟨_, _, _⟩ _ => okHB_eq rfl) ?_ ?_
      · refine ⟨(0, i2, ⟨some wb, wc⟩), ⟨Nat.zero_le _, hi2, (fun h => by cases h), by show way2.length ≤ wc; omega, fun h => by have : wc = 0 := h; omega⟩, ?_, wkE_refl _, wkE_refl _, wkE_refl _, wkE_refl _, trivial, wkE_refl _, trivial, trivial⟩
        (repeat' (first | exact trivial | refine And.intro (by with_reducible rfl) ?_ | (with_reducible exact wkC_refl _) | (with_reducible exact wkCs_refl _) | refine And.intro ?_ ?_))
        all_goals rfl
      rintro ⟨k, i3, j3⟩ ⟨hk3, hi3, hj3⟩
      (first | refine wXF ?_ | exact wZF)
      refine brd_dec (fun h1 => ?_) (fun h1 => ?_)
      · obtain ⟨x, hx⟩ : ∃ x, items[k]? = some x := ⟨_, List.getElem?_eq_getElem (by omega)⟩
        have hxin := cellD_in hcd x (List.mem_of_getElem? hx)
        obtain ⟨xn, rfl⟩ : ∃ xn : Nat, x = (xn : Int) := ⟨x.toNat, by omega⟩
        have hx1 : xn < l.length := by omega
        have hsi : ia.isSome = true := by
          have := hpo.ia
          cases ia with
          | none =>
            have h0 : items = [] := this rfl
            rw [h0] at hx
            cases hx
          | some b => rfl
        have hln : names.length = items.length := cellD_lens hcd rfl
        obtain ⟨nm, hnm⟩ : ∃ nm, names[k]? = some nm := ⟨_, List.getElem?_eq_getElem (by omega)⟩
        have hnl40 : nm.length ≤ 40 := cellD_names hcd nm (List.mem_of_getElem? hnm)
        have hsn : na.isSome = true := by
          have := hpo.na
          cases na with
          | none =>
            have h0 : names = [] := this rfl
            rw [h0] at hnm
            cases hnm
          | some b => rfl
        (first | refine wXF ?_ | exact wZF)
        refine Nd.mk ⟨hsi, by omega, by omega⟩ ?_
        (first | refine wXF ?_ | exact wZF)
        refine LdN.one (.int .i64 (xn : Int)) rfl (fun w hw => (hw.2.2.1.1.2 _ hpm).2) (by rw [Int.toNat_natCast]; show (iC items)[k * 1]? = _; rw [Nat.mul_one]; exact iC_get hx) ?_
        (first | refine wXF ?_ | exact wZF)
        refine DrawN.planK hm (fun w => SlAt (some ⟨cb, 0, none⟩) 5 [.int .i64 8, .int .i64 num, .string (bs text), .slice na names.length nc, .slice ia items.length ic] w ∧ SlAt na (names.length * 1) (strC names) w) [3] [0, 4, 8, 10] [(1, 1), (2, 1), (5, 1), (9, 1), (11, 1), (12, 1), (3, 2), (6, 0), (7, 0), (13, 0), (14, 0), (15, 0)] (by decide +kernel) (fun w hw => ⟨hw.2.2.2.1, (hw.2.2.1.1.2 _ hpm).1⟩) ?_
        -- fun w hw => ⟨hw.2.2.2.1, (hw.2.2.1.1.2 _ hpm).1⟩: why the kind holds
        ((conv => whnf); (repeat ((first | refine Nd.mk (fun w hw => ⟨hw.2.2.2.1, (hw.2.2.1.1.2 _ hpm).1⟩) ?_ | refine VrN.norm (wrap_i64 (by omega)) ?_ | refine VrN.keep ?_ | refine Nd.mk (by decide +kernel) ?_ | refine Nd.mk (by omega) ?_ | refine RdN.intro _ rfl (by rfl) ?_); (conv => whnf))))
        refine BlindW.min2 (x := .tmp 68) (y := .const (.int .i64 1)) (a := (k : Int)) (b := 1) rfl rfl ?_ rfl ?_
        · rfl
        -- fun w hw => ⟨hw.2.2.2.1, (hw.2.2.1.1.2 _ hpm).1⟩: why the kind holds
        ((conv => whnf); (repeat ((first | refine Nd.mk (fun w hw => ⟨hw.2.2.2.1, (hw.2.2.1.1.2 _ hpm).1⟩) ?_ | refine VrN.norm (wrap_i64 (by omega)) ?_ | refine VrN.keep ?_ | refine Nd.mk (by decide +kernel) ?_ | refine Nd.mk (by omega) ?_ | refine RdN.intro _ rfl (by rfl) ?_); (conv => whnf))))
        refine ReadC.one (T := 40) (x := .tmp 72) (a := some ⟨cb, 0, none⟩) (q := 3) (k := 5) (xs := [.int .i64 8, .int .i64 num, .string (bs text), .slice na names.length nc, .slice ia items.length ic]) (.slice na names.length nc) ?_ ?_ ?_ ?_ ?_ ?_
        · rfl
        · rfl
        · rfl
        · exact fun w hw => hw.1
        · rfl
        -- fun w hw => ⟨hw.2.2.2.1, (hw.2.2.1.1.2 _ hpm).1⟩: why the kind holds
        ((conv => whnf); (repeat ((first | refine Nd.mk (fun w hw => ⟨hw.2.2.2.1, (hw.2.2.1.1.2 _ hpm).1⟩) ?_ | refine VrN.norm (wrap_i64 (by omega)) ?_ | refine VrN.keep ?_ | refine Nd.mk (by decide +kernel) ?_ | refine Nd.mk (by omega) ?_ | refine RdN.intro _ rfl (by rfl) ?_); (conv => whnf))))
        refine ReadC.idxA (T := 40) (x := .tmp 73) (i := .tmp 74) (kk := .i64) (e := 9) (sz := 1) (a := na) (n := names.length) (cap := nc) k rfl Tryz.underlying40 rfl rfl ?_ ?_ hsn (by omega) ?_
        · rfl
        · rfl
        -- fun w hw => ⟨hw.2.2.2.1, (hw.2.2.1.1.2 _ hpm).1⟩: why the kind holds
        ((conv => whnf); (repeat ((first | refine Nd.mk (fun w hw => ⟨hw.2.2.2.1, (hw.2.2.1.1.2 _ hpm).1⟩) ?_ | refine VrN.norm (wrap_i64 (by omega)) ?_ | refine VrN.keep ?_ | refine Nd.mk (by decide +kernel) ?_ | refine Nd.mk (by omega) ?_ | refine RdN.intro _ rfl (by rfl) ?_); (conv => whnf))))
        refine ReadC.one (T := 9) (x := .tmp 75) (a := na) (q := k * 1) (k := names.length * 1) (xs := strC names) (.string (bs nm)) ?_ ?_ ?_ ?_ ?_ ?_
        · rfl
        · rfl
        · rfl
        · exact fun w hw => hw.2
        · rw [Nat.mul_one]; exact strC_get hnm
        -- fun w hw => ⟨hw.2.2.2.1, (hw.2.2.1.1.2 _ hpm).1⟩: why the kind holds
        ((conv => whnf); (repeat ((first | refine Nd.mk (fun w hw => ⟨hw.2.2.2.1, (hw.2.2.1.1.2 _ hpm).1⟩) ?_ | refine VrN.norm (wrap_i64 (by omega)) ?_ | refine VrN.keep ?_ | refine Nd.mk (by decide +kernel) ?_ | refine Nd.mk (by omega) ?_ | refine RdN.intro _ rfl (by rfl) ?_); (conv => whnf))))
        intro rb
        -- fun w hw => ⟨hw.2.2.2.1, (hw.2.2.1.1.2 _ hpm).1⟩: why the kind holds
        ((conv => whnf); (repeat ((first | refine Nd.mk (fun w hw => ⟨hw.2.2.2.1, (hw.2.2.1.1.2 _ hpm).1⟩) ?_ | refine VrN.norm (wrap_i64 (by omega)) ?_ | refine VrN.keep ?_ | refine Nd.mk (by decide +kernel) ?_ | refine Nd.mk (by omega) ?_ | refine RdN.intro _ rfl (by rfl) ?_); (conv => whnf))))
        refine Nd.mk ⟨rfl, by unfold minI; split <;> omega, by unfold minI; split <;> omega⟩ ?_
        -- fun w hw => ⟨hw.2.2.2.1, (hw.2.2.1.1.2 _ hpm).1⟩: why the kind holds
        ((conv => whnf); (repeat ((first | refine Nd.mk (fun w hw => ⟨hw.2.2.2.1, (hw.2.2.1.1.2 _ hpm).1⟩) ?_ | refine VrN.norm (wrap_i64 (by omega)) ?_ | refine VrN.keep ?_ | refine Nd.mk (by decide +kernel) ?_ | refine Nd.mk (by omega) ?_ | refine RdN.intro _ rfl (by rfl) ?_); (conv => whnf))))
        obtain ⟨sp, hsp⟩ : ∃ sp : List UInt8, sp = if k = 0 then [32] else [44, 32] := ⟨_, rfl⟩
        have hspl : sp.length ≤ 2 := by rw [hsp]; split <;> simp
        refine LdN.one (a := some ⟨rb, 0, none⟩) (xs := [.string { data := #[32] }, .string { data := #[44, 32] }]) (.string (bs sp)) rfl (fun w hw => hw.2.2.2.2.1) ?_ ?_
        · rw [hsp]
          rcases Nat.eq_zero_or_pos k with hk0 | hk0
          · rw [if_pos hk0, hk0]; rfl
          · rw [if_neg (by omega), show minI (k : Int) 1 = if k = 1 then 1 else 1 by unfold minI; split <;> split <;> omega]
            split <;> rfl
        -- fun w hw => ⟨hw.2.2.2.1, (hw.2.2.1.1.2 _ hpm).1⟩: why the kind holds
        ((conv => whnf); (repeat ((first | refine Nd.mk (fun w hw => ⟨hw.2.2.2.1, (hw.2.2.1.1.2 _ hpm).1⟩) ?_ | refine VrN.norm (wrap_i64 (by omega)) ?_ | refine VrN.keep ?_ | refine Nd.mk (by decide +kernel) ?_ | refine Nd.mk (by omega) ?_ | refine RdN.intro _ rfl (by rfl) ?_); (conv => whnf))))
        refine Nd.mk (by rw [bs_size, bs_size]; omega) ?_
        rw [bs_app]
        -- fun w hw => ⟨hw.2.2.2.1, (hw.2.2.1.1.2 _ hpm).1⟩: why the kind holds
        ((conv => whnf); (repeat ((first | refine Nd.mk (fun w hw => ⟨hw.2.2.2.1, (hw.2.2.1.1.2 _ hpm).1⟩) ?_ | refine VrN.norm (wrap_i64 (by omega)) ?_ | refine VrN.keep ?_ | refine Nd.mk (by decide +kernel) ?_ | refine Nd.mk (by omega) ?_ | refine RdN.intro _ rfl (by rfl) ?_); (conv => whnf))))
        refine Nd.mk (by show (bs (sp ++ nm)).size + 1 < _; rw [bs_size]; simp; omega) ?_
        rw [show (bs (sp ++ nm) ++ ({ data := #[61] } : ByteArray)) = bs (sp ++ nm ++ [61]) by rw [← bs_app]; rfl]
        -- fun w hw => ⟨hw.2.2.2.1, (hw.2.2.1.1.2 _ hpm).1⟩: why the kind holds
        ((conv => whnf); (repeat ((first | refine Nd.mk (fun w hw => ⟨hw.2.2.2.1, (hw.2.2.1.1.2 _ hpm).1⟩) ?_ | refine VrN.norm (wrap_i64 (by omega)) ?_ | refine VrN.keep ?_ | refine Nd.mk (by decide +kernel) ?_ | refine Nd.mk (by omega) ?_ | refine RdN.intro _ rfl (by rfl) ?_); (conv => whnf))))
        have hnd : names.getD k [] = nm := by rw [List.getD_eq_getElem?_getD, hnm]; rfl
        refine callG (WriteString_w _ _ way2 j3 true (foldT ff (preT (Cell.mk 8 num text names items)) 0 (items.take k) (out ++ ([35, 60] ++ text))) (sp ++ nm ++ [61]) i3 hi3 (by have := hfold k; simp only [List.length_append, List.length_cons, List.length_nil] at this ⊢; omega)) [0, 1, 2, 3] rfl ⟨rfl, rfl, rfl, rfl, trivial⟩ rfl fun i6 hi6 => ?_
        -- fun w hw => ⟨hw.2.2.2.1, (hw.2.2.1.1.2 _ hpm).1⟩: why the kind holds
        ((conv => whnf); (repeat ((first | refine Nd.mk (fun w hw => ⟨hw.2.2.2.1, (hw.2.2.1.1.2 _ hpm).1⟩) ?_ | refine VrN.norm (wrap_i64 (by omega)) ?_ | refine VrN.keep ?_ | refine Nd.mk (by decide +kernel) ?_ | refine Nd.mk (by omega) ?_ | refine RdN.intro _ rfl (by rfl) ?_); (conv => whnf))))
        (first | refine wXF ?_ | exact wZF)
        refine callG (ih (by omega) (foldT ff (preT (Cell.mk 8 num text names items)) 0 (items.take k) (out ++ ([35, 60] ++ text)) ++ (sp ++ nm ++ [61])) way2 i6 j3 xn hi6 hj3 hx1 hnd2 hr2 (by omega) (by have := hfold k; simp only [List.length_append, List.length_cons, List.length_nil] at this ⊢; omega)) [0, 1, 2, 3] rfl ⟨rfl, rfl, rfl, rfl, trivial⟩ rfl fun st hst => ?_
        obtain ⟨i5, j5⟩ := st
        obtain ⟨hi5, hj5⟩ := hst
        simp only at hi5 hj5
        (first | refine wXF ?_ | exact wZF)
        have hfs := foldT_take (f := ff) (pre := preT (Cell.mk 8 num text names items)) hx (out ++ ([35, 60] ++ text))
        rw [show preT (Cell.mk 8 num text names items) k = sp ++ nm ++ [61] from by rw [preT_8 rfl, ← hsp]; show sp ++ names.getD k [] ++ [61] = _; rw [hnd], hfx] at hfs
        refine ⟨(k + 1, i5, j5), ⟨by omega, by rw [hfs]; exact hi5, hj5⟩, by show items.length - (k + 1) < items.length - k; omega, ?_, ?_⟩
        · (repeat' (first | exact trivial | refine And.intro (by with_reducible rfl) ?_ | (with_reducible exact wkC_refl _) | (with_reducible exact wkCs_refl _) | refine And.intro ?_ ?_))
          all_goals first | rfl | exact av_int (by rw [wrap_i64 (by omega)]; omega) | exact av_int (by omega)
        · show wkH _ (wH _ _ true (foldT ff _ 0 (items.take (k + 1)) _) _ _ _ ++ _)
          rw [hfs]
          exact ⟨wkE_refl _, wkE_refl _, wkE_refl _, wkE_refl _, trivial, wkE_refl _, trivial, trivial⟩
      · have hin : k = items.length := by omega
        subst hin
        rw [List.take_length] at hi3 ⊢
        have hfe := hfold items.length
        rw [List.take_length] at hfe
        obtain ⟨wb, wc⟩ := j3
        cases wb with
        | none =>
          have := (hj3.1 rfl).1
          omega
        | some wb =>
        have hwc3 : way2.length ≤ wc := hj3.2.1
        (first | refine wXF ?_ | exact wZF)
        refine callG (WriteString_w _ _ way2 ⟨some wb, wc⟩ true (foldT ff (preT (Cell.mk 8 num text names items)) 0 items (out ++ ([35, 60] ++ text))) [62] i3 hi3 (by simp only [List.length_cons, List.length_nil]; omega)) [0, 1, 2, 3] rfl ⟨rfl, rfl, rfl, rfl, trivial⟩ rfl fun i7 hi7 => ?_
        (first | refine wXF ?_ | exact wZF)
        -- i7: the Builder's place
        refine DrawN.plan [0, 1, 5] [(2, 1), (3, 1), (4, 1), (6, 1), (7, 1), (8, 1), (9, 1), (10, 1), (11, 1), (12, 1), (13, 1)] [(14, 0)] (by decide +kernel) ?_
        (first | refine wXD ?_ | exact wZD)
        rw [show IntKind.i64.wrap ((way2.length : Int) - 1) = (way.length : Int) by rw [wrap_i64 (by omega)]; omega]
        refine ReadW.slc_hi rfl (by kernel_rfl) rfl rfl (by show (0 : Int) ≤ (way.length : Int) ∧ (way.length : Int) ≤ (wc : Int); omega) ?_
        rw [Int.toNat_natCast]
        (first | refine wXD ?_ | exact wZD)
        refine ⟨(i7, ⟨some wb, wc⟩), ⟨hi7, (fun h => by cases h), by show way.length ≤ wc; omega, fun h => by have : wc = 0 := h; omega⟩, rfl, ⟨rfl, rfl, rfl, rfl, rfl, trivial⟩, wkE_refl _, .inr (.inr ⟨rfl, rfl, ?_, rfl, by omega, rfl⟩), wkE_refl _, trivial⟩
        rw [hway2, Nat.mul_one]
        simp [iC]
end Go.Proofs.YtahjbnfbilkbcaaGreatDoor
