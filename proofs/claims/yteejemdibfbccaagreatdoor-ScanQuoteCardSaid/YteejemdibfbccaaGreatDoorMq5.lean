/-
  ScanQuoteCardSaid is proved: of every text ScanQuote returns true and leaves its argument as it was; the listed tables are tied to the program's text.
-/
import Derived.Test.YteejemdibfbccaaGreatDoorChecked
import Derived.Tactics
import Derived.Tactics2
import Derived.Defers
import Derived.Laws.Pointers
import Derived.Laws.LoneSync
import Derived.RegionTactic
import Derived.RegionCalls
import Derived.ChangeAlike
import Derived.Test.YteejemdibfbccaaGreatDoorCards
import Derived.Test.YteejemdibfbccaaGreatDoorTie
import Derived.Test.YteejemdibfbccaaGreatDoorMq4
/-
  Contract: Scan of a text between quotes (program).
-/
namespace Go.Proofs.YteejemdibfbccaaGreatDoor
open Go.AX Go.RowKit Go.Scan
set_option maxRecDepth 20000

/-- One string, and no more. -/
def QuR (t : List UInt8) (v : Value) (G : World → Prop) : Prop := ∃ (b cap : Nat) (i : Nat × Nat), v = .tuple #[.slice (some ⟨b, 0, none⟩) 1 cap, .int .i64 0, .int .i64 0] ∧ ∀ w, G w → SlAt (some ⟨b, 0, none⟩) 5 (toksC [quT i]) w ∧ PaF i.1 [⟨false, t⟩] w
def quF (t : List UInt8) (j : Nat) (i : Nat × Nat) : World → Prop := match j with | 0 => ScanF | _ => fun w => ScanF w ∧ PaF i.1 [⟨false, t⟩] w
theorem ScanQu_c (t s : List UInt8) (hsq : s = quS t) (hs : s.length ≤ 20000) : SpecF Tryz.prog 23 [.string (bs s)] ScanF (QuR t) := by
  refine specF_of (spec_of_defer (g := 43) (d := 12) (cp := capsOf) hm Tryz.func23 (by kernel_rfl) rfl (fun t w Q ht h => hD_c _ _ _ _ _ _ t w Q ht h) (fun t w => by simp [go_sem, capsOf]) (fun t w => quiet_c _ _ _ w) rfl ?_)
  have hz := bs_size s
  have h0 : 1 ≤ s.length := by rw [hsq, quS_len]; omega
  (conv => whnf)
  refine BoxN.own ?_
  (conv => whnf)
  refine BoxN.own ?_
  (conv => whnf)
  refine BoxN.own ?_
  ((conv => whnf); (repeat ((first | refine RwN.own ?_ | refine VrN.norm (wrap_i64 (by omega)) ?_ | refine VrN.keep ?_ | refine DrawN.calm (by decide +kernel) ?_ | refine Nd.mk (by decide +kernel) ?_ | refine Nd.mk (by omega) ?_ | (refine Nd.mk ?_ ?_; focus ((repeat' (first | exact trivial | exact wkE_refl _ | refine And.intro ?_ ?_)); done)) | refine RdN.intro _ rfl (by rfl) ?_); (conv => whnf))))
  rw [hz]
  refine brd_dec (fun h => absurd h (by omega)) (fun _ => ?_)
  ((conv => whnf); (repeat ((first | refine RwN.own ?_ | refine VrN.norm (wrap_i64 (by omega)) ?_ | refine VrN.keep ?_ | refine DrawN.calm (by decide +kernel) ?_ | refine Nd.mk (by decide +kernel) ?_ | refine Nd.mk (by omega) ?_ | (refine Nd.mk ?_ ?_; focus ((repeat' (first | exact trivial | exact wkE_refl _ | refine And.intro ?_ ?_)); done)) | refine RdN.intro _ rfl (by rfl) ?_); (conv => whnf))))
  refine BoxN.known [.string (bs s), .int .i64 0, .int .i64 1, .slice none 0 0, .int .i64 0, .bool false] rfl fun xb => ?_
  (first | refine wX ?_ | exact wZ)
  refine ⟨rfl, ?_⟩
  (first | refine wX ?_ | exact wZ)
  refine LoopN.intro (Nat × Option Nat × Nat × Nat × Nat) (fun ⟨j, ob, _, _⟩ => j ≤ 1 ∧ (ob = none → j = 0)) (fun ⟨_, _, _, _⟩ => mkS Tryz.f23.ntmps 0 [(2, .c (.lp 1 0)), (3, .c (.lp 2 0)), (4, .c (.lp 3 0)), (5, .c (.v (.pointer (some ⟨xb, 0, none⟩))))])
    (fun ⟨j, ob, cap, i⟩ => [.fact (quF t j i), .blk 30 (cellsV (.slice none 0 0)), .blk 3 (cellsV (.int .i64 0)), .blk 31 (cellsV (.int .i64 0)), scE xb s (posN s j) 1 ob (tokN (quT i) j).length cap 0 false, toE (tokN (quT i) j) ob cap]) (fun ⟨j, _, _, _⟩ => 1 - j) [.app 0 0 [] none 0 0] rfl (fun _ => rfl) (fun _ => rfl) (fun _ _ => okHB_eq rfl) ⟨(0, none, 0, 0, 0), ⟨Nat.zero_le _, fun _ => rfl⟩, ?_, ⟨wkE_refl _, wkE_refl _, wkE_refl _, wkE_refl _, wkE_refl _, wkE_nil, wkH_nil _⟩⟩ ?_
  · (repeat' (first | exact trivial | refine And.intro (by with_reducible rfl) ?_ | (with_reducible exact wkC_refl _) | (with_reducible exact wkCs_refl _) | refine And.intro ?_ ?_))
    all_goals rfl
  rintro ⟨j, ob, cap, i⟩ ⟨hj, hob⟩
  have hall : j = 0 ∨ j = 1 := by omega
  rcases hall with rfl | rfl
  · (first | refine wX ?_ | exact wZ)
    refine LdN.one (a := some ⟨xb, 0, none⟩) (q := 1) (.int .i64 ((posN s 0 : Nat) : Int)) rfl (fun w hw => hw.2.1) rfl ?_
    (first | refine wX ?_ | exact wZ)
    refine LdN.one (a := some ⟨xb, 0, none⟩) (q := 0) (.string (bs s)) rfl (fun w hw => hw.2.1) rfl ?_
    (first | refine wX ?_ | exact wZ)
    rw [hz]
    refine brd_dec (fun _ => ?_) (fun h => absurd (show (0 : Int) < (s.length : Int) by omega) h)
    (first | refine wX ?_ | exact wZ)
    have hnq := next_quote xb t ob cap s hsq (by omega)
    refine callG hnq [4, 5, 0] rfl ⟨rfl, rfl, rfl, trivial⟩ rfl fun ⟨⟨b1, c1⟩, i1⟩ _ => ?_
    (first | refine wX ?_ | exact wZ)
    refine ⟨(1, some b1, c1, i1), ⟨by omega, fun h => by cases h⟩, Nat.le_of_ble_eq_true rfl, ?_, ⟨wkE_refl _, wkE_refl _, wkE_refl _, wkE_refl _, wkE_refl _, wkE_refl _, wkH_nil _⟩⟩
    (repeat' (first | exact trivial | refine And.intro (by with_reducible rfl) ?_ | (with_reducible exact wkC_refl _) | (with_reducible exact wkCs_refl _) | refine And.intro ?_ ?_))
    all_goals rfl
  · obtain ⟨g, rfl⟩ : ∃ g, ob = some g := by
      cases ob with
      | none => exact absurd (hob rfl) (by decide)
      | some g => exact ⟨g, rfl⟩
    (first | refine wX ?_ | exact wZ)
    refine LdN.one (a := some ⟨xb, 0, none⟩) (q := 1) (.int .i64 ((posN s 1 : Nat) : Int)) rfl (fun w hw => hw.2.1) rfl ?_
    (first | refine wX ?_ | exact wZ)
    refine LdN.one (a := some ⟨xb, 0, none⟩) (q := 0) (.string (bs s)) rfl (fun w hw => hw.2.1) rfl ?_
    (first | refine wX ?_ | exact wZ)
    rw [hz]
    refine brd_dec (fun h => absurd (show (s.length : Int) < (s.length : Int) from h) (by omega)) (fun _ => ?_)
    (first | refine wX ?_ | exact wZ)
    refine loopS Unit (fun _ => True) (fun _ => mkS Tryz.f23.ntmps 0 [(2, .c (.lp 1 0)), (3, .c (.lp 2 0)), (4, .c (.lp 3 0)), (5, .c (.v (.pointer (some ⟨xb, 0, none⟩))))]) (fun _ => 0) rfl (fun _ => rfl) () trivial ?_ ?_
    · (repeat' (first | exact trivial | refine And.intro (by with_reducible rfl) ?_ | (with_reducible exact wkC_refl _) | (with_reducible exact wkCs_refl _) | refine And.intro ?_ ?_))
      all_goals rfl
    intro _ _
    (first | refine wX ?_ | exact wZ)
    refine LdN.one (a := some ⟨xb, 0, none⟩) (q := 3) (.slice (some ⟨g, 0, none⟩) 1 cap) rfl (fun w hw => hw.2.1) rfl ?_
    (first | refine wX ?_ | exact wZ)
    (first | refine wX ?_ | exact wZ)
    refine LdN.one (a := some ⟨xb, 0, none⟩) (q := 3) (.slice (some ⟨g, 0, none⟩) 1 cap) rfl (fun w hw => hw.2.1) rfl ?_
    (first | refine wX ?_ | exact wZ)
    (first | refine wX ?_ | exact wZ)
    refine LdN.one (a := some ⟨xb, 0, none⟩) (q := 3) (.slice (some ⟨g, 0, none⟩) 1 cap) rfl (fun w hw => hw.2.1) rfl ?_
    (first | refine wX ?_ | exact wZ)
    rw [show IntKind.i64.wrap (((1 : Nat) : Int) - 1) = ((0 : Nat) : Int) by decide]
    refine Nd.mk ⟨rfl, by decide, by decide⟩ ?_
    (first | refine wX ?_ | exact wZ)
    refine LdN.fld (.int .i64 5) rfl (fun w hw => hw.2.2.1) (by rfl) ?_
    (first | refine wX ?_ | exact wZ)
    (first | refine wX ?_ | exact wZ)
    refine LdN.one (a := some ⟨xb, 0, none⟩) (q := 3) (.slice (some ⟨g, 0, none⟩) 1 cap) rfl (fun w hw => hw.2.1) rfl ?_
    (first | refine wX ?_ | exact wZ)
    refine fin_p (fun w => SlAt (some ⟨g, 0, none⟩) 5 (toksC [quT i]) w ∧ PaF i.1 [⟨false, t⟩] w) ⟨g, cap, i, rfl, fun w hw => hw⟩ (fun w hw => ⟨hw.2.2.1, hw.1.2⟩)
end Go.Proofs.YteejemdibfbccaaGreatDoor

/-
  Contract: strings.NewReplacer: a struct at a known address that holds the texts.
-/
namespace Go.Proofs.YteejemdibfbccaaGreatDoor
open Go.AX Go.RowKit
set_option maxRecDepth 20000

/-- The cells of a Replacer: the Once's word, its lock's state and sema, what replaces, the texts. -/
def replC (once st : Int) (r : Value) (a : Option Addr) (n cap : Nat) : List Value := [.int .u32 once, .int .i32 st, .int .u32 0, r, .slice a n cap]
theorem NewReplacer_c (b0 : Nat) (xs : List Value) (cap : Nat) (hl : xs.length ≤ 1000) (he : xs.length % 2 = 0) (h0 : xs ≠ []) (h1 : ∀ u ∈ xs, oneV u = true) : SpecH Tryz.prog 41 (pvs [.slice (some ⟨b0, 0, none⟩) xs.length cap]) [.fz 9 1 xs.length xs b0 cap]
    (RetG (fun _ : Nat × Nat × Nat => True) (fun i => .pointer (some ⟨i.1, 0, none⟩)) fun i => [.fz 9 1 xs.length xs b0 cap, .app 9 1 xs (some ⟨i.2.1, 0, none⟩) xs.length i.2.2, .app 87 5 (replC 0 0 .nilIface (some ⟨i.2.1, 0, none⟩) xs.length i.2.2) (some ⟨i.1, 0, none⟩) 1 1]) := by
  have hx : 1 ≤ xs.length := by
    cases xs with
    | nil => exact absurd rfl h0
    | cons _ _ => simp
  refine ownC hm Tryz.func41 (by kernel_rfl) rfl rfl (fun _ _ => ⟨trivial, trivial, trivial, trivial⟩) (fun _ _ => by simp) ?_
  (first | refine wX ?_ | exact wZ)
  refine brdF (by have : ((xs.length : Int).tmod 2) = 0 := by rw [Int.tmod_eq_emod_of_nonneg (by omega)]; omega
                  simp [this]) ?_
  (first | refine wX ?_ | exact wZ)
  refine brdF (by cases hq : Nat.beq xs.length 0 with
                  | false => rfl
                  | true => have := Nat.eq_of_beq_eq_true hq; omega) ?_
  refine Nd.mk rfl ?_
  refine ApN.intro xs (Nat.mul_one _).symm h1 (fun w hw j v hv => hw.1.sl.cell hv) ?_
  (conv => whnf)
  refine AppN.new xs ⟨rfl, rfl, rfl⟩ (plains_vs xs) ⟨hx, ⟨by show (0 + xs.length) * 16 ≤ _; omega, by omega⟩, by show 1 ≠ 0; omega⟩ fun c k hk hm => ?_
  (conv => whnf)
  refine BoxN.known _ rfl fun b => ?_
  (conv => whnf)
  exact ⟨(b, c, k), trivial, rfl, by (repeat' (first | exact trivial | exact wkE_refl _ | refine And.intro ?_ ?_))⟩
end Go.Proofs.YteejemdibfbccaaGreatDoor

/-
  Contract: (*strings.byteStringReplacer).Replace: each byte replaced by what the table holds.
-/
namespace Go.Proofs.YteejemdibfbccaaGreatDoor
open Go.AX Go.RowKit
set_option maxRecDepth 20000

/-- The table's cells. -/
structure Tbl where
  b : Nat
  cells : List Value
  ta : Option Addr
  tcap : Nat
/-- What a table says: the bytes that are replaced, each by its text. -/
structure TblOk (f : UInt8 → List UInt8) (olds : List UInt8) (d : Tbl) : Prop where
  len : d.cells.length = 257
  last : d.cells[256]? = some (.slice d.ta olds.length d.tcap)
  tas : d.ta.isSome = true
  cell : ∀ c : UInt8, (c ∉ olds ∧ f c = [c] ∧ d.cells[c.toNat]? = some (.slice none 0 0)) ∨ (c ∈ olds ∧ ∃ a cap, d.cells[c.toNat]? = some (.slice (some a) (f c).length cap))
  nodup : olds.Nodup
  small : ∀ c, 1 ≤ (f c).length ∧ (f c).length ≤ 6
  few : olds.length ≤ 16
def TblF (f : UInt8 → List UInt8) (olds : List UInt8) (d : Tbl) (w : World) : Prop :=
  SlAt (some ⟨d.b, 0, none⟩) 257 d.cells w ∧ SlAt d.ta olds.length (olds.map fun c => .string (bs [c])) w ∧ ∀ c : UInt8, ∀ a cap, d.cells[c.toNat]? = some (.slice (some a) (f c).length cap) → SlAt (some a) (f c).length (u8s (f c)) w
/-- What the replaced bytes add. -/
def gain (f : UInt8 → List UInt8) (s : List UInt8) : List UInt8 → Nat
  | [] => 0
  | c :: l => s.count c * ((f c).length - 1) + gain f s l
theorem gain_snoc (f : UInt8 → List UInt8) (s : List UInt8) (c : UInt8) : ∀ l, gain f s (l ++ [c]) = gain f s l + s.count c * ((f c).length - 1)
  | [] => by simp [gain]
  | x :: l => by simp only [List.cons_append, gain, gain_snoc f s c l]; omega
theorem gain_take (f : UInt8 → List UInt8) (s : List UInt8) : ∀ (i : Nat) (l : List UInt8), gain f s (l.take i) ≤ gain f s l
  | _, [] => by simp
  | 0, _ :: _ => by simp [gain]
  | i + 1, c :: l => by
    have := gain_take f s i l
    simp only [List.take_succ_cons, gain]
    omega
theorem gain_nil (f : UInt8 → List UInt8) : ∀ l, gain f [] l = 0
  | [] => rfl
  | _ :: l => by simp [gain, gain_nil f l]
theorem gain_cons (f : UInt8 → List UInt8) (a : UInt8) (s : List UInt8) : ∀ l : List UInt8, l.Nodup → gain f (a :: s) l = gain f s l + if a ∈ l then (f a).length - 1 else 0
  | [], _ => by simp [gain]
  | c :: l, h => by
    rw [List.nodup_cons] at h
    have ih := gain_cons f a s l h.2
    simp only [gain, ih, List.count_cons, List.mem_cons]
    by_cases hac : a = c
    · subst hac
      simp [h.1, Nat.add_mul]; omega
    · simp [hac]; omega
theorem gain_app (f : UInt8 → List UInt8) (s t : List UInt8) : ∀ l, gain f (s ++ t) l = gain f s l + gain f t l
  | [] => rfl
  | c :: l => by
    simp only [gain, gain_app f s t l, List.count_append, Nat.add_mul]
    omega
theorem gain_all {f : UInt8 → List UInt8} {olds : List UInt8} {d : Tbl} (hd : TblOk f olds d) : ∀ s, (s.flatMap f).length = s.length + gain f s olds
  | [] => by simp [gain_nil]
  | a :: s => by
    have h1 := (hd.small a).1
    rw [List.flatMap_cons, List.length_append, gain_all hd s, gain_cons f a s olds hd.nodup, List.length_cons]
    rcases hd.cell a with ⟨h2, h3, _⟩ | ⟨h2, _⟩
    · simp [h2, h3]; omega
    · simp [h2]; omega
theorem flat_none {f : UInt8 → List UInt8} {olds : List UInt8} {d : Tbl} (hd : TblOk f olds d) : ∀ s : List UInt8, (s.any fun c => decide (c ∈ olds)) = false → s.flatMap f = s
  | [], _ => rfl
  | a :: s, h => by
    simp only [List.any_cons, Bool.or_eq_false_iff, decide_eq_false_iff_not] at h
    rcases hd.cell a with ⟨_, h3, _⟩ | ⟨h2, _⟩
    · rw [List.flatMap_cons, flat_none hd s h.2, h3]; rfl
    · exact absurd h2 h.1
theorem any_count (s : List UInt8) (l : List UInt8) : (l.any fun c => s.count c != 0) = s.any fun c => decide (c ∈ l) := by
  rw [Bool.eq_iff_iff]
  simp only [List.any_eq_true, decide_eq_true_eq, bne_iff_ne]
  constructor
  · rintro ⟨c, h1, h2⟩
    exact ⟨c, List.count_pos_iff.1 (by omega), h1⟩
  · rintro ⟨c, h1, h2⟩
    exact ⟨c, h2, by have := List.count_pos_iff.2 h1; omega⟩
theorem flat_short {f : UInt8 → List UInt8} {olds : List UInt8} {d : Tbl} (hd : TblOk f olds d) (s : List UInt8) : (s.flatMap f).length ≤ 6 * s.length := by
  induction s with
  | nil => simp
  | cons a s ih =>
    have := (hd.small a).2
    rw [List.flatMap_cons, List.length_append, List.length_cons]
    omega
theorem put_buf (P q : List UInt8) (N : Nat) (_ : P.length + q.length ≤ N) : (u8s P ++ List.replicate (N - P.length) (Value.int .u8 0)).take P.length ++ u8s q ++ (u8s P ++ List.replicate (N - P.length) (Value.int .u8 0)).drop (P.length + q.length) = u8s (P ++ q) ++ List.replicate (N - (P ++ q).length) (Value.int .u8 0) := by
  have e : (u8s P).length = P.length := u8s_len P
  rw [List.take_append_of_le_length (by omega), List.take_of_length_le (by omega), List.drop_append, e, List.drop_of_length_le (by omega), List.nil_append, List.drop_replicate, List.length_append]
  rw [show P.length + q.length - P.length = q.length by omega, show N - P.length - q.length = N - (P.length + q.length) by omega]
  simp [u8s]
theorem bsr_c (f : UInt8 → List UInt8) (olds : List UInt8) (d : Tbl) (hd : TblOk f olds d) (s : List UInt8) (hs : s.length ≤ 1000000) : ∀ H, (∀ w, Facts H w → TblF f olds d w) →
    SpecH Tryz.prog 205 (pvs [.pointer (some ⟨d.b, 0, none⟩), .string (bs s)]) H (Ret (.string (bs (s.flatMap f))) H) := by
  refine factC hm Tryz.func205 (by kernel_rfl) rfl rfl ?_
  (first | refine wX ?_ | exact wZ)
  refine LdN.one (a := some ⟨d.b, 0, none⟩) (q := 256) (.slice d.ta olds.length d.tcap) rfl (fun w hw => hw.1.1) hd.last ?_
  have hfew := hd.few
  have hz := bs_size s
  have hall := gain_all hd s
  have hsh := flat_short hd s
  (first | refine wX ?_ | exact wZ)
  rw [hz]
  refine brd_dec (fun h1 => ?_) (fun h1 => ?_)
  · (first | refine wX ?_ | exact wZ)
    refine LdN.one (a := some ⟨d.b, 0, none⟩) (q := 256) (.slice d.ta olds.length d.tcap) rfl (fun w hw => hw.1.1) hd.last ?_
    (first | refine wX ?_ | exact wZ)
    refine loopS Nat (fun i => i ≤ olds.length) (fun i => mkS Tryz.f205.ntmps 0 [(0, .c (.v (.pointer (some ⟨d.b, 0, none⟩)))), (1, .c (.v (.string (bs s)))), (5, .c (.v (.int .i64 ((s.length + gain f s (olds.take i) : Nat) : Int)))), (6, .c (.v (.bool ((olds.take i).any fun c => s.count c != 0)))), (30, .c (.v (.slice d.ta olds.length d.tcap))), (31, .c (.v (.int .i64 (olds.length : Int)))), (32, .c (.v (.int .i64 (i : Int))))]) (fun i => olds.length - i) rfl (fun _ => rfl) 0 (Nat.zero_le _) ?_ fun i hi => ?_
    · (repeat' (first | exact trivial | refine And.intro (by with_reducible rfl) ?_ | (with_reducible exact wkC_refl _) | (with_reducible exact wkCs_refl _) | refine And.intro ?_ ?_))
      all_goals first | rfl | (refine av_int ?_; simp [gain]; done)
    (first | refine wX ?_ | exact wZ)
    refine brd_dec (fun h2 => ?_) (fun h2 => ?_)
    · obtain ⟨c, hc⟩ : ∃ c, olds[i]? = some c := ⟨_, List.getElem?_eq_getElem (by omega)⟩
      have hin : c ∈ olds := List.mem_of_getElem? hc
      have hg := gain_snoc f s c (olds.take i)
      rw [← take_snoc hc] at hg
      (first | refine wX ?_ | exact wZ)
      refine Nd.mk ⟨hd.tas, by omega, by omega⟩ ?_
      (first | refine wX ?_ | exact wZ)
      refine LdN.one (.string (bs [c])) rfl (fun w hw => hw.1.2.1) (show (olds.map fun c => Value.string (bs [c]))[i * 1]? = _ by rw [Nat.mul_one]; simp [hc]) ?_
      ((first | refine wX ?_ | exact wZ); first | refine call1 (Count1_c s c _) ?_ | refine callQ (Count1_c s c _) ?_)
      (first | refine wX ?_ | exact wZ)
      have hL := hd.small c
      have hcs := List.count_le_length (a := c) (l := s)
      have hany : ((olds.take (i + 1)).any fun c => s.count c != 0) = ((olds.take i).any (fun c => s.count c != 0) || s.count c != 0) := by rw [take_snoc hc, List.any_append]; simp
      have hgb := gain_take f s i olds
      refine brd_ne (fun h3 => ?_) (fun h3 => ?_)
      · obtain ⟨a, cap, ha⟩ : ∃ a cap, d.cells[c.toNat]? = some (.slice (some a) (f c).length cap) := by
          rcases hd.cell c with h | h
          · exact absurd hin h.1
          · exact h.2
        generalize (f c).length = L at *
        (first | refine wX ?_ | exact wZ)
        refine Nd.mk ⟨by omega, by rw [bs_size]; simp⟩ ?_
        have hb0 : byteAt (bs [c]) (Int.toNat 0) = (c.toNat : Int) := byteAt_get rfl
        have hc256 := c.toNat_lt
        (conv => whnf)
        rw [hb0]
        refine Nd.mk ⟨by omega, by omega⟩ ?_
        (first | refine wX ?_ | exact wZ)
        refine LdN.fld (a := some ⟨d.b, 0, none⟩) (q := 0) (.slice (some a) L cap) rfl (fun w hw => hw.1.1) (show d.cells[0 + c.toNat * 1]? = _ by simpa using ha) ?_
        (conv => whnf)
        refine VrN.norm (m := ((s.length + gain f s (olds.take (i + 1)) : Nat) : Int)) (by
          have h6 : L = 1 ∨ L = 2 ∨ L = 3 ∨ L = 4 ∨ L = 5 ∨ L = 6 := by omega
          rw [hg]
          rcases h6 with rfl | rfl | rfl | rfl | rfl | rfl <;> (simp (disch := omega) only [wrap_i64]; omega)) ?_
        (first | refine wX ?_ | exact wZ)
        refine ⟨i + 1, by omega, by omega, ?_, by (repeat' (first | exact trivial | exact wkE_refl _ | refine And.intro ?_ ?_))⟩
        (repeat' (first | exact trivial | refine And.intro (by with_reducible rfl) ?_ | (with_reducible exact wkC_refl _) | (with_reducible exact wkCs_refl _) | refine And.intro ?_ ?_))
        · refine av_bool ?_
          rw [hany]
          have : (s.count c != 0) = true := by simp; omega
          rw [this, Bool.or_true]
        · exact av_int (by rw [wrap_i64 (by omega)]; omega)
      · (first | refine wX ?_ | exact wZ)
        refine ⟨i + 1, by omega, by omega, ?_, by (repeat' (first | exact trivial | exact wkE_refl _ | refine And.intro ?_ ?_))⟩
        have h0 : s.count c = 0 := by omega
        (repeat' (first | exact trivial | refine And.intro (by with_reducible rfl) ?_ | (with_reducible exact wkC_refl _) | (with_reducible exact wkCs_refl _) | refine And.intro ?_ ?_))
        · refine av_int ?_
          rw [hg, h0]
          simp
        · refine av_bool ?_
          rw [hany, h0]
          simp
        · exact av_int (by rw [wrap_i64 (by omega)]; omega)
    · have hil : i = olds.length := by omega
      subst hil
      rw [List.take_length, any_count, ← hall]
      cases hA : s.any fun c => decide (c ∈ olds) with
      | false =>
        rw [flat_none hd s hA] at *
        (first | refine wX ?_ | exact wZ)
      | true =>
        generalize hN : (s.flatMap f).length = N at *
        (first | refine wX ?_ | exact wZ)
        refine EffW.mkBytes N rfl Tryz.underlying108 (by kernel_rfl) rfl rfl (by omega) fun b => ?_
        (first | refine wX ?_ | exact wZ)
        refine LoopN.intro Nat (fun i => i ≤ s.length) (fun i => mkS Tryz.f205.ntmps 0 [(0, .c (.v (.pointer (some ⟨d.b, 0, none⟩)))), (1, .c (.v (.string (bs s)))), (12, .c (.v (.slice (some ⟨b, 0, none⟩) N N))), (13, .c (.v (.int .i64 (((s.take i).flatMap f).length : Int)))), (14, .c (.v (.int .i64 (i : Int))))])
          (fun i => [.fact (TblF f olds d), .app 5 1 (u8s ((s.take i).flatMap f) ++ List.replicate (N - ((s.take i).flatMap f).length) (.int .u8 0)) (some ⟨b, 0, none⟩) N N]) (fun i => s.length - i) [] rfl
          (fun _ => rfl) (fun _ => rfl) (fun _ _ => okHB_eq rfl) ⟨0, Nat.zero_le _, ?_, wkH_of_eq (by simp [u8s])⟩ ?_
        · (repeat' (first | exact trivial | refine And.intro (by with_reducible rfl) ?_ | (with_reducible exact wkC_refl _) | (with_reducible exact wkCs_refl _) | refine And.intro ?_ ?_))
          all_goals rfl
        intro i hi
        (first | refine wX ?_ | exact wZ)
        rw [hz]
        refine brd_dec (fun h2 => ?_) (fun h2 => ?_)
        · obtain ⟨c, hc⟩ : ∃ c, s[i]? = some c := ⟨_, List.getElem?_eq_getElem (by omega)⟩
          have hb : byteAt (bs s) (Int.toNat (i : Int)) = (c.toNat : Int) := by rw [Int.toNat_natCast]; exact byteAt_get hc
          have hc256 := c.toNat_lt
          have hnext : (s.take (i + 1)).flatMap f = (s.take i).flatMap f ++ f c := by rw [take_snoc hc, List.flatMap_append]; simp
          have hle : ((s.take (i + 1)).flatMap f).length ≤ N := by
            rw [← hN]
            conv => rhs; rw [← List.take_append_drop (i + 1) s, List.flatMap_append, List.length_append]
            omega
          rw [hnext, List.length_append] at hle
          have hL := hd.small c
          generalize (s.take i).flatMap f = P at *
          (first | refine wX ?_ | exact wZ)
          rw [hb]
          rcases hd.cell c with ⟨_, hfc, ha⟩ | ⟨_, a, cap, ha⟩
          · refine LdN.fld (a := some ⟨d.b, 0, none⟩) (q := 0) (.slice none 0 0) rfl (fun w hw => hw.1.1) (show d.cells[0 + c.toNat * 1]? = _ by simpa using ha) ?_
            (first | refine wX ?_ | exact wZ)
            refine Nd.mk ⟨rfl, by omega, by rw [hfc] at hle; simp at hle; omega⟩ ?_
            (first | refine wX ?_ | exact wZ)
            refine EffW.app (i := 1) (q := P.length) (ys := [.int .u8 (c.toNat : Int)]) rfl (by rw [Int.toNat_natCast]; show AV.c (CV.v (Value.pointer (some ((⟨b, 0, none⟩ : Addr).add (P.length * 1))))) = _; rw [add_lit0, Nat.mul_one]) rfl rfl rfl rfl rfl (by rw [hfc] at hle; simp at hle ⊢; omega) ?_
            (first | refine wX ?_ | exact wZ)
            refine ⟨i + 1, by omega, by omega, ?_, ⟨wkE_refl _, ?_, wkH_nil _⟩⟩
            · (repeat' (first | exact trivial | refine And.intro (by with_reducible rfl) ?_ | (with_reducible exact wkC_refl _) | (with_reducible exact wkCs_refl _) | refine And.intro ?_ ?_))
              · refine av_int ?_
                rw [hnext, hfc]
                simp
              · exact av_int (by omega)
            · rw [hnext, hfc]
              have e := put_buf P [c] N (by rw [hfc] at hle; exact hle)
              refine .inl ⟨rfl, rfl, ?_, rfl, rfl, rfl⟩
              exact e
          · refine LdN.fld (a := some ⟨d.b, 0, none⟩) (q := 0) (.slice (some a) (f c).length cap) rfl (fun w hw => hw.1.1) (show d.cells[0 + c.toNat * 1]? = _ by simpa using ha) ?_
            (first | refine wX ?_ | exact wZ)
            refine DrawN.plan [0, 1, 2, 4, 5] [(3, 1), (6, 1), (7, 1), (8, 1), (9, 1)] [(10, 0), (11, 0), (12, 0)] (by decide +kernel) ?_
            (first | refine wX ?_ | exact wZ)
            refine ReadW.slc_l P.length rfl Tryz.underlying108 (by kernel_rfl) rfl rfl ⟨rfl, by omega, by omega, by omega⟩ ?_
            (first | refine wX ?_ | exact wZ)
            refine LdN.fld (a := some ⟨d.b, 0, none⟩) (q := 0) (.slice (some a) (f c).length cap) rfl (fun w hw => hw.1.1) (show d.cells[0 + c.toNat * 1]? = _ by simpa using ha) ?_
            (first | refine wX ?_ | exact wZ)
            refine EffW.copyIn 1 rfl rfl rfl Tryz.underlying108 (by kernel_rfl) rfl rfl rfl (fun w hw => hw.1.2.2 c a cap ha) (by simp [u8s, Value.oneCell']) (by omega) (by omega) ?_
            (first | refine wX ?_ | exact wZ)
            refine ⟨i + 1, by omega, by omega, ?_, ⟨wkE_refl _, ?_, wkH_nil _⟩⟩
            · (repeat' (first | exact trivial | refine And.intro (by with_reducible rfl) ?_ | (with_reducible exact wkC_refl _) | (with_reducible exact wkCs_refl _) | refine And.intro ?_ ?_))
              · refine av_int ?_
                rw [hnext]
                simp
              · exact av_int (by omega)
            · rw [hnext]
              exact .inl ⟨rfl, rfl, put_buf P (f c) N hle, rfl, rfl, rfl⟩
        · have hil : i = s.length := by omega
          subst hil
          rw [List.take_length, hN, Nat.sub_self, List.replicate_zero, List.append_nil]
          (first | refine wX ?_ | exact wZ)
          refine ReadW.bytes (s.flatMap f) hN rfl Tryz.underlying108 Tryz.underlying5 Tryz.underlying9 rfl (fun w hw => by have := hw.2.1; rwa [Nat.mul_one] at this) ?_
          (first | refine wX ?_ | exact wZ)
          rfl
  · (first | refine wX ?_ | exact wZ)
    refine loopS Nat (fun i => i ≤ s.length) (fun i => mkS Tryz.f205.ntmps 0 [(0, .c (.v (.pointer (some ⟨d.b, 0, none⟩)))), (1, .c (.v (.string (bs s)))), (5, .c (.v (.int .i64 ((s.length + gain f (s.take i) olds : Nat) : Int)))), (6, .c (.v (.bool ((s.take i).any fun c => decide (c ∈ olds))))), (10, .c (.v (.int .i64 (i : Int))))]) (fun i => s.length - i) rfl (fun _ => rfl) 0 (Nat.zero_le _) ?_ fun i hi => ?_
    · (repeat' (first | exact trivial | refine And.intro (by with_reducible rfl) ?_ | (with_reducible exact wkC_refl _) | (with_reducible exact wkCs_refl _) | refine And.intro ?_ ?_))
      all_goals first | rfl | (refine av_int ?_; simp [gain_nil]; done)
    (first | refine wX ?_ | exact wZ)
    rw [hz]
    refine brd_dec (fun h2 => ?_) (fun h2 => ?_)
    · obtain ⟨c, hc⟩ : ∃ c, s[i]? = some c := ⟨_, List.getElem?_eq_getElem (by omega)⟩
      have hb : byteAt (bs s) (Int.toNat (i : Int)) = (c.toNat : Int) := by rw [Int.toNat_natCast]; exact byteAt_get hc
      have hc256 := c.toNat_lt
      have hg : gain f (s.take (i + 1)) olds = gain f (s.take i) olds + if c ∈ olds then (f c).length - 1 else 0 := by
        rw [take_snoc hc, gain_app f _ _ olds, gain_cons f c [] olds hd.nodup, gain_nil]
        omega
      have hany : ((s.take (i + 1)).any fun c => decide (c ∈ olds)) = ((s.take i).any (fun c => decide (c ∈ olds)) || decide (c ∈ olds)) := by rw [take_snoc hc, List.any_append]; simp
      have hL := hd.small c
      have hgb := gain_all hd (s.take i)
      have hgs := flat_short hd (s.take i)
      have hti : (s.take i).length ≤ s.length := by simp; omega
      (first | refine wX ?_ | exact wZ)
      rw [hb]
      rcases hd.cell c with ⟨hin, hfc, ha⟩ | ⟨hin, a, cap, ha⟩
      · refine LdN.fld (a := some ⟨d.b, 0, none⟩) (q := 0) (.slice none 0 0) rfl (fun w hw => hw.1.1) (show d.cells[0 + c.toNat * 1]? = _ by simpa using ha) ?_
        (first | refine wX ?_ | exact wZ)
        refine ⟨i + 1, by omega, by omega, ?_, by (repeat' (first | exact trivial | exact wkE_refl _ | refine And.intro ?_ ?_))⟩
        (repeat' (first | exact trivial | refine And.intro (by with_reducible rfl) ?_ | (with_reducible exact wkC_refl _) | (with_reducible exact wkCs_refl _) | refine And.intro ?_ ?_))
        · refine av_int ?_
          rw [hg]
          simp [hin]
        · refine av_bool ?_
          rw [hany]
          simp [hin]
        · exact av_int (by omega)
      · rw [if_pos hin] at hg
        refine LdN.fld (a := some ⟨d.b, 0, none⟩) (q := 0) (.slice (some a) (f c).length cap) rfl (fun w hw => hw.1.1) (show d.cells[0 + c.toNat * 1]? = _ by simpa using ha) ?_
        (first | refine wX ?_ | exact wZ)
        refine LdN.fld (a := some ⟨d.b, 0, none⟩) (q := 0) (.slice (some a) (f c).length cap) rfl (fun w hw => hw.1.1) (show d.cells[0 + c.toNat * 1]? = _ by simpa using ha) ?_
        (conv => whnf)
        refine VrN.norm (m := ((s.length + gain f (s.take (i + 1)) olds : Nat) : Int)) (by
          rw [hg, wrap_i64 (x := ((f c).length : Int) - 1) (by omega), wrap_i64 (by omega)]
          omega) ?_
        (first | refine wX ?_ | exact wZ)
        refine ⟨i + 1, by omega, by omega, ?_, by (repeat' (first | exact trivial | exact wkE_refl _ | refine And.intro ?_ ?_))⟩
        (repeat' (first | exact trivial | refine And.intro (by with_reducible rfl) ?_ | (with_reducible exact wkC_refl _) | (with_reducible exact wkCs_refl _) | refine And.intro ?_ ?_))
        · refine av_bool ?_
          rw [hany]
          simp [hin]
        · exact av_int (by omega)
    · have hil : i = s.length := by omega
      subst hil
      rw [List.take_length, ← hall]
      cases hA : s.any fun c => decide (c ∈ olds) with
      | false =>
        rw [flat_none hd s hA] at *
        (first | refine wX ?_ | exact wZ)
      | true =>
        generalize hN : (s.flatMap f).length = N at *
        (first | refine wX ?_ | exact wZ)
        refine EffW.mkBytes N rfl Tryz.underlying108 (by kernel_rfl) rfl rfl (by omega) fun b => ?_
        (first | refine wX ?_ | exact wZ)
        refine LoopN.intro Nat (fun i => i ≤ s.length) (fun i => mkS Tryz.f205.ntmps 0 [(0, .c (.v (.pointer (some ⟨d.b, 0, none⟩)))), (1, .c (.v (.string (bs s)))), (12, .c (.v (.slice (some ⟨b, 0, none⟩) N N))), (13, .c (.v (.int .i64 (((s.take i).flatMap f).length : Int)))), (14, .c (.v (.int .i64 (i : Int))))])
          (fun i => [.fact (TblF f olds d), .app 5 1 (u8s ((s.take i).flatMap f) ++ List.replicate (N - ((s.take i).flatMap f).length) (.int .u8 0)) (some ⟨b, 0, none⟩) N N]) (fun i => s.length - i) [] rfl
          (fun _ => rfl) (fun _ => rfl) (fun _ _ => okHB_eq rfl) ⟨0, Nat.zero_le _, ?_, wkH_of_eq (by simp [u8s])⟩ ?_
        · (repeat' (first | exact trivial | refine And.intro (by with_reducible rfl) ?_ | (with_reducible exact wkC_refl _) | (with_reducible exact wkCs_refl _) | refine And.intro ?_ ?_))
          all_goals rfl
        intro i hi
        (first | refine wX ?_ | exact wZ)
        rw [hz]
        refine brd_dec (fun h2 => ?_) (fun h2 => ?_)
        · obtain ⟨c, hc⟩ : ∃ c, s[i]? = some c := ⟨_, List.getElem?_eq_getElem (by omega)⟩
          have hb : byteAt (bs s) (Int.toNat (i : Int)) = (c.toNat : Int) := by rw [Int.toNat_natCast]; exact byteAt_get hc
          have hc256 := c.toNat_lt
          have hnext : (s.take (i + 1)).flatMap f = (s.take i).flatMap f ++ f c := by rw [take_snoc hc, List.flatMap_append]; simp
          have hle : ((s.take (i + 1)).flatMap f).length ≤ N := by
            rw [← hN]
            conv => rhs; rw [← List.take_append_drop (i + 1) s, List.flatMap_append, List.length_append]
            omega
          rw [hnext, List.length_append] at hle
          have hL := hd.small c
          generalize (s.take i).flatMap f = P at *
          (first | refine wX ?_ | exact wZ)
          rw [hb]
          rcases hd.cell c with ⟨_, hfc, ha⟩ | ⟨_, a, cap, ha⟩
          · refine LdN.fld (a := some ⟨d.b, 0, none⟩) (q := 0) (.slice none 0 0) rfl (fun w hw => hw.1.1) (show d.cells[0 + c.toNat * 1]? = _ by simpa using ha) ?_
            (first | refine wX ?_ | exact wZ)
            refine Nd.mk ⟨rfl, by omega, by rw [hfc] at hle; simp at hle; omega⟩ ?_
            (first | refine wX ?_ | exact wZ)
            refine EffW.app (i := 1) (q := P.length) (ys := [.int .u8 (c.toNat : Int)]) rfl (by rw [Int.toNat_natCast]; show AV.c (CV.v (Value.pointer (some ((⟨b, 0, none⟩ : Addr).add (P.length * 1))))) = _; rw [add_lit0, Nat.mul_one]) rfl rfl rfl rfl rfl (by rw [hfc] at hle; simp at hle ⊢; omega) ?_
            (first | refine wX ?_ | exact wZ)
            refine ⟨i + 1, by omega, by omega, ?_, ⟨wkE_refl _, ?_, wkH_nil _⟩⟩
            · (repeat' (first | exact trivial | refine And.intro (by with_reducible rfl) ?_ | (with_reducible exact wkC_refl _) | (with_reducible exact wkCs_refl _) | refine And.intro ?_ ?_))
              · refine av_int ?_
                rw [hnext, hfc]
                simp
              · exact av_int (by omega)
            · rw [hnext, hfc]
              have e := put_buf P [c] N (by rw [hfc] at hle; exact hle)
              refine .inl ⟨rfl, rfl, ?_, rfl, rfl, rfl⟩
              exact e
          · refine LdN.fld (a := some ⟨d.b, 0, none⟩) (q := 0) (.slice (some a) (f c).length cap) rfl (fun w hw => hw.1.1) (show d.cells[0 + c.toNat * 1]? = _ by simpa using ha) ?_
            (first | refine wX ?_ | exact wZ)
            refine DrawN.plan [0, 1, 2, 4, 5] [(3, 1), (6, 1), (7, 1), (8, 1), (9, 1)] [(10, 0), (11, 0), (12, 0)] (by decide +kernel) ?_
            (first | refine wX ?_ | exact wZ)
            refine ReadW.slc_l P.length rfl Tryz.underlying108 (by kernel_rfl) rfl rfl ⟨rfl, by omega, by omega, by omega⟩ ?_
            (first | refine wX ?_ | exact wZ)
            refine LdN.fld (a := some ⟨d.b, 0, none⟩) (q := 0) (.slice (some a) (f c).length cap) rfl (fun w hw => hw.1.1) (show d.cells[0 + c.toNat * 1]? = _ by simpa using ha) ?_
            (first | refine wX ?_ | exact wZ)
            refine EffW.copyIn 1 rfl rfl rfl Tryz.underlying108 (by kernel_rfl) rfl rfl rfl (fun w hw => hw.1.2.2 c a cap ha) (by simp [u8s, Value.oneCell']) (by omega) (by omega) ?_
            (first | refine wX ?_ | exact wZ)
            refine ⟨i + 1, by omega, by omega, ?_, ⟨wkE_refl _, ?_, wkH_nil _⟩⟩
            · (repeat' (first | exact trivial | refine And.intro (by with_reducible rfl) ?_ | (with_reducible exact wkC_refl _) | (with_reducible exact wkCs_refl _) | refine And.intro ?_ ?_))
              · refine av_int ?_
                rw [hnext]
                simp
              · exact av_int (by omega)
            · rw [hnext]
              exact .inl ⟨rfl, rfl, put_buf P (f c) N hle, rfl, rfl, rfl⟩
        · have hil : i = s.length := by omega
          subst hil
          rw [List.take_length, hN, Nat.sub_self, List.replicate_zero, List.append_nil]
          (first | refine wX ?_ | exact wZ)
          refine ReadW.bytes (s.flatMap f) hN rfl Tryz.underlying108 Tryz.underlying5 Tryz.underlying9 rfl (fun w hw => by have := hw.2.1; rwa [Nat.mul_one] at this) ?_
          (first | refine wX ?_ | exact wZ)
          rfl
end Go.Proofs.YteejemdibfbccaaGreatDoor

/-
  sync.Once, one goroutine: the parts of its slow road, after the kit's worked LazyParts.
-/
namespace Go.Proofs.YteejemdibfbccaaGreatDoor
set_option maxRecDepth 100000
set_option maxHeartbeats 1600000

theorem disable (w : World) : (callFunc 152 #[]).run Tryz.prog w = .ok (.value (.tuple #[])) w := run_call_mark0 Tryz.func152 (by kernel_rfl) (by kernel_rfl) (by kernel_rfl) .disable (by kernel_rfl) w
theorem enable (w : World) : (callFunc 154 #[]).run Tryz.prog w = .ok (.value (.tuple #[])) w := run_call_mark0 Tryz.func154 (by kernel_rfl) (by kernel_rfl) (by kernel_rfl) .enable (by kernel_rfl) w
theorem acquire (a : Addr) (w : World) : (callFunc 155 #[.pointer (some a)]).run Tryz.prog w = .ok (.value (.tuple #[])) w := run_call_marked Tryz.func155 (by kernel_rfl) (by kernel_rfl) (by kernel_rfl) .acquire (by kernel_rfl) a w
theorem releaseMerge (a : Addr) (w : World) : (callFunc 157 #[.pointer (some a)]).run Tryz.prog w = .ok (.value (.tuple #[])) w := run_call_marked Tryz.func157 (by kernel_rfl) (by kernel_rfl) (by kernel_rfl) .releaseMerge (by kernel_rfl) a w

/-- '(*sync/atomic.Bool).Store(true)', entered as a deferred call: the cell holds 1. -/
theorem store_deferred (a : Addr) (x : Value) (u : FrameMode) (w : World) (hc : w.cell? a = some x) (hz : w.frozen? a = false) :
    CallsD Tryz.prog 113 #[.pointer (some a), .bool true] u w fun e u' w' => u' = u ∧ (e = .returned (.tuple #[]) ∧ w' = w.drew.setCell a (.int .u32 1)) := by
  have hc' : w.drew.cell? a = some x := by go_simp
  have hz' : w.drew.frozen? a = false := by go_simp
  have hst := run_call_store (P := Tryz.prog) Tryz.func135 (by kernel_rfl) (by kernel_rfl) (by kernel_rfl) (by kernel_rfl) (k := .u32) (y := 1) hc' hz'
  go_enter_d Tryz.func113, Tryz.ntmps113
  go_wp2
  go_region_calls
  all_goals (go_end0; exact ⟨rfl, rfl⟩)

/-- '(*sync.Mutex).Unlock', entered as a deferred call, the lock held and nobody waiting (state 1): state 0. -/
theorem unlock_deferred (a : Addr) (u : FrameMode) (w : World) (hc : w.cell? a = some (.int .i32 1)) (hz : w.frozen? a = false) :
    CallsD Tryz.prog 112 #[.pointer (some a)] u w fun e u' w' => u' = u ∧ (e = .returned (.tuple #[]) ∧ w' = w.setCell a (.int .i32 0)) := by
  have hd := disable
  have he := enable
  have hr := releaseMerge
  have hadd := run_call_add (P := Tryz.prog) Tryz.func158 (by kernel_rfl) (by kernel_rfl) (by kernel_rfl) .i32 (by kernel_rfl) (y := -1) (s := 0) hc hz (by simp [go_sem]; rfl)
  have hcv := run_convert_to_unsafe (P := Tryz.prog) (src := 189) (dst := 193) Tryz.underlying189 Tryz.underlying193 (by kernel_rfl) hc
  go_enter_d Tryz.func112, Tryz.ntmps112
  go_wp2
  go_end0
  go_wp2
  go_end0
  exact ⟨rfl, rfl⟩

/-- '(*sync.Mutex).Lock', the lock free (state 0): state 1. -/
theorem lock_free (a : Addr) (w : World) (hc : w.cell? a = some (.int .i32 0)) (hz : w.frozen? a = false) :
    Calls Tryz.prog 111 #[.pointer (some a)] w fun e w' => e = .returned (.tuple #[]) ∧ w' = w.setCell a (.int .i32 1) := by
  have hd := disable
  have he := enable
  have ha := acquire
  have hcas := run_call_cas_hit (P := Tryz.prog) Tryz.func153 (by kernel_rfl) (by kernel_rfl) (by kernel_rfl) .i32 (by kernel_rfl) (y := 1) hc hz
  have hc' : (w.setCell a (.int .i32 1)).cell? a = some (.int .i32 1) := World.cell?_setCell_same w a _ hc
  have hcv := run_convert_to_unsafe (P := Tryz.prog) (src := 189) (dst := 193) Tryz.underlying189 Tryz.underlying193 (by kernel_rfl) hc'
  go_enter Tryz.func111, Tryz.ntmps111
  go_wp2
  first | go_end0 | (simp only [Exit.inBlock, Exit.then]; refine bodyPost_ret (results_none rfl _ _ _) rfl ?_) | refine bodyPost_ret (results_none rfl _ _ _) rfl ?_
  go_wp2
  go_end0
  exact ⟨rfl, rfl⟩
end Go.Proofs.YteejemdibfbccaaGreatDoor

/-
  sync.Once, one goroutine: Do, not yet done and its lock free, of a function by its contract; Do, done already.
-/
namespace Go.Proofs.YteejemdibfbccaaGreatDoor
set_option maxRecDepth 100000
set_option maxHeartbeats 3200000

theorem slow_do (b off : Nat) (p : Value) (Q : World → Prop) (w : World)
    (h0 : w.cell? ⟨b, off, none⟩ = some (.int .u32 0)) (h1 : w.cell? ⟨b, off + 1, none⟩ = some (.int .i32 0))
    (f1 : w.frozen? ⟨b, off + 1, none⟩ = false)
    (hf : Calls Tryz.prog 58 #[p] (w.setCell ⟨b, off + 1, none⟩ (.int .i32 1)) fun e w2 => e = .returned (.tuple #[]) ∧ Q w2)
    (hQ : ∀ w2, Q w2 → (∃ x, w2.cell? ⟨b, off, none⟩ = some x) ∧ w2.cell? ⟨b, off + 1, none⟩ = some (.int .i32 1) ∧ w2.frozen? ⟨b, off, none⟩ = false ∧ w2.frozen? ⟨b, off + 1, none⟩ = false) :
    Calls Tryz.prog 84 #[.pointer (some ⟨b, off, none⟩), .func (.func 58) #[p] #[]] w fun e w' => e = .returned (.tuple #[]) ∧
      ∃ w2, Q w2 ∧ w' = (w2.drew.setCell ⟨b, off, none⟩ (.int .u32 1)).setCell ⟨b, off + 1, none⟩ (.int .i32 0) := by
  have hl := run_call_load (P := Tryz.prog) Tryz.func110 (by kernel_rfl) (by kernel_rfl) (by kernel_rfl) .u32 (by kernel_rfl) (w := w.setCell ⟨b, off + 1, none⟩ (.int .i32 1)) (a := ⟨b, off, none⟩) (x := 0) ((World.cell?_setCell_other _ ⟨b, off + 1, none⟩ ⟨b, off, none⟩ _ (by simp)).trans h0)
  have hnot : ∀ (x : Bool) (w : World), (Op.unary .not (.bool x)).run Tryz.prog w = .ok (.bool (!x)) w := fun _ _ => rfl
  go_enter_defers Tryz.func84, Tryz.ntmps84
  go_wp2_with (go_at_call 111; refine (lock_free ⟨b, off + 1, none⟩ _ (by go_simp) (by go_simp)).mono ?_; rintro e w' ⟨rfl, rfl⟩)
  go_wp2_with (first | (go_at_call 58; refine hf.mono ?_; rintro e w2 ⟨rfl, hq⟩) | (go_at_call 83; go_in))
  obtain ⟨⟨x, hx⟩, hm, z0, z1⟩ := hQ w2 hq
  go_wp2
  refine leaves_cons (f := 113) (args := #[.pointer (some ⟨b, off, none⟩), .bool true]) (by simp) (by simp [go_sem]) ?_
  refine (store_deferred ⟨b, off, none⟩ x .returning _ hx z0).mono ?_
  rintro e u' w'' ⟨rfl, rfl, rfl⟩
  refine leaves_cons (f := 112) (args := #[.pointer (some ⟨b, off + 1, none⟩)]) (by simp [settle]) (by simp [go_sem]) ?_
  refine (unlock_deferred ⟨b, off + 1, none⟩ _ _ ?_ (by simp [z1])).mono ?_
  · refine (World.cell?_setCell_other _ ⟨b, off, none⟩ ⟨b, off + 1, none⟩ _ (by simp)).trans ?_
    rw [World.cell?_drew]
    exact hm
  rintro e u' w'' ⟨rfl, rfl, rfl⟩
  simp [Leaves, settle, results, Tryz.results84]
  exact ⟨w2, hq, rfl⟩
/-- Not yet done, the lock free. -/
theorem do_first (b off : Nat) (p : Value) (Q : World → Prop) (w : World)
    (h0 : w.cell? ⟨b, off, none⟩ = some (.int .u32 0)) (h1 : w.cell? ⟨b, off + 1, none⟩ = some (.int .i32 0))
    (f1 : w.frozen? ⟨b, off + 1, none⟩ = false)
    (hf : Calls Tryz.prog 58 #[p] (w.setCell ⟨b, off + 1, none⟩ (.int .i32 1)) fun e w2 => e = .returned (.tuple #[]) ∧ Q w2)
    (hQ : ∀ w2, Q w2 → (∃ x, w2.cell? ⟨b, off, none⟩ = some x) ∧ w2.cell? ⟨b, off + 1, none⟩ = some (.int .i32 1) ∧ w2.frozen? ⟨b, off, none⟩ = false ∧ w2.frozen? ⟨b, off + 1, none⟩ = false) :
    Calls Tryz.prog 57 #[.pointer (some ⟨b, off, none⟩), .func (.func 58) #[p] #[]] w fun e w' => e = .returned (.tuple #[]) ∧
      ∃ w2, Q w2 ∧ w' = (w2.drew.setCell ⟨b, off, none⟩ (.int .u32 1)).setCell ⟨b, off + 1, none⟩ (.int .i32 0) := by
  have hl := run_call_load (P := Tryz.prog) Tryz.func110 (by kernel_rfl) (by kernel_rfl) (by kernel_rfl) .u32 (by kernel_rfl) h0
  have hnot : ∀ (x : Bool) (w : World), (Op.unary .not (.bool x)).run Tryz.prog w = .ok (.bool (!x)) w := fun _ _ => rfl
  go_enter Tryz.func57, Tryz.ntmps57
  go_wp2_with (first | (go_at_call 84; refine (slow_do b off p Q _ h0 h1 f1 hf hQ).mono ?_; rintro e w' ⟨rfl, hq⟩) | (go_at_call 83; go_in))
  go_end0
  exact ⟨rfl, hq⟩
end Go.Proofs.YteejemdibfbccaaGreatDoor

/-
  The table of bytes that are replaced, as it is filled.
-/
namespace Go.Proofs.YteejemdibfbccaaGreatDoor
open Go.AX Go.RowKit
set_option maxRecDepth 20000

/-- The texts of bytes and what replaces them. -/
def olnw (f : UInt8 → List UInt8) : List UInt8 → List Value
  | [] => []
  | c :: l => .string (bs [c]) :: .string (bs (f c)) :: olnw f l
def qtL : List UInt8 := [0, 10, 35, 34, 92]
def tab0 (t : Nat) : List Value := List.replicate 256 (.slice none 0 0) ++ [.slice (some ⟨t, 0, none⟩) 0 5]
def tabL (T : List Value) : List (Nat × Value × Value) → List Value
  | [] => T
  | (o, v, w) :: l => tabL ((T.set 256 v).set o w) l
theorem tabL_len : ∀ (l : List (Nat × Value × Value)) (T : List Value), (tabL T l).length = T.length
  | [], _ => rfl
  | (o, v, w) :: l, T => by rw [tabL, tabL_len l]; simp
theorem tabL_other {c : Nat} (hc : c ≠ 256) : ∀ (l : List (Nat × Value × Value)) (T : List Value), c ∉ l.map (·.1) → (tabL T l)[c]? = T[c]?
  | [], _, _ => rfl
  | (o, v, w) :: l, T, h => by
    simp only [List.map_cons, List.mem_cons, not_or] at h
    rw [tabL, tabL_other hc l _ h.2, List.getElem?_set_ne (Ne.symm h.1), List.getElem?_set_ne (Ne.symm hc)]
theorem tabL_mem {c : Nat} {w : Value} (hc : c < 256) : ∀ (l : List (Nat × Value × Value)) (T : List Value), T.length = 257 → (l.map (·.1)).Nodup → (∃ v, (c, v, w) ∈ l) → (tabL T l)[c]? = some w
  | [], _, _, _, h => by obtain ⟨_, h⟩ := h; cases h
  | (o, v, x) :: l, T, hT, hn, h => by
    simp only [List.map_cons, List.nodup_cons] at hn
    obtain ⟨u, hu⟩ := h
    rcases List.mem_cons.1 hu with h | h
    · cases h
      rw [tabL, tabL_other (by omega) l _ hn.1, List.getElem?_set_self (by simp; omega)]
    · rw [tabL]
      exact tabL_mem hc l _ (by simp [hT]) hn.2 ⟨u, h⟩
theorem tabL_last {o : Nat} {v w : Value} (ho : o ≠ 256) : ∀ (l : List (Nat × Value × Value)) (T : List Value), T.length = 257 → (tabL T (l ++ [(o, v, w)]))[256]? = some v
  | [], T, hT => by
    show ((T.set 256 v).set o w)[256]? = some v
    rw [List.getElem?_set_ne ho, List.getElem?_set_self (by omega)]
  | (o', v', w') :: l, T, hT => by
    show (tabL _ (l ++ [(o, v, w)]))[256]? = some v
    exact tabL_last ho l _ (by simp [hT])
theorem tab0_len (t : Nat) : (tab0 t).length = 257 := by simp [tab0]
theorem tab0_get (t : Nat) {c : Nat} (h : c < 256) : (tab0 t)[c]? = some (.slice none 0 0) := by
  rw [tab0, List.getElem?_append_left (by simpa using h), List.getElem?_replicate, if_pos h]
/-- The rounds: the byte, the block and the room of the list of bytes, the block and the room of the text. -/
def rdL (f : UInt8 → List UInt8) : Nat → List (UInt8 × Nat × Nat × Nat × Nat) → List (Nat × Value × Value)
  | _, [] => []
  | j, (o, t, k, n, c) :: l => (o.toNat, .slice (some ⟨t, 0, none⟩) (j + 1) k, .slice (some ⟨n, 0, none⟩) (f o).length c) :: rdL f (j + 1) l
theorem rdL_keys (f : UInt8 → List UInt8) : ∀ (l : List (UInt8 × Nat × Nat × Nat × Nat)) (j : Nat), (rdL f j l).map (·.1) = l.map fun r => r.1.toNat
  | [], _ => rfl
  | (o, t, k, n, c) :: l, j => by simp [rdL, rdL_keys f l]
theorem rdL_mem (f : UInt8 → List UInt8) {o : UInt8} {t k n c : Nat} : ∀ (l : List (UInt8 × Nat × Nat × Nat × Nat)) (j : Nat), (o, t, k, n, c) ∈ l → ∃ v, (o.toNat, v, .slice (some ⟨n, 0, none⟩) (f o).length c) ∈ rdL f j l
  | [], _, h => by cases h
  | r :: l, j, h => by
    obtain ⟨o', t', k', n', c'⟩ := r
    rcases List.mem_cons.1 h with h | h
    · cases h
      exact ⟨_, List.mem_cons_self ..⟩
    · obtain ⟨v, hv⟩ := rdL_mem f l (j + 1) h
      exact ⟨v, List.mem_cons_of_mem _ hv⟩
theorem rdL_app (f : UInt8 → List UInt8) (r : UInt8 × Nat × Nat × Nat × Nat) : ∀ (l : List (UInt8 × Nat × Nat × Nat × Nat)) (j : Nat), rdL f j (l ++ [r]) = rdL f j l ++ [(r.1.toNat, .slice (some ⟨r.2.1, 0, none⟩) (j + l.length + 1) r.2.2.1, .slice (some ⟨r.2.2.2.1, 0, none⟩) (f r.1).length r.2.2.2.2)]
  | [], j => rfl
  | (o, t, k, n, c) :: l, j => by simp [rdL, rdL_app f r l (j + 1)]; omega
theorem rounds_cell (f : UInt8 → List UInt8) (l : List (UInt8 × Nat × Nat × Nat × Nat)) (hn : (l.map (·.1)).Nodup) (t0 : Nat) (c : UInt8) : (c ∉ l.map (·.1) ∧ (tabL (tab0 t0) (rdL f 0 l))[c.toNat]? = some (.slice none 0 0)) ∨ ∃ t k n cap, (c, t, k, n, cap) ∈ l ∧ (tabL (tab0 t0) (rdL f 0 l))[c.toNat]? = some (.slice (some ⟨n, 0, none⟩) (f c).length cap) := by
  have hc := c.toNat_lt
  by_cases h : c ∈ l.map (·.1)
  · obtain ⟨⟨o, t, k, n, cap⟩, hr, rfl⟩ := List.mem_map.1 h
    refine .inr ⟨t, k, n, cap, hr, tabL_mem (by omega) _ _ (tab0_len t0) ?_ (rdL_mem f l 0 hr)⟩
    rw [rdL_keys]
    have : (l.map fun r => r.1.toNat) = (l.map (·.1)).map UInt8.toNat := by simp
    rw [this]
    exact List.Pairwise.map UInt8.toNat (fun a b h h2 => h (UInt8.toNat_inj.1 h2)) hn
  · refine .inl ⟨h, ?_⟩
    rw [tabL_other (by omega), tab0_get t0 (by omega)]
    rw [rdL_keys]
    intro h2
    obtain ⟨r, hr, he⟩ := List.mem_map.1 h2
    exact h (List.mem_map.2 ⟨r, hr, UInt8.toNat_inj.1 he⟩)
theorem rounds_ok (f : UInt8 → List UInt8) (l : List (UInt8 × Nat × Nat × Nat × Nat)) (r : UInt8 × Nat × Nat × Nat × Nat) (hn : ((l ++ [r]).map (·.1)).Nodup) (t0 tb : Nat) (hf : ∀ c, c ∉ (l ++ [r]).map (·.1) → f c = [c]) (hs : ∀ c, 1 ≤ (f c).length ∧ (f c).length ≤ 6) (hl : l.length ≤ 15) :
    TblOk f ((l ++ [r]).map (·.1)) ⟨tb, tabL (tab0 t0) (rdL f 0 (l ++ [r])), some ⟨r.2.1, 0, none⟩, r.2.2.1⟩ := by
  refine ⟨by rw [tabL_len, tab0_len], ?_, rfl, fun c => ?_, hn, hs, by simp; omega⟩
  · have := r.1.toNat_lt
    rw [rdL_app, tabL_last (by omega) _ _ (tab0_len t0)]
    simp
  · rcases rounds_cell f (l ++ [r]) hn t0 c with ⟨h1, h2⟩ | ⟨t, k, n, cap, h1, h2⟩
    · exact .inl ⟨h1, hf c h1, h2⟩
    · exact .inr ⟨List.mem_map.2 ⟨_, h1, rfl⟩, _, _, h2⟩
theorem rounds_fact (f : UInt8 → List UInt8) (l : List (UInt8 × Nat × Nat × Nat × Nat)) (hn : (l.map (·.1)).Nodup) (t0 : Nat) {w : World} (h : ∀ o t k n cap, (o, t, k, n, cap) ∈ l → SlAt (some ⟨n, 0, none⟩) (f o).length (u8s (f o)) w) :
    ∀ c : UInt8, ∀ a cap, (tabL (tab0 t0) (rdL f 0 l))[c.toNat]? = some (.slice (some a) (f c).length cap) → SlAt (some a) (f c).length (u8s (f c)) w := by
  intro c a cap hc
  rcases rounds_cell f l hn t0 c with ⟨_, h2⟩ | ⟨t, k, n, cap', h1, h2⟩
  · rw [h2] at hc; cases hc
  · rw [h2] at hc
    cases hc
    exact h c t k n _ h1
end Go.Proofs.YteejemdibfbccaaGreatDoor

/-
  Contract: (*strings.Replacer).Replace, for the first time: the bytes that Quote replaces.
-/
namespace Go.Proofs.YteejemdibfbccaaGreatDoor
open Go.AX Go.RowKit
set_option maxRecDepth 20000

theorem qt_sz (c : UInt8) : 1 ≤ (qt c).length ∧ (qt c).length ≤ 6 := by
  unfold qt
  split
  · decide
  split
  · decide
  split
  · decide
  split
  · decide
  split
  · decide
  exact ⟨Nat.le_refl 1, Nat.le_of_ble_eq_true rfl⟩
theorem qt_other (c : UInt8) (h : c ∉ qtL) : qt c = [c] := by
  simp only [qtL, List.mem_cons, List.not_mem_nil, or_false, not_or] at h
  unfold qt
  simp [h]
set_option maxHeartbeats 4000000 in
theorem first_qt (s : List UInt8) (b c k : Nat) (hs : s.length ≤ 1000000) : SpecH Tryz.prog 42 (pvs [.pointer (some ⟨b, 0, none⟩), .string (bs s)]) [.app 9 1 (olnw qt qtL.reverse) (some ⟨c, 0, none⟩) 10 k, .app 87 5 (replC 0 0 .nilIface (some ⟨c, 0, none⟩) 10 k) (some ⟨b, 0, none⟩) 1 1]
    (RetG (TblOk qt qtL) (fun _ => .string (bs (s.flatMap qt))) fun d => [.dead, .fact fun w => SlAt (some ⟨b, 0, none⟩) 5 (replC 1 0 (.iface 148 (.pointer (some ⟨d.b, 0, none⟩))) none 0 0) w ∧ TblF qt qtL d w]) := by
  refine SpecH.seal (fun _ _ => Nat.le_refl _) ?_
  refine spec_of_exec hm Tryz.func42 (by kernel_rfl) rfl rfl ?_
  (first | refine wX ?_ | exact wZ)
  refine SpecH.args (args' := pvs [.pointer (some ⟨b, 0, none⟩), .func (.func 58) #[.pointer (some ⟨b, 0, none⟩)] #[]]) (by simp [pvs, opvs, opv, nth, plainEv]; rfl) ?_
  refine SpecH.once (P := Tryz.prog) (fd := 57) (fb := 58) (p := .pointer (some ⟨b, 0, none⟩)) (T := 87) (m := 5) (b := b) (xs := replC 0 0 .nilIface (some ⟨c, 0, none⟩) 10 k) (H := [.app 9 1 (olnw qt qtL.reverse) (some ⟨c, 0, none⟩) 10 k, .app 87 5 (replC 0 0 .nilIface (some ⟨c, 0, none⟩) 10 k) (some ⟨b, 0, none⟩) 1 1]) (callOk Tryz.func57 (by kernel_rfl) rfl) 1 rfl rfl rfl (fun Q w => do_first b 0 _ Q w) ?_
  refine spec_of_exec hm Tryz.func58 (by kernel_rfl) rfl rfl ?_
  (first | refine wX ?_ | exact wZ)
  refine spec_of_exec hm Tryz.func85 (by kernel_rfl) rfl rfl ?_
  (first | refine wX ?_ | exact wZ)
  refine LdN.one (a := some ⟨b, 0, none⟩) (q := 4) (.slice (some ⟨c, 0, none⟩) 10 k) rfl (fun w hw => hw.2.1) rfl ?_
  (first | refine wX ?_ | exact wZ)
  refine LoopN.unroll 6 ?_
  ((conv => whnf); (repeat ((first | refine VrN.norm (wrap_i64 (by omega)) ?_ | refine VrN.keep ?_ | refine Nd.mk (by decide +kernel) ?_ | refine Nd.mk (by omega) ?_ | refine Nd.mk ⟨rfl, by decide +kernel, by decide +kernel⟩ ?_ | refine LdN.one _ rfl (fun w hw => hw.1) rfl ?_); (conv => whnf))))
  refine EffW.mkEmpty 5 rfl Tryz.underlying27 rfl rfl rfl rfl (by decide +kernel) fun t => ?_
  ((conv => whnf); (repeat ((first | refine VrN.norm (wrap_i64 (by omega)) ?_ | refine VrN.keep ?_ | refine Nd.mk (by decide +kernel) ?_ | refine Nd.mk (by omega) ?_ | refine Nd.mk ⟨rfl, by decide +kernel, by decide +kernel⟩ ?_ | refine LdN.one _ rfl (fun w hw => hw.1) rfl ?_); (conv => whnf))))
  refine BoxN.known _ rfl fun tb => ?_
  ((conv => whnf); (repeat ((first | refine VrN.norm (wrap_i64 (by omega)) ?_ | refine VrN.keep ?_ | refine Nd.mk (by decide +kernel) ?_ | refine Nd.mk (by omega) ?_ | refine Nd.mk ⟨rfl, by decide +kernel, by decide +kernel⟩ ?_ | refine LdN.one _ rfl (fun w hw => hw.1) rfl ?_); (conv => whnf))))
  refine EffW.appTo (i := 3) (q := 0) (tab0 t) 257 rfl rfl rfl rfl rfl rfl rfl (Nat.le_of_ble_eq_true rfl) rfl rfl ?_
  ((conv => whnf); (repeat ((first | refine VrN.norm (wrap_i64 (by omega)) ?_ | refine VrN.keep ?_ | refine Nd.mk (by decide +kernel) ?_ | refine Nd.mk (by omega) ?_ | refine Nd.mk ⟨rfl, by decide +kernel, by decide +kernel⟩ ?_ | refine LdN.one _ rfl (fun w hw => hw.1) rfl ?_); (conv => whnf))))
  refine LoopN.unroll 6 ?_
  ((conv => whnf); (repeat ((first | refine VrN.norm (wrap_i64 (by omega)) ?_ | refine VrN.keep ?_ | refine Nd.mk (by decide +kernel) ?_ | refine Nd.mk (by omega) ?_ | refine Nd.mk ⟨rfl, by decide +kernel, by decide +kernel⟩ ?_ | refine LdN.one _ rfl (fun w hw => hw.1) rfl ?_); (conv => whnf))))
  refine LdN.fld (a := some ⟨tb, 0, none⟩) (q := 0) _ rfl (fun w hw => hw.2.2.2.1) rfl ?_
  ((conv => whnf); (repeat ((first | refine VrN.norm (wrap_i64 (by omega)) ?_ | refine VrN.keep ?_ | refine Nd.mk (by decide +kernel) ?_ | refine Nd.mk (by omega) ?_ | refine Nd.mk ⟨rfl, by decide +kernel, by decide +kernel⟩ ?_ | refine LdN.one _ rfl (fun w hw => hw.1) rfl ?_); (conv => whnf))))
  refine LdN.fld (a := some ⟨tb, 0, none⟩) (q := 0) _ rfl (fun w hw => hw.2.2.2.1) rfl ?_
  ((conv => whnf); (repeat ((first | refine VrN.norm (wrap_i64 (by omega)) ?_ | refine VrN.keep ?_ | refine Nd.mk (by decide +kernel) ?_ | refine Nd.mk (by omega) ?_ | refine Nd.mk ⟨rfl, by decide +kernel, by decide +kernel⟩ ?_ | refine LdN.one _ rfl (fun w hw => hw.1) rfl ?_); (conv => whnf))))
  refine RwN.own ?_
  ((conv => whnf); (repeat ((first | refine VrN.norm (wrap_i64 (by omega)) ?_ | refine VrN.keep ?_ | refine Nd.mk (by decide +kernel) ?_ | refine Nd.mk (by omega) ?_ | refine Nd.mk ⟨rfl, by decide +kernel, by decide +kernel⟩ ?_ | refine LdN.one _ rfl (fun w hw => hw.1) rfl ?_); (conv => whnf))))
  refine ReadW.bytesOwn [0] rfl rfl Tryz.underlying108 Tryz.underlying5 Tryz.underlying9 rfl rfl ?_
  ((conv => whnf); (repeat ((first | refine VrN.norm (wrap_i64 (by omega)) ?_ | refine VrN.keep ?_ | refine Nd.mk (by decide +kernel) ?_ | refine Nd.mk (by omega) ?_ | refine Nd.mk ⟨rfl, by decide +kernel, by decide +kernel⟩ ?_ | refine LdN.one _ rfl (fun w hw => hw.1) rfl ?_); (conv => whnf))))
  refine RwN.own ?_
  ((conv => whnf); (repeat ((first | refine VrN.norm (wrap_i64 (by omega)) ?_ | refine VrN.keep ?_ | refine Nd.mk (by decide +kernel) ?_ | refine Nd.mk (by omega) ?_ | refine Nd.mk ⟨rfl, by decide +kernel, by decide +kernel⟩ ?_ | refine LdN.one _ rfl (fun w hw => hw.1) rfl ?_); (conv => whnf))))
  refine AppN.grow 2 _ _ rfl rfl ⟨by decide, ⟨Nat.le_of_ble_eq_true rfl, by omega⟩, Nat.one_ne_zero⟩ fun t1 k1 h1 h1' => ?_
  ((conv => whnf); (repeat ((first | refine VrN.norm (wrap_i64 (by omega)) ?_ | refine VrN.keep ?_ | refine Nd.mk (by decide +kernel) ?_ | refine Nd.mk (by omega) ?_ | refine Nd.mk ⟨rfl, by decide +kernel, by decide +kernel⟩ ?_ | refine LdN.one _ rfl (fun w hw => hw.1) rfl ?_); (conv => whnf))))
  refine EffW.appTo (i := 3) (q := 256) (ys := [_]) _ 257 rfl rfl rfl rfl rfl rfl rfl (Nat.le_of_ble_eq_true rfl) (put_set _ (by simp [tab0])) rfl ?_
  ((conv => whnf); (repeat ((first | refine VrN.norm (wrap_i64 (by omega)) ?_ | refine VrN.keep ?_ | refine Nd.mk (by decide +kernel) ?_ | refine Nd.mk (by omega) ?_ | refine Nd.mk ⟨rfl, by decide +kernel, by decide +kernel⟩ ?_ | refine LdN.one _ rfl (fun w hw => hw.1) rfl ?_); (conv => whnf))))
  refine EffW.bytesOf _ rfl Tryz.underlying9 Tryz.underlying108 Tryz.underlying5 rfl (by decide) fun n1 c1 g1 g1' => ?_
  ((conv => whnf); (repeat ((first | refine VrN.norm (wrap_i64 (by omega)) ?_ | refine VrN.keep ?_ | refine Nd.mk (by decide +kernel) ?_ | refine Nd.mk (by omega) ?_ | refine Nd.mk ⟨rfl, by decide +kernel, by decide +kernel⟩ ?_ | refine LdN.one _ rfl (fun w hw => hw.1) rfl ?_); (conv => whnf))))
  refine EffW.appTo (i := 3) (q := 0) (ys := [_]) _ 257 rfl rfl rfl rfl rfl rfl rfl (Nat.le_of_ble_eq_true rfl) (put_set _ (by simp [tab0])) rfl ?_
  ((conv => whnf); (repeat ((first | refine VrN.norm (wrap_i64 (by omega)) ?_ | refine VrN.keep ?_ | refine Nd.mk (by decide +kernel) ?_ | refine Nd.mk (by omega) ?_ | refine Nd.mk ⟨rfl, by decide +kernel, by decide +kernel⟩ ?_ | refine LdN.one _ rfl (fun w hw => hw.1) rfl ?_); (conv => whnf))))
  refine LdN.fld (a := some ⟨tb, 0, none⟩) (q := 0) _ rfl (fun w hw => hw.2.2.2.1) rfl ?_
  ((conv => whnf); (repeat ((first | refine VrN.norm (wrap_i64 (by omega)) ?_ | refine VrN.keep ?_ | refine Nd.mk (by decide +kernel) ?_ | refine Nd.mk (by omega) ?_ | refine Nd.mk ⟨rfl, by decide +kernel, by decide +kernel⟩ ?_ | refine LdN.one _ rfl (fun w hw => hw.1) rfl ?_); (conv => whnf))))
  refine LdN.fld (a := some ⟨tb, 0, none⟩) (q := 0) _ rfl (fun w hw => hw.2.2.2.1) rfl ?_
  ((conv => whnf); (repeat ((first | refine VrN.norm (wrap_i64 (by omega)) ?_ | refine VrN.keep ?_ | refine Nd.mk (by decide +kernel) ?_ | refine Nd.mk (by omega) ?_ | refine Nd.mk ⟨rfl, by decide +kernel, by decide +kernel⟩ ?_ | refine LdN.one _ rfl (fun w hw => hw.1) rfl ?_); (conv => whnf))))
  refine RwN.own ?_
  ((conv => whnf); (repeat ((first | refine VrN.norm (wrap_i64 (by omega)) ?_ | refine VrN.keep ?_ | refine Nd.mk (by decide +kernel) ?_ | refine Nd.mk (by omega) ?_ | refine Nd.mk ⟨rfl, by decide +kernel, by decide +kernel⟩ ?_ | refine LdN.one _ rfl (fun w hw => hw.1) rfl ?_); (conv => whnf))))
  refine ReadW.bytesOwn [10] rfl rfl Tryz.underlying108 Tryz.underlying5 Tryz.underlying9 rfl rfl ?_
  ((conv => whnf); (repeat ((first | refine VrN.norm (wrap_i64 (by omega)) ?_ | refine VrN.keep ?_ | refine Nd.mk (by decide +kernel) ?_ | refine Nd.mk (by omega) ?_ | refine Nd.mk ⟨rfl, by decide +kernel, by decide +kernel⟩ ?_ | refine LdN.one _ rfl (fun w hw => hw.1) rfl ?_); (conv => whnf))))
  refine RwN.own ?_
  ((conv => whnf); (repeat ((first | refine VrN.norm (wrap_i64 (by omega)) ?_ | refine VrN.keep ?_ | refine Nd.mk (by decide +kernel) ?_ | refine Nd.mk (by omega) ?_ | refine Nd.mk ⟨rfl, by decide +kernel, by decide +kernel⟩ ?_ | refine LdN.one _ rfl (fun w hw => hw.1) rfl ?_); (conv => whnf))))
  refine AppN.grow 2 _ _ rfl rfl ⟨by decide, ⟨Nat.le_of_ble_eq_true rfl, by omega⟩, Nat.one_ne_zero⟩ fun t2 k2 h2 h2' => ?_
  ((conv => whnf); (repeat ((first | refine VrN.norm (wrap_i64 (by omega)) ?_ | refine VrN.keep ?_ | refine Nd.mk (by decide +kernel) ?_ | refine Nd.mk (by omega) ?_ | refine Nd.mk ⟨rfl, by decide +kernel, by decide +kernel⟩ ?_ | refine LdN.one _ rfl (fun w hw => hw.1) rfl ?_); (conv => whnf))))
  refine EffW.appTo (i := 3) (q := 256) (ys := [_]) _ 257 rfl rfl rfl rfl rfl rfl rfl (Nat.le_of_ble_eq_true rfl) (put_set _ (by simp [tab0])) rfl ?_
  ((conv => whnf); (repeat ((first | refine VrN.norm (wrap_i64 (by omega)) ?_ | refine VrN.keep ?_ | refine Nd.mk (by decide +kernel) ?_ | refine Nd.mk (by omega) ?_ | refine Nd.mk ⟨rfl, by decide +kernel, by decide +kernel⟩ ?_ | refine LdN.one _ rfl (fun w hw => hw.1) rfl ?_); (conv => whnf))))
  refine EffW.bytesOf _ rfl Tryz.underlying9 Tryz.underlying108 Tryz.underlying5 rfl (by decide) fun n2 c2 g2 g2' => ?_
  ((conv => whnf); (repeat ((first | refine VrN.norm (wrap_i64 (by omega)) ?_ | refine VrN.keep ?_ | refine Nd.mk (by decide +kernel) ?_ | refine Nd.mk (by omega) ?_ | refine Nd.mk ⟨rfl, by decide +kernel, by decide +kernel⟩ ?_ | refine LdN.one _ rfl (fun w hw => hw.1) rfl ?_); (conv => whnf))))
  refine EffW.appTo (i := 3) (q := 10) (ys := [_]) _ 257 rfl rfl rfl rfl rfl rfl rfl (Nat.le_of_ble_eq_true rfl) (put_set _ (by simp [tab0])) rfl ?_
  ((conv => whnf); (repeat ((first | refine VrN.norm (wrap_i64 (by omega)) ?_ | refine VrN.keep ?_ | refine Nd.mk (by decide +kernel) ?_ | refine Nd.mk (by omega) ?_ | refine Nd.mk ⟨rfl, by decide +kernel, by decide +kernel⟩ ?_ | refine LdN.one _ rfl (fun w hw => hw.1) rfl ?_); (conv => whnf))))
  refine LdN.fld (a := some ⟨tb, 0, none⟩) (q := 0) _ rfl (fun w hw => hw.2.2.2.1) rfl ?_
  ((conv => whnf); (repeat ((first | refine VrN.norm (wrap_i64 (by omega)) ?_ | refine VrN.keep ?_ | refine Nd.mk (by decide +kernel) ?_ | refine Nd.mk (by omega) ?_ | refine Nd.mk ⟨rfl, by decide +kernel, by decide +kernel⟩ ?_ | refine LdN.one _ rfl (fun w hw => hw.1) rfl ?_); (conv => whnf))))
  refine LdN.fld (a := some ⟨tb, 0, none⟩) (q := 0) _ rfl (fun w hw => hw.2.2.2.1) rfl ?_
  ((conv => whnf); (repeat ((first | refine VrN.norm (wrap_i64 (by omega)) ?_ | refine VrN.keep ?_ | refine Nd.mk (by decide +kernel) ?_ | refine Nd.mk (by omega) ?_ | refine Nd.mk ⟨rfl, by decide +kernel, by decide +kernel⟩ ?_ | refine LdN.one _ rfl (fun w hw => hw.1) rfl ?_); (conv => whnf))))
  refine RwN.own ?_
  ((conv => whnf); (repeat ((first | refine VrN.norm (wrap_i64 (by omega)) ?_ | refine VrN.keep ?_ | refine Nd.mk (by decide +kernel) ?_ | refine Nd.mk (by omega) ?_ | refine Nd.mk ⟨rfl, by decide +kernel, by decide +kernel⟩ ?_ | refine LdN.one _ rfl (fun w hw => hw.1) rfl ?_); (conv => whnf))))
  refine ReadW.bytesOwn [35] rfl rfl Tryz.underlying108 Tryz.underlying5 Tryz.underlying9 rfl rfl ?_
  ((conv => whnf); (repeat ((first | refine VrN.norm (wrap_i64 (by omega)) ?_ | refine VrN.keep ?_ | refine Nd.mk (by decide +kernel) ?_ | refine Nd.mk (by omega) ?_ | refine Nd.mk ⟨rfl, by decide +kernel, by decide +kernel⟩ ?_ | refine LdN.one _ rfl (fun w hw => hw.1) rfl ?_); (conv => whnf))))
  refine RwN.own ?_
  ((conv => whnf); (repeat ((first | refine VrN.norm (wrap_i64 (by omega)) ?_ | refine VrN.keep ?_ | refine Nd.mk (by decide +kernel) ?_ | refine Nd.mk (by omega) ?_ | refine Nd.mk ⟨rfl, by decide +kernel, by decide +kernel⟩ ?_ | refine LdN.one _ rfl (fun w hw => hw.1) rfl ?_); (conv => whnf))))
  refine AppN.grow 2 _ _ rfl rfl ⟨by decide, ⟨Nat.le_of_ble_eq_true rfl, by omega⟩, Nat.one_ne_zero⟩ fun t3 k3 h3 h3' => ?_
  ((conv => whnf); (repeat ((first | refine VrN.norm (wrap_i64 (by omega)) ?_ | refine VrN.keep ?_ | refine Nd.mk (by decide +kernel) ?_ | refine Nd.mk (by omega) ?_ | refine Nd.mk ⟨rfl, by decide +kernel, by decide +kernel⟩ ?_ | refine LdN.one _ rfl (fun w hw => hw.1) rfl ?_); (conv => whnf))))
  refine EffW.appTo (i := 3) (q := 256) (ys := [_]) _ 257 rfl rfl rfl rfl rfl rfl rfl (Nat.le_of_ble_eq_true rfl) (put_set _ (by simp [tab0])) rfl ?_
  ((conv => whnf); (repeat ((first | refine VrN.norm (wrap_i64 (by omega)) ?_ | refine VrN.keep ?_ | refine Nd.mk (by decide +kernel) ?_ | refine Nd.mk (by omega) ?_ | refine Nd.mk ⟨rfl, by decide +kernel, by decide +kernel⟩ ?_ | refine LdN.one _ rfl (fun w hw => hw.1) rfl ?_); (conv => whnf))))
  refine EffW.bytesOf _ rfl Tryz.underlying9 Tryz.underlying108 Tryz.underlying5 rfl (by decide) fun n3 c3 g3 g3' => ?_
  ((conv => whnf); (repeat ((first | refine VrN.norm (wrap_i64 (by omega)) ?_ | refine VrN.keep ?_ | refine Nd.mk (by decide +kernel) ?_ | refine Nd.mk (by omega) ?_ | refine Nd.mk ⟨rfl, by decide +kernel, by decide +kernel⟩ ?_ | refine LdN.one _ rfl (fun w hw => hw.1) rfl ?_); (conv => whnf))))
  refine EffW.appTo (i := 3) (q := 35) (ys := [_]) _ 257 rfl rfl rfl rfl rfl rfl rfl (Nat.le_of_ble_eq_true rfl) (put_set _ (by simp [tab0])) rfl ?_
  ((conv => whnf); (repeat ((first | refine VrN.norm (wrap_i64 (by omega)) ?_ | refine VrN.keep ?_ | refine Nd.mk (by decide +kernel) ?_ | refine Nd.mk (by omega) ?_ | refine Nd.mk ⟨rfl, by decide +kernel, by decide +kernel⟩ ?_ | refine LdN.one _ rfl (fun w hw => hw.1) rfl ?_); (conv => whnf))))
  refine LdN.fld (a := some ⟨tb, 0, none⟩) (q := 0) _ rfl (fun w hw => hw.2.2.2.1) rfl ?_
  ((conv => whnf); (repeat ((first | refine VrN.norm (wrap_i64 (by omega)) ?_ | refine VrN.keep ?_ | refine Nd.mk (by decide +kernel) ?_ | refine Nd.mk (by omega) ?_ | refine Nd.mk ⟨rfl, by decide +kernel, by decide +kernel⟩ ?_ | refine LdN.one _ rfl (fun w hw => hw.1) rfl ?_); (conv => whnf))))
  refine LdN.fld (a := some ⟨tb, 0, none⟩) (q := 0) _ rfl (fun w hw => hw.2.2.2.1) rfl ?_
  ((conv => whnf); (repeat ((first | refine VrN.norm (wrap_i64 (by omega)) ?_ | refine VrN.keep ?_ | refine Nd.mk (by decide +kernel) ?_ | refine Nd.mk (by omega) ?_ | refine Nd.mk ⟨rfl, by decide +kernel, by decide +kernel⟩ ?_ | refine LdN.one _ rfl (fun w hw => hw.1) rfl ?_); (conv => whnf))))
  refine RwN.own ?_
  ((conv => whnf); (repeat ((first | refine VrN.norm (wrap_i64 (by omega)) ?_ | refine VrN.keep ?_ | refine Nd.mk (by decide +kernel) ?_ | refine Nd.mk (by omega) ?_ | refine Nd.mk ⟨rfl, by decide +kernel, by decide +kernel⟩ ?_ | refine LdN.one _ rfl (fun w hw => hw.1) rfl ?_); (conv => whnf))))
  refine ReadW.bytesOwn [34] rfl rfl Tryz.underlying108 Tryz.underlying5 Tryz.underlying9 rfl rfl ?_
  ((conv => whnf); (repeat ((first | refine VrN.norm (wrap_i64 (by omega)) ?_ | refine VrN.keep ?_ | refine Nd.mk (by decide +kernel) ?_ | refine Nd.mk (by omega) ?_ | refine Nd.mk ⟨rfl, by decide +kernel, by decide +kernel⟩ ?_ | refine LdN.one _ rfl (fun w hw => hw.1) rfl ?_); (conv => whnf))))
  refine RwN.own ?_
  ((conv => whnf); (repeat ((first | refine VrN.norm (wrap_i64 (by omega)) ?_ | refine VrN.keep ?_ | refine Nd.mk (by decide +kernel) ?_ | refine Nd.mk (by omega) ?_ | refine Nd.mk ⟨rfl, by decide +kernel, by decide +kernel⟩ ?_ | refine LdN.one _ rfl (fun w hw => hw.1) rfl ?_); (conv => whnf))))
  refine AppN.grow 2 _ _ rfl rfl ⟨by decide, ⟨Nat.le_of_ble_eq_true rfl, by omega⟩, Nat.one_ne_zero⟩ fun t4 k4 h4 h4' => ?_
  ((conv => whnf); (repeat ((first | refine VrN.norm (wrap_i64 (by omega)) ?_ | refine VrN.keep ?_ | refine Nd.mk (by decide +kernel) ?_ | refine Nd.mk (by omega) ?_ | refine Nd.mk ⟨rfl, by decide +kernel, by decide +kernel⟩ ?_ | refine LdN.one _ rfl (fun w hw => hw.1) rfl ?_); (conv => whnf))))
  refine EffW.appTo (i := 3) (q := 256) (ys := [_]) _ 257 rfl rfl rfl rfl rfl rfl rfl (Nat.le_of_ble_eq_true rfl) (put_set _ (by simp [tab0])) rfl ?_
  ((conv => whnf); (repeat ((first | refine VrN.norm (wrap_i64 (by omega)) ?_ | refine VrN.keep ?_ | refine Nd.mk (by decide +kernel) ?_ | refine Nd.mk (by omega) ?_ | refine Nd.mk ⟨rfl, by decide +kernel, by decide +kernel⟩ ?_ | refine LdN.one _ rfl (fun w hw => hw.1) rfl ?_); (conv => whnf))))
  refine EffW.bytesOf _ rfl Tryz.underlying9 Tryz.underlying108 Tryz.underlying5 rfl (by decide) fun n4 c4 g4 g4' => ?_
  ((conv => whnf); (repeat ((first | refine VrN.norm (wrap_i64 (by omega)) ?_ | refine VrN.keep ?_ | refine Nd.mk (by decide +kernel) ?_ | refine Nd.mk (by omega) ?_ | refine Nd.mk ⟨rfl, by decide +kernel, by decide +kernel⟩ ?_ | refine LdN.one _ rfl (fun w hw => hw.1) rfl ?_); (conv => whnf))))
  refine EffW.appTo (i := 3) (q := 34) (ys := [_]) _ 257 rfl rfl rfl rfl rfl rfl rfl (Nat.le_of_ble_eq_true rfl) (put_set _ (by simp [tab0])) rfl ?_
  ((conv => whnf); (repeat ((first | refine VrN.norm (wrap_i64 (by omega)) ?_ | refine VrN.keep ?_ | refine Nd.mk (by decide +kernel) ?_ | refine Nd.mk (by omega) ?_ | refine Nd.mk ⟨rfl, by decide +kernel, by decide +kernel⟩ ?_ | refine LdN.one _ rfl (fun w hw => hw.1) rfl ?_); (conv => whnf))))
  refine LdN.fld (a := some ⟨tb, 0, none⟩) (q := 0) _ rfl (fun w hw => hw.2.2.2.1) rfl ?_
  ((conv => whnf); (repeat ((first | refine VrN.norm (wrap_i64 (by omega)) ?_ | refine VrN.keep ?_ | refine Nd.mk (by decide +kernel) ?_ | refine Nd.mk (by omega) ?_ | refine Nd.mk ⟨rfl, by decide +kernel, by decide +kernel⟩ ?_ | refine LdN.one _ rfl (fun w hw => hw.1) rfl ?_); (conv => whnf))))
  refine LdN.fld (a := some ⟨tb, 0, none⟩) (q := 0) _ rfl (fun w hw => hw.2.2.2.1) rfl ?_
  ((conv => whnf); (repeat ((first | refine VrN.norm (wrap_i64 (by omega)) ?_ | refine VrN.keep ?_ | refine Nd.mk (by decide +kernel) ?_ | refine Nd.mk (by omega) ?_ | refine Nd.mk ⟨rfl, by decide +kernel, by decide +kernel⟩ ?_ | refine LdN.one _ rfl (fun w hw => hw.1) rfl ?_); (conv => whnf))))
  refine RwN.own ?_
  ((conv => whnf); (repeat ((first | refine VrN.norm (wrap_i64 (by omega)) ?_ | refine VrN.keep ?_ | refine Nd.mk (by decide +kernel) ?_ | refine Nd.mk (by omega) ?_ | refine Nd.mk ⟨rfl, by decide +kernel, by decide +kernel⟩ ?_ | refine LdN.one _ rfl (fun w hw => hw.1) rfl ?_); (conv => whnf))))
  refine ReadW.bytesOwn [92] rfl rfl Tryz.underlying108 Tryz.underlying5 Tryz.underlying9 rfl rfl ?_
  ((conv => whnf); (repeat ((first | refine VrN.norm (wrap_i64 (by omega)) ?_ | refine VrN.keep ?_ | refine Nd.mk (by decide +kernel) ?_ | refine Nd.mk (by omega) ?_ | refine Nd.mk ⟨rfl, by decide +kernel, by decide +kernel⟩ ?_ | refine LdN.one _ rfl (fun w hw => hw.1) rfl ?_); (conv => whnf))))
  refine RwN.own ?_
  ((conv => whnf); (repeat ((first | refine VrN.norm (wrap_i64 (by omega)) ?_ | refine VrN.keep ?_ | refine Nd.mk (by decide +kernel) ?_ | refine Nd.mk (by omega) ?_ | refine Nd.mk ⟨rfl, by decide +kernel, by decide +kernel⟩ ?_ | refine LdN.one _ rfl (fun w hw => hw.1) rfl ?_); (conv => whnf))))
  refine AppN.grow 2 _ _ rfl rfl ⟨by decide, ⟨Nat.le_of_ble_eq_true rfl, by omega⟩, Nat.one_ne_zero⟩ fun t5 k5 h5 h5' => ?_
  ((conv => whnf); (repeat ((first | refine VrN.norm (wrap_i64 (by omega)) ?_ | refine VrN.keep ?_ | refine Nd.mk (by decide +kernel) ?_ | refine Nd.mk (by omega) ?_ | refine Nd.mk ⟨rfl, by decide +kernel, by decide +kernel⟩ ?_ | refine LdN.one _ rfl (fun w hw => hw.1) rfl ?_); (conv => whnf))))
  refine EffW.appTo (i := 3) (q := 256) (ys := [_]) _ 257 rfl rfl rfl rfl rfl rfl rfl (Nat.le_of_ble_eq_true rfl) (put_set _ (by simp [tab0])) rfl ?_
  ((conv => whnf); (repeat ((first | refine VrN.norm (wrap_i64 (by omega)) ?_ | refine VrN.keep ?_ | refine Nd.mk (by decide +kernel) ?_ | refine Nd.mk (by omega) ?_ | refine Nd.mk ⟨rfl, by decide +kernel, by decide +kernel⟩ ?_ | refine LdN.one _ rfl (fun w hw => hw.1) rfl ?_); (conv => whnf))))
  refine EffW.bytesOf _ rfl Tryz.underlying9 Tryz.underlying108 Tryz.underlying5 rfl (by decide) fun n5 c5 g5 g5' => ?_
  ((conv => whnf); (repeat ((first | refine VrN.norm (wrap_i64 (by omega)) ?_ | refine VrN.keep ?_ | refine Nd.mk (by decide +kernel) ?_ | refine Nd.mk (by omega) ?_ | refine Nd.mk ⟨rfl, by decide +kernel, by decide +kernel⟩ ?_ | refine LdN.one _ rfl (fun w hw => hw.1) rfl ?_); (conv => whnf))))
  refine EffW.appTo (i := 3) (q := 92) (ys := [_]) _ 257 rfl rfl rfl rfl rfl rfl rfl (Nat.le_of_ble_eq_true rfl) (put_set _ (by simp [tab0])) rfl ?_
  ((conv => whnf); (repeat ((first | refine VrN.norm (wrap_i64 (by omega)) ?_ | refine VrN.keep ?_ | refine Nd.mk (by decide +kernel) ?_ | refine Nd.mk (by omega) ?_ | refine Nd.mk ⟨rfl, by decide +kernel, by decide +kernel⟩ ?_ | refine LdN.one _ rfl (fun w hw => hw.1) rfl ?_); (conv => whnf))))
  refine EffW.appTo (i := 1) (q := 3) (ys := [.iface 148 (.pointer (some ⟨tb, 0, none⟩))]) (replC 0 1 (.iface 148 (.pointer (some ⟨tb, 0, none⟩))) (some ⟨c, 0, none⟩) 10 k) 5 rfl rfl rfl rfl rfl rfl rfl (Nat.le_of_ble_eq_true rfl) rfl rfl ?_
  (first | refine wX ?_ | exact wZ)
  refine EffW.appTo (i := 1) (q := 4) (ys := [.slice none 0 0]) (replC 0 1 (.iface 148 (.pointer (some ⟨tb, 0, none⟩))) none 0 0) 5 rfl rfl rfl rfl rfl rfl rfl (Nat.le_of_ble_eq_true rfl) rfl rfl ?_
  (first | refine wX ?_ | exact wZ)
  refine ⟨rfl, 5, _, rfl, ⟨_, rfl⟩, rfl, ?_⟩
  (first | refine wX ?_ | exact wZ)
  have hD := rounds_ok qt [(0, t1, k1, n1, c1), (10, t2, k2, n2, c2), (35, t3, k3, n3, c3), (34, t4, k4, n4, c4)] (92, t5, k5, n5, c5) (show qtL.Nodup by decide) t tb (qt_other · ·) qt_sz (Nat.le_of_ble_eq_true rfl)
  refine LdN.one (a := some ⟨b, 0, none⟩) (q := 3) (.iface 148 (.pointer (some ⟨tb, 0, none⟩))) rfl (fun w hw => hw.2.1) rfl ?_
  (first | refine wX ?_ | exact wZ)
  refine InvN.intro 205 (.pointer (some ⟨tb, 0, none⟩)) (fun _ => by kernel_rfl) ?_
  have hF : ∀ w : World, SlAt (some ⟨tb, 0, none⟩) (1 * 257) (tabL (tab0 t) (rdL qt 0 [(0, t1, k1, n1, c1), (10, t2, k2, n2, c2), (35, t3, k3, n3, c3), (34, t4, k4, n4, c4), (92, t5, k5, n5, c5)])) w → SlAt (some ⟨t5, 0, none⟩) (5 * 1) (qtL.map fun c => .string (bs [c])) w →
      SlAt (some ⟨n1, 0, none⟩) ((qt 0).length * 1) (u8s (qt 0)) w → SlAt (some ⟨n2, 0, none⟩) ((qt 10).length * 1) (u8s (qt 10)) w → SlAt (some ⟨n3, 0, none⟩) ((qt 35).length * 1) (u8s (qt 35)) w → SlAt (some ⟨n4, 0, none⟩) ((qt 34).length * 1) (u8s (qt 34)) w → SlAt (some ⟨n5, 0, none⟩) ((qt 92).length * 1) (u8s (qt 92)) w →
      TblF qt qtL ⟨tb, tabL (tab0 t) (rdL qt 0 ([(0, t1, k1, n1, c1), (10, t2, k2, n2, c2), (35, t3, k3, n3, c3), (34, t4, k4, n4, c4)] ++ [(92, t5, k5, n5, c5)])), some ⟨t5, 0, none⟩, k5⟩ w := by
    intro w f1 f2 f3 f4 f5 f6 f7
    rw [Nat.mul_one] at f3 f4 f5 f6 f7
    refine ⟨f1, f2, rounds_fact qt [(0, t1, k1, n1, c1), (10, t2, k2, n2, c2), (35, t3, k3, n3, c3), (34, t4, k4, n4, c4), (92, t5, k5, n5, c5)] (show qtL.Nodup by decide) t fun o t' k' n' cap' h => ?_⟩
    simp only [List.mem_cons, Prod.mk.injEq, List.not_mem_nil, or_false] at h
    rcases h with ⟨rfl, _, _, rfl, _⟩ | ⟨rfl, _, _, rfl, _⟩ | ⟨rfl, _, _, rfl, _⟩ | ⟨rfl, _, _, rfl, _⟩ | ⟨rfl, _, _, rfl, _⟩
    · exact f3
    · exact f4
    · exact f5
    · exact f6
    · exact f7
  refine call1 (bsr_c qt qtL _ hD s hs _ fun w hw => hF w hw.2.2.2.1 hw.2.2.1 hw.2.2.2.2.1 hw.2.2.2.2.2.1 hw.2.2.2.2.2.2.1 hw.2.2.2.2.2.2.2.1 hw.2.2.2.2.2.2.2.2.1) ?_
  (first | refine wX ?_ | exact wZ)
  refine ⟨_, hD, rfl, Nat.le_of_ble_eq_true rfl, fun e he => ?_⟩
  rcases List.mem_cons.1 he with rfl | he
  · exact .inl rfl
  · obtain rfl := List.mem_singleton.1 he
    exact .inr ⟨_, rfl, fun w hw => ⟨hw.2.1, hF w hw.2.2.2.1 hw.2.2.1 hw.2.2.2.2.1 hw.2.2.2.2.2.1 hw.2.2.2.2.2.2.1 hw.2.2.2.2.2.2.2.1 hw.2.2.2.2.2.2.2.2.1⟩⟩
end Go.Proofs.YteejemdibfbccaaGreatDoor

/-
  Contract: Quote (program).
-/
namespace Go.Proofs.YteejemdibfbccaaGreatDoor
open Go.AX Go.RowKit Go.Scan
set_option maxRecDepth 20000

theorem Quote_c (s : List UInt8) (hs : s.length ≤ 1000000) : ∀ H : List Ent, SpecH Tryz.prog 22 (pvs [.string (bs s)]) H (Ret (.string (bs (s.flatMap qt))) H) := by
  refine pureC hm Tryz.func22 (by kernel_rfl) rfl rfl ?_
  (first | refine wX ?_ | exact wZ)
  refine SpecH.freeze (callOk Tryz.func41 (by kernel_rfl) rfl) 0 rfl rfl fun b0 cap _ => ?_
  refine SpecH.plain rfl ?_
  refine callG (NewReplacer_c b0 (olnw qt qtL.reverse) cap (by decide) (by decide) (by decide) (by decide)) [0] rfl ⟨rfl, trivial⟩ rfl fun ⟨b, c, k⟩ _ => ?_
  (first | refine wX ?_ | exact wZ)
  refine callG (first_qt s b c k hs) [1, 2] rfl ⟨rfl, rfl, trivial⟩ rfl fun d hd => ?_
  (first | refine wX ?_ | exact wZ)
end Go.Proofs.YteejemdibfbccaaGreatDoor

/-
  Contract: ScanQuote (law).
-/
namespace Go.Proofs.YteejemdibfbccaaGreatDoor
open Go.AX Go.RowKit Go.Scan
set_option maxRecDepth 20000

set_option maxHeartbeats 2000000 in
theorem ScanQuote_c (s : List UInt8) (hs : s.length ≤ 200000000000000) : ∀ H, (∀ w, Facts H w → ScanF w) → SpecH Tryz.prog 6 (pvs [.string (bs s)]) H (Ret (.bool true) H) := by
  refine factC hm Tryz.func6 (by kernel_rfl) rfl rfl ?_
  have hz := bs_size s
  (first | refine wX ?_ | exact wZ)
  rw [hz]
  refine brd_dec (fun h1 => ?_) (fun h1 => ?_)
  · (first | refine wX ?_ | exact wZ)
    refine call1 (sane_c _ (fun w hw => hw.1)) ?_
    (first | refine wX ?_ | exact wZ)
  have hle := flat_le qt_2 s
  (first | refine wX ?_ | exact wZ)
  refine call1 (Quote_c s (by omega) _) ?_
  (first | refine wX ?_ | exact wZ)
  have hq : (s.flatMap qt).length ≤ 10000 := by omega
  generalize hQ : s.flatMap qt = Q at *
  have hzq := bs_size Q
  (first | refine wX ?_ | exact wZ)
  refine Nd.mk (by show 1 + (bs Q).size < _; omega) ?_
  rw [show (⟨#[34]⟩ : ByteArray) = bs [34] from rfl, bs_app]
  (first | refine wX ?_ | exact wZ)
  refine Nd.mk (by first | (rw [bs_size, bs_size]; show _ < _; simp; omega) | (rw [bs_size]; show _ < _; simp; omega)) ?_
  rw [bs_app]
  (first | refine wX ?_ | exact wZ)
  have hqs : [34] ++ Q ++ [34] = quS s := by rw [quS, hQ]; rfl
  rw [hqs]
  refine SpecF.call (ScanQu_c s (quS s) rfl (by rw [quS_len, hQ]; omega)) (fun w hw => hw.1) fun v G hR => ?_
  obtain ⟨b, cp, i, rfl, hG⟩ := hR
  (first | refine wX ?_ | exact wZ)
  refine call1 (RQuote_c s (by omega) _) ?_
  rw [hQ]
  refine brdT (by simp) ?_
  (first | refine wX ?_ | exact wZ)
  try refine Nd.mk ⟨rfl, by decide, by decide⟩ ?_
  (first | refine wX ?_ | exact wZ)
  refine LdN.fld (.int .i64 5) rfl (fun w hw => (hG w hw.2.1).1) (by rfl) ?_
  (first | refine wX ?_ | exact wZ)
  try refine Nd.mk ⟨rfl, by decide, by decide⟩ ?_
  (first | refine wX ?_ | exact wZ)
  refine LdN.fld (.slice (some ⟨i.1, 0, none⟩) 1 i.2) rfl (fun w hw => (hG w hw.2.1).1) (by rfl) ?_
  (first | refine wX ?_ | exact wZ)
  try refine Nd.mk ⟨rfl, by decide, by decide⟩ ?_
  (first | refine wX ?_ | exact wZ)
  refine LdN.fld (.slice (some ⟨i.1, 0, none⟩) 1 i.2) rfl (fun w hw => (hG w hw.2.1).1) (by rfl) ?_
  (first | refine wX ?_ | exact wZ)
  try refine Nd.mk ⟨rfl, by decide, by decide⟩ ?_
  (first | refine wX ?_ | exact wZ)
  refine LdN.fld (.bool false) rfl (fun w hw => (hG w hw.2.1).2) (by rfl) ?_
  (first | refine wX ?_ | exact wZ)
  try refine Nd.mk ⟨rfl, by decide, by decide⟩ ?_
  (first | refine wX ?_ | exact wZ)
  refine LdN.fld (.slice (some ⟨i.1, 0, none⟩) 1 i.2) rfl (fun w hw => (hG w hw.2.1).1) (by rfl) ?_
  (first | refine wX ?_ | exact wZ)
  try refine Nd.mk ⟨rfl, by decide, by decide⟩ ?_
  (first | refine wX ?_ | exact wZ)
  refine LdN.fld (.string (bs s)) rfl (fun w hw => (hG w hw.2.1).2) (by rfl) ?_
  (first | refine wX ?_ | exact wZ)
  refine brdT (by simp) ?_
  (first | refine wX ?_ | exact wZ)
  refine call1 (sane_c _ (fun w hw => hw.1)) ?_
  (first | refine wX ?_ | exact wZ)
end Go.Proofs.YteejemdibfbccaaGreatDoor

/-
  ScanQuoteCardSaid is proved: of every text ScanQuote returns true and leaves its argument as it was; the listed tables are tied to the program's text.
-/
namespace Go.Proofs.YteejemdibfbccaaGreatDoor
open Go.ChangeShapes Go.WideShapes Go.ChangeAt Go.RowKit Go.AX
set_option maxRecDepth 100000

namespace ScanQuote
theorem own : ownKnob Tryz.prog.godebug = none := own0
theorem walk {H : Type} {enc : TypeId × Value → H} (W : World) (base : Nat) (args : Array Value) (ds : List (DataW H)) (p : List MemPlace) (k : Known enc Tryz.prog Tryz.f6 W base args ds p) (_hL : laidMetH Tryz.prog laid3 W) : Walk Tryz.prog 6 args W := by
  obtain ⟨u, rfl⟩ := arr1 (trodAll_len k.trod).2
  obtain ⟨s, rfl, hs⟩ := k.low.string 0 rfl rfl (by kernel_rfl)
  exact walkH [.fact ScanF] (known_scan k.shaped _hL) (ScanQuote_c s.data.toList hs _ fun w hw => hw.1)

theorem lifted (os : Os) (started : os.Started) (H : Type) (enc : TypeId × Value → H) :
    ReturnsInHanded {} Tryz.checked os 6 .any (fun w args => (Rows.scanQuoteSpec.pre enc Tryz.prog Tryz.f6 [] false w args ∧ laidMetH Tryz.prog laid3 w) ∧ sizedMet enc Tryz.prog Tryz.f6 (OpenSpec.ofChange Rows.scanQuoteSpec) false w args) (Rows.scanQuoteSpec.post enc Tryz.prog Tryz.f6 false true false false) := by
  refine liftS (C := Tryz.checked) own started (by kernel_rfl) Tryz.func6
    (ChangeSpec.witness_shaped (enc := enc) (C := Tryz.checked) (os := os) (X := fun w _ => laidMetH Tryz.prog laid3 w) false (World.laidAll Tryz.prog os laid3) #[.string ⟨#[]⟩] 8 (World.laidAll_os _ _ _) (World.shaped_of_ZipB (by kernel_rfl) (by kernel_rfl)) (by kernel_rfl) (by kernel_rfl) (by kernel_rfl) (door_met os _))
    laidOut rfl (t := _) rfl (by kernel_rfl) (by kernel_rfl) ?_ walk
  intro ds hd
  match ds, hd with
  | [d0], _ => rfl

theorem over : Rows.scanQuoteRow.holds Tryz.pinned (OpenSpec.ofChange Rows.scanQuoteSpec) :=
  OpenClaim.holds_of_wide 6 Tryz.f6 rfl rfl rfl rfl rfl rfl rfl ⟨rfl, rfl, rfl, rfl, rfl⟩ rfl rfl rfl rfl rfl (by kernel_rfl) Tryz.func6 (by kernel_rfl)
    (of_decide_eq_true (by kernel_rfl)) (by unfold Func.isWrapper; first | (rw [if_pos (by decide +kernel)]; kernel_rfl) | (rw [if_neg (by decide +kernel)]; exact ⟨rfl, rfl⟩))
    (fun os started H enc _ => lifted os started H enc)

theorem proved : Rows.ScanQuoteCardSaid :=
  Claim7.holds_tied_plain_at .later [] [.data, .listed, .data, .pinned] true (true, "be4aee58048e602317ccd7cfc9fab003b289fbdb7ea25d25a875c2188ac39fb8") true
    over (fun _ h => by cases h) (by kernel_rfl) (fun _ h => by cases h) scanQuote_row_tie rfl ⟨rfl, rfl⟩ (by kernel_rfl) rfl
    (fun f fn hf hfn => by
      obtain rfl : f = 6 := Option.some.inj ((show Tryz.prog.funcNamed "cabochon/cabochonlaw14.ScanQuote" = some 6 by kernel_rfl).symm.trans hf) |>.symm
      obtain rfl : fn = Tryz.f6 := (Option.some.inj (Tryz.func6.symm.trans hfn)).symm
      exact ⟨by kernel_rfl, fun j t ht => by
        have hm : t ∈ Tryz.f6.params.toList := by simpa using Array.mem_of_getElem? ht
        have hall : (Tryz.f6.params.toList.all fun u => !Tryz.prog.wantsStandIn u) = true := by kernel_rfl
        exact (show Tryz.prog.wantsStandIn t = false by simpa using List.all_eq_true.1 hall t hm)⟩)
    (by kernel_rfl)
#print axioms proved
end ScanQuote
end Go.Proofs.YteejemdibfbccaaGreatDoor
