/-
  Lemmas (Q2 O1 O2 LB3 G1 G2 G4 G5 G6 G7).
-/
import Derived.Test.YtfcjgklghgpddaaGreatDoorChecked
import Derived.Tactics
import Derived.Tactics2
import Derived.Defers
import Derived.Laws.Pointers
import Derived.Laws.LoneSync
import Derived.RegionTactic
import Derived.RegionCalls
import Derived.ChangeAlike
import Derived.Test.YtfcjgklghgpddaaGreatDoorHm4
/-
  Contract: (*strings.byteStringReplacer).Replace: each byte replaced by what the table holds.
-/
namespace Go.Proofs.YtfcjgklghgpddaaGreatDoor
open Go.AX Go.RowKit
set_option maxRecDepth 20000

/-- The table's cells. -/
structure Tbl where
  b : Nat
  cells : List Value
  ta : Option Addr
  tcap : Nat
/-- What a table says: the bytes that are replaced, each by its text. -/
structure TblOk (f : UInt8 → List UInt8) (olds : List UInt8) (d : Tbl) : Prop where
  len : d.cells.length = 257
  last : d.cells[256]? = some (.slice d.ta olds.length d.tcap)
  tas : d.ta.isSome = true
  cell : ∀ c : UInt8, (c ∉ olds ∧ f c = [c] ∧ d.cells[c.toNat]? = some (.slice none 0 0)) ∨ (c ∈ olds ∧ ∃ a cap, d.cells[c.toNat]? = some (.slice (some a) (f c).length cap))
  nodup : olds.Nodup
  small : ∀ c, 1 ≤ (f c).length ∧ (f c).length ≤ 6
  few : olds.length ≤ 16
def TblF (f : UInt8 → List UInt8) (olds : List UInt8) (d : Tbl) (w : World) : Prop :=
  SlAt (some ⟨d.b, 0, none⟩) 257 d.cells w ∧ SlAt d.ta olds.length (olds.map fun c => .string (bs [c])) w ∧ ∀ c : UInt8, ∀ a cap, d.cells[c.toNat]? = some (.slice (some a) (f c).length cap) → SlAt (some a) (f c).length (u8s (f c)) w
/-- What the replaced bytes add. -/
def gain (f : UInt8 → List UInt8) (s : List UInt8) : List UInt8 → Nat
  | [] => 0
  | c :: l => s.count c * ((f c).length - 1) + gain f s l
theorem gain_snoc (f : UInt8 → List UInt8) (s : List UInt8) (c : UInt8) : ∀ l, gain f s (l ++ [c]) = gain f s l + s.count c * ((f c).length - 1)
  | [] => by simp [gain]
  | x :: l => by simp only [List.cons_append, gain, gain_snoc f s c l]; omega
theorem gain_take (f : UInt8 → List UInt8) (s : List UInt8) : ∀ (i : Nat) (l : List UInt8), gain f s (l.take i) ≤ gain f s l
  | _, [] => by simp
  | 0, _ :: _ => by simp [gain]
  | i + 1, c :: l => by
    have := gain_take f s i l
    simp only [List.take_succ_cons, gain]
    omega
theorem gain_nil (f : UInt8 → List UInt8) : ∀ l, gain f [] l = 0
  | [] => rfl
  | _ :: l => by simp [gain, gain_nil f l]
theorem gain_cons (f : UInt8 → List UInt8) (a : UInt8) (s : List UInt8) : ∀ l : List UInt8, l.Nodup → gain f (a :: s) l = gain f s l + if a ∈ l then (f a).length - 1 else 0
  | [], _ => by simp [gain]
  | c :: l, h => by
    rw [List.nodup_cons] at h
    have ih := gain_cons f a s l h.2
    simp only [gain, ih, List.count_cons, List.mem_cons]
    by_cases hac : a = c
    · subst hac
      simp [h.1, Nat.add_mul]; omega
    · simp [hac]; omega
theorem gain_app (f : UInt8 → List UInt8) (s t : List UInt8) : ∀ l, gain f (s ++ t) l = gain f s l + gain f t l
  | [] => rfl
  | c :: l => by
    simp only [gain, gain_app f s t l, List.count_append, Nat.add_mul]
    omega
theorem gain_all {f : UInt8 → List UInt8} {olds : List UInt8} {d : Tbl} (hd : TblOk f olds d) : ∀ s, (s.flatMap f).length = s.length + gain f s olds
  | [] => by simp [gain_nil]
  | a :: s => by
    have h1 := (hd.small a).1
    rw [List.flatMap_cons, List.length_append, gain_all hd s, gain_cons f a s olds hd.nodup, List.length_cons]
    rcases hd.cell a with ⟨h2, h3, _⟩ | ⟨h2, _⟩
    · simp [h2, h3]; omega
    · simp [h2]; omega
theorem flat_none {f : UInt8 → List UInt8} {olds : List UInt8} {d : Tbl} (hd : TblOk f olds d) : ∀ s : List UInt8, (s.any fun c => decide (c ∈ olds)) = false → s.flatMap f = s
  | [], _ => rfl
  | a :: s, h => by
    simp only [List.any_cons, Bool.or_eq_false_iff, decide_eq_false_iff_not] at h
    rcases hd.cell a with ⟨_, h3, _⟩ | ⟨h2, _⟩
    · rw [List.flatMap_cons, flat_none hd s h.2, h3]; rfl
    · exact absurd h2 h.1
theorem any_count (s : List UInt8) (l : List UInt8) : (l.any fun c => s.count c != 0) = s.any fun c => decide (c ∈ l) := by
  rw [Bool.eq_iff_iff]
  simp only [List.any_eq_true, decide_eq_true_eq, bne_iff_ne]
  constructor
  · rintro ⟨c, h1, h2⟩
    exact ⟨c, List.count_pos_iff.1 (by omega), h1⟩
  · rintro ⟨c, h1, h2⟩
    exact ⟨c, h2, by have := List.count_pos_iff.2 h1; omega⟩
theorem flat_short {f : UInt8 → List UInt8} {olds : List UInt8} {d : Tbl} (hd : TblOk f olds d) (s : List UInt8) : (s.flatMap f).length ≤ 6 * s.length := by
  induction s with
  | nil => simp
  | cons a s ih =>
    have := (hd.small a).2
    rw [List.flatMap_cons, List.length_append, List.length_cons]
    omega
theorem put_buf (P q : List UInt8) (N : Nat) (_ : P.length + q.length ≤ N) : (u8s P ++ List.replicate (N - P.length) (Value.int .u8 0)).take P.length ++ u8s q ++ (u8s P ++ List.replicate (N - P.length) (Value.int .u8 0)).drop (P.length + q.length) = u8s (P ++ q) ++ List.replicate (N - (P ++ q).length) (Value.int .u8 0) := by
  have e : (u8s P).length = P.length := u8s_len P
  rw [List.take_append_of_le_length (by omega), List.take_of_length_le (by omega), List.drop_append, e, List.drop_of_length_le (by omega), List.nil_append, List.drop_replicate, List.length_append]
  rw [show P.length + q.length - P.length = q.length by omega, show N - P.length - q.length = N - (P.length + q.length) by omega]
  simp [u8s]
theorem bsr_c (f : UInt8 → List UInt8) (olds : List UInt8) (d : Tbl) (hd : TblOk f olds d) (s : List UInt8) (hs : s.length ≤ 1000000) : ∀ H, (∀ w, Facts H w → TblF f olds d w) →
    SpecH Tryz.prog 145 (pvs [.pointer (some ⟨d.b, 0, none⟩), .string (bs s)]) H (Ret (.string (bs (s.flatMap f))) H) := by
  refine factC hm Tryz.func145 (by kernel_rfl) rfl rfl ?_
  ((conv => whnf); (repeat ((first | refine BoxN.own ?_ | refine VrN.norm (wrap_i64 (by omega)) ?_ | refine VrN.keep ?_ | refine DrawN.calm (by decide +kernel) ?_ | refine Nd.mk (by decide +kernel) ?_ | refine Nd.mk (by omega) ?_ | (refine Nd.mk ?_ ?_; focus ((repeat' (first | exact trivial | exact wkE_refl _ | refine And.intro ?_ ?_)); done)) | refine RdN.intro _ rfl (by rfl) ?_); (conv => whnf))))
  refine LdN.one (a := some ⟨d.b, 0, none⟩) (q := 256) (.slice d.ta olds.length d.tcap) rfl (fun w hw => hw.1.1) hd.last ?_
  have hfew := hd.few
  have hz := bs_size s
  have hall := gain_all hd s
  have hsh := flat_short hd s
  ((conv => whnf); (repeat ((first | refine BoxN.own ?_ | refine VrN.norm (wrap_i64 (by omega)) ?_ | refine VrN.keep ?_ | refine DrawN.calm (by decide +kernel) ?_ | refine Nd.mk (by decide +kernel) ?_ | refine Nd.mk (by omega) ?_ | (refine Nd.mk ?_ ?_; focus ((repeat' (first | exact trivial | exact wkE_refl _ | refine And.intro ?_ ?_)); done)) | refine RdN.intro _ rfl (by rfl) ?_); (conv => whnf))))
  rw [hz]
  refine brd_dec (fun h1 => ?_) (fun h1 => ?_)
  · ((conv => whnf); (repeat ((first | refine BoxN.own ?_ | refine VrN.norm (wrap_i64 (by omega)) ?_ | refine VrN.keep ?_ | refine DrawN.calm (by decide +kernel) ?_ | refine Nd.mk (by decide +kernel) ?_ | refine Nd.mk (by omega) ?_ | (refine Nd.mk ?_ ?_; focus ((repeat' (first | exact trivial | exact wkE_refl _ | refine And.intro ?_ ?_)); done)) | refine RdN.intro _ rfl (by rfl) ?_); (conv => whnf))))
    refine LdN.one (a := some ⟨d.b, 0, none⟩) (q := 256) (.slice d.ta olds.length d.tcap) rfl (fun w hw => hw.1.1) hd.last ?_
    ((conv => whnf); (repeat ((first | refine BoxN.own ?_ | refine VrN.norm (wrap_i64 (by omega)) ?_ | refine VrN.keep ?_ | refine DrawN.calm (by decide +kernel) ?_ | refine Nd.mk (by decide +kernel) ?_ | refine Nd.mk (by omega) ?_ | (refine Nd.mk ?_ ?_; focus ((repeat' (first | exact trivial | exact wkE_refl _ | refine And.intro ?_ ?_)); done)) | refine RdN.intro _ rfl (by rfl) ?_); (conv => whnf))))
    refine loopS Nat (fun i => i ≤ olds.length) (fun i => mkS Tryz.f145.ntmps 0 [(0, .c (.v (.pointer (some ⟨d.b, 0, none⟩)))), (1, .c (.v (.string (bs s)))), (5, .c (.v (.int .i64 ((s.length + gain f s (olds.take i) : Nat) : Int)))), (6, .c (.v (.bool ((olds.take i).any fun c => s.count c != 0)))), (30, .c (.v (.slice d.ta olds.length d.tcap))), (31, .c (.v (.int .i64 (olds.length : Int)))), (32, .c (.v (.int .i64 (i : Int))))]) (fun i => olds.length - i) rfl (fun _ => rfl) 0 (Nat.zero_le _) ?_ fun i hi => ?_
    · (repeat' (first | exact trivial | refine And.intro (by with_reducible rfl) ?_ | (with_reducible exact wkC_refl _) | (with_reducible exact wkCs_refl _) | refine And.intro ?_ ?_))
      all_goals first | rfl | (refine av_int ?_; simp [gain]; done)
    ((conv => whnf); (repeat ((first | refine BoxN.own ?_ | refine VrN.norm (wrap_i64 (by omega)) ?_ | refine VrN.keep ?_ | refine DrawN.calm (by decide +kernel) ?_ | refine Nd.mk (by decide +kernel) ?_ | refine Nd.mk (by omega) ?_ | (refine Nd.mk ?_ ?_; focus ((repeat' (first | exact trivial | exact wkE_refl _ | refine And.intro ?_ ?_)); done)) | refine RdN.intro _ rfl (by rfl) ?_); (conv => whnf))))
    refine brd_dec (fun h2 => ?_) (fun h2 => ?_)
    · obtain ⟨c, hc⟩ : ∃ c, olds[i]? = some c := ⟨_, List.getElem?_eq_getElem (by omega)⟩
      have hin : c ∈ olds := List.mem_of_getElem? hc
      have hg := gain_snoc f s c (olds.take i)
      rw [← take_snoc hc] at hg
      ((conv => whnf); (repeat ((first | refine BoxN.own ?_ | refine VrN.norm (wrap_i64 (by omega)) ?_ | refine VrN.keep ?_ | refine DrawN.calm (by decide +kernel) ?_ | refine Nd.mk (by decide +kernel) ?_ | refine Nd.mk (by omega) ?_ | (refine Nd.mk ?_ ?_; focus ((repeat' (first | exact trivial | exact wkE_refl _ | refine And.intro ?_ ?_)); done)) | refine RdN.intro _ rfl (by rfl) ?_); (conv => whnf))))
      refine Nd.mk ⟨hd.tas, by omega, by omega⟩ ?_
      ((conv => whnf); (repeat ((first | refine BoxN.own ?_ | refine VrN.norm (wrap_i64 (by omega)) ?_ | refine VrN.keep ?_ | refine DrawN.calm (by decide +kernel) ?_ | refine Nd.mk (by decide +kernel) ?_ | refine Nd.mk (by omega) ?_ | (refine Nd.mk ?_ ?_; focus ((repeat' (first | exact trivial | exact wkE_refl _ | refine And.intro ?_ ?_)); done)) | refine RdN.intro _ rfl (by rfl) ?_); (conv => whnf))))
      refine LdN.one (.string (bs [c])) rfl (fun w hw => hw.1.2.1) (show (olds.map fun c => Value.string (bs [c]))[i * 1]? = _ by rw [Nat.mul_one]; simp [hc]) ?_
      (((conv => whnf); (repeat ((first | refine BoxN.own ?_ | refine VrN.norm (wrap_i64 (by omega)) ?_ | refine VrN.keep ?_ | refine DrawN.calm (by decide +kernel) ?_ | refine Nd.mk (by decide +kernel) ?_ | refine Nd.mk (by omega) ?_ | (refine Nd.mk ?_ ?_; focus ((repeat' (first | exact trivial | exact wkE_refl _ | refine And.intro ?_ ?_)); done)) | refine RdN.intro _ rfl (by rfl) ?_); (conv => whnf)))); first | refine call1 (Count1_c s c _) ?_ | refine callQ (Count1_c s c _) ?_)
      ((conv => whnf); (repeat ((first | refine BoxN.own ?_ | refine VrN.norm (wrap_i64 (by omega)) ?_ | refine VrN.keep ?_ | refine DrawN.calm (by decide +kernel) ?_ | refine Nd.mk (by decide +kernel) ?_ | refine Nd.mk (by omega) ?_ | (refine Nd.mk ?_ ?_; focus ((repeat' (first | exact trivial | exact wkE_refl _ | refine And.intro ?_ ?_)); done)) | refine RdN.intro _ rfl (by rfl) ?_); (conv => whnf))))
      have hL := hd.small c
      have hcs := List.count_le_length (a := c) (l := s)
      have hany : ((olds.take (i + 1)).any fun c => s.count c != 0) = ((olds.take i).any (fun c => s.count c != 0) || s.count c != 0) := by rw [take_snoc hc, List.any_append]; simp
      have hgb := gain_take f s i olds
      refine brd_ne (fun h3 => ?_) (fun h3 => ?_)
      · obtain ⟨a, cap, ha⟩ : ∃ a cap, d.cells[c.toNat]? = some (.slice (some a) (f c).length cap) := by
          rcases hd.cell c with h | h
          · exact absurd hin h.1
          · exact h.2
        generalize (f c).length = L at *
        ((conv => whnf); (repeat ((first | refine BoxN.own ?_ | refine VrN.norm (wrap_i64 (by omega)) ?_ | refine VrN.keep ?_ | refine DrawN.calm (by decide +kernel) ?_ | refine Nd.mk (by decide +kernel) ?_ | refine Nd.mk (by omega) ?_ | (refine Nd.mk ?_ ?_; focus ((repeat' (first | exact trivial | exact wkE_refl _ | refine And.intro ?_ ?_)); done)) | refine RdN.intro _ rfl (by rfl) ?_); (conv => whnf))))
        refine Nd.mk ⟨by omega, by rw [bs_size]; simp⟩ ?_
        have hb0 : byteAt (bs [c]) (Int.toNat 0) = (c.toNat : Int) := byteAt_get rfl
        have hc256 := c.toNat_lt
        (conv => whnf)
        rw [hb0]
        refine Nd.mk ⟨by omega, by omega⟩ ?_
        ((conv => whnf); (repeat ((first | refine BoxN.own ?_ | refine VrN.norm (wrap_i64 (by omega)) ?_ | refine VrN.keep ?_ | refine DrawN.calm (by decide +kernel) ?_ | refine Nd.mk (by decide +kernel) ?_ | refine Nd.mk (by omega) ?_ | (refine Nd.mk ?_ ?_; focus ((repeat' (first | exact trivial | exact wkE_refl _ | refine And.intro ?_ ?_)); done)) | refine RdN.intro _ rfl (by rfl) ?_); (conv => whnf))))
        refine LdN.fld (a := some ⟨d.b, 0, none⟩) (q := 0) (.slice (some a) L cap) rfl (fun w hw => hw.1.1) (show d.cells[0 + c.toNat * 1]? = _ by simpa using ha) ?_
        (conv => whnf)
        refine VrN.norm (m := ((s.length + gain f s (olds.take (i + 1)) : Nat) : Int)) (by
          have h6 : L = 1 ∨ L = 2 ∨ L = 3 ∨ L = 4 ∨ L = 5 ∨ L = 6 := by omega
          rw [hg]
          rcases h6 with rfl | rfl | rfl | rfl | rfl | rfl <;> (simp (disch := omega) only [wrap_i64]; omega)) ?_
        ((conv => whnf); (repeat ((first | refine BoxN.own ?_ | refine VrN.norm (wrap_i64 (by omega)) ?_ | refine VrN.keep ?_ | refine DrawN.calm (by decide +kernel) ?_ | refine Nd.mk (by decide +kernel) ?_ | refine Nd.mk (by omega) ?_ | (refine Nd.mk ?_ ?_; focus ((repeat' (first | exact trivial | exact wkE_refl _ | refine And.intro ?_ ?_)); done)) | refine RdN.intro _ rfl (by rfl) ?_); (conv => whnf))))
        refine ⟨i + 1, by omega, by omega, ?_, by (repeat' (first | exact trivial | exact wkE_refl _ | refine And.intro ?_ ?_))⟩
        (repeat' (first | exact trivial | refine And.intro (by with_reducible rfl) ?_ | (with_reducible exact wkC_refl _) | (with_reducible exact wkCs_refl _) | refine And.intro ?_ ?_))
        · refine av_bool ?_
          rw [hany]
          have : (s.count c != 0) = true := by simp; omega
          rw [this, Bool.or_true]
        · exact av_int (by rw [wrap_i64 (by omega)]; omega)
      · ((conv => whnf); (repeat ((first | refine BoxN.own ?_ | refine VrN.norm (wrap_i64 (by omega)) ?_ | refine VrN.keep ?_ | refine DrawN.calm (by decide +kernel) ?_ | refine Nd.mk (by decide +kernel) ?_ | refine Nd.mk (by omega) ?_ | (refine Nd.mk ?_ ?_; focus ((repeat' (first | exact trivial | exact wkE_refl _ | refine And.intro ?_ ?_)); done)) | refine RdN.intro _ rfl (by rfl) ?_); (conv => whnf))))
        refine ⟨i + 1, by omega, by omega, ?_, by (repeat' (first | exact trivial | exact wkE_refl _ | refine And.intro ?_ ?_))⟩
        have h0 : s.count c = 0 := by omega
        (repeat' (first | exact trivial | refine And.intro (by with_reducible rfl) ?_ | (with_reducible exact wkC_refl _) | (with_reducible exact wkCs_refl _) | refine And.intro ?_ ?_))
        · refine av_int ?_
          rw [hg, h0]
          simp
        · refine av_bool ?_
          rw [hany, h0]
          simp
        · exact av_int (by rw [wrap_i64 (by omega)]; omega)
    · have hil : i = olds.length := by omega
      subst hil
      rw [List.take_length, any_count, ← hall]
      cases hA : s.any fun c => decide (c ∈ olds) with
      | false =>
        rw [flat_none hd s hA] at *
        ((conv => whnf); (repeat ((first | refine BoxN.own ?_ | refine VrN.norm (wrap_i64 (by omega)) ?_ | refine VrN.keep ?_ | refine DrawN.calm (by decide +kernel) ?_ | refine Nd.mk (by decide +kernel) ?_ | refine Nd.mk (by omega) ?_ | (refine Nd.mk ?_ ?_; focus ((repeat' (first | exact trivial | exact wkE_refl _ | refine And.intro ?_ ?_)); done)) | refine RdN.intro _ rfl (by rfl) ?_); (conv => whnf))))
      | true =>
        generalize hN : (s.flatMap f).length = N at *
        ((conv => whnf); (repeat ((first | refine BoxN.own ?_ | refine VrN.norm (wrap_i64 (by omega)) ?_ | refine VrN.keep ?_ | refine DrawN.calm (by decide +kernel) ?_ | refine Nd.mk (by decide +kernel) ?_ | refine Nd.mk (by omega) ?_ | (refine Nd.mk ?_ ?_; focus ((repeat' (first | exact trivial | exact wkE_refl _ | refine And.intro ?_ ?_)); done)) | refine RdN.intro _ rfl (by rfl) ?_); (conv => whnf))))
        refine EffW.mkBytes N rfl Tryz.underlying22 (by kernel_rfl) rfl rfl (by omega) fun b => ?_
        ((conv => whnf); (repeat ((first | refine BoxN.own ?_ | refine VrN.norm (wrap_i64 (by omega)) ?_ | refine VrN.keep ?_ | refine DrawN.calm (by decide +kernel) ?_ | refine Nd.mk (by decide +kernel) ?_ | refine Nd.mk (by omega) ?_ | (refine Nd.mk ?_ ?_; focus ((repeat' (first | exact trivial | exact wkE_refl _ | refine And.intro ?_ ?_)); done)) | refine RdN.intro _ rfl (by rfl) ?_); (conv => whnf))))
        refine LoopN.intro Nat (fun i => i ≤ s.length) (fun i => mkS Tryz.f145.ntmps 0 [(0, .c (.v (.pointer (some ⟨d.b, 0, none⟩)))), (1, .c (.v (.string (bs s)))), (12, .c (.v (.slice (some ⟨b, 0, none⟩) N N))), (13, .c (.v (.int .i64 (((s.take i).flatMap f).length : Int)))), (14, .c (.v (.int .i64 (i : Int))))])
          (fun i => [.fact (TblF f olds d), .app 5 1 (u8s ((s.take i).flatMap f) ++ List.replicate (N - ((s.take i).flatMap f).length) (.int .u8 0)) (some ⟨b, 0, none⟩) N N]) (fun i => s.length - i) [] rfl
          (fun _ => rfl) (fun _ => rfl) (fun _ _ => okHB_eq rfl) ⟨0, Nat.zero_le _, ?_, wkH_of_eq (by simp [u8s])⟩ ?_
        · (repeat' (first | exact trivial | refine And.intro (by with_reducible rfl) ?_ | (with_reducible exact wkC_refl _) | (with_reducible exact wkCs_refl _) | refine And.intro ?_ ?_))
          all_goals rfl
        intro i hi
        ((conv => whnf); (repeat ((first | refine BoxN.own ?_ | refine VrN.norm (wrap_i64 (by omega)) ?_ | refine VrN.keep ?_ | refine DrawN.calm (by decide +kernel) ?_ | refine Nd.mk (by decide +kernel) ?_ | refine Nd.mk (by omega) ?_ | (refine Nd.mk ?_ ?_; focus ((repeat' (first | exact trivial | exact wkE_refl _ | refine And.intro ?_ ?_)); done)) | refine RdN.intro _ rfl (by rfl) ?_); (conv => whnf))))
        rw [hz]
        refine brd_dec (fun h2 => ?_) (fun h2 => ?_)
        · obtain ⟨c, hc⟩ : ∃ c, s[i]? = some c := ⟨_, List.getElem?_eq_getElem (by omega)⟩
          have hb : byteAt (bs s) (Int.toNat (i : Int)) = (c.toNat : Int) := by rw [Int.toNat_natCast]; exact byteAt_get hc
          have hc256 := c.toNat_lt
          have hnext : (s.take (i + 1)).flatMap f = (s.take i).flatMap f ++ f c := by rw [take_snoc hc, List.flatMap_append]; simp
          have hle : ((s.take (i + 1)).flatMap f).length ≤ N := by
            rw [← hN]
            conv => rhs; rw [← List.take_append_drop (i + 1) s, List.flatMap_append, List.length_append]
            omega
          rw [hnext, List.length_append] at hle
          have hL := hd.small c
          generalize (s.take i).flatMap f = P at *
          ((conv => whnf); (repeat ((first | refine BoxN.own ?_ | refine VrN.norm (wrap_i64 (by omega)) ?_ | refine VrN.keep ?_ | refine DrawN.calm (by decide +kernel) ?_ | refine Nd.mk (by decide +kernel) ?_ | refine Nd.mk (by omega) ?_ | (refine Nd.mk ?_ ?_; focus ((repeat' (first | exact trivial | exact wkE_refl _ | refine And.intro ?_ ?_)); done)) | refine RdN.intro _ rfl (by rfl) ?_); (conv => whnf))))
          rw [hb]
          rcases hd.cell c with ⟨_, hfc, ha⟩ | ⟨_, a, cap, ha⟩
          · refine LdN.fld (a := some ⟨d.b, 0, none⟩) (q := 0) (.slice none 0 0) rfl (fun w hw => hw.1.1) (show d.cells[0 + c.toNat * 1]? = _ by simpa using ha) ?_
            ((conv => whnf); (repeat ((first | refine BoxN.own ?_ | refine VrN.norm (wrap_i64 (by omega)) ?_ | refine VrN.keep ?_ | refine DrawN.calm (by decide +kernel) ?_ | refine Nd.mk (by decide +kernel) ?_ | refine Nd.mk (by omega) ?_ | (refine Nd.mk ?_ ?_; focus ((repeat' (first | exact trivial | exact wkE_refl _ | refine And.intro ?_ ?_)); done)) | refine RdN.intro _ rfl (by rfl) ?_); (conv => whnf))))
            refine Nd.mk ⟨rfl, by omega, by rw [hfc] at hle; simp at hle; omega⟩ ?_
            ((conv => whnf); (repeat ((first | refine BoxN.own ?_ | refine VrN.norm (wrap_i64 (by omega)) ?_ | refine VrN.keep ?_ | refine DrawN.calm (by decide +kernel) ?_ | refine Nd.mk (by decide +kernel) ?_ | refine Nd.mk (by omega) ?_ | (refine Nd.mk ?_ ?_; focus ((repeat' (first | exact trivial | exact wkE_refl _ | refine And.intro ?_ ?_)); done)) | refine RdN.intro _ rfl (by rfl) ?_); (conv => whnf))))
            refine EffW.app (i := 1) (q := P.length) (ys := [.int .u8 (c.toNat : Int)]) rfl (by rw [Int.toNat_natCast]; show AV.c (CV.v (Value.pointer (some ((⟨b, 0, none⟩ : Addr).add (P.length * 1))))) = _; rw [add_lit0, Nat.mul_one]) rfl rfl rfl rfl rfl (by rw [hfc] at hle; simp at hle ⊢; omega) ?_
            ((conv => whnf); (repeat ((first | refine BoxN.own ?_ | refine VrN.norm (wrap_i64 (by omega)) ?_ | refine VrN.keep ?_ | refine DrawN.calm (by decide +kernel) ?_ | refine Nd.mk (by decide +kernel) ?_ | refine Nd.mk (by omega) ?_ | (refine Nd.mk ?_ ?_; focus ((repeat' (first | exact trivial | exact wkE_refl _ | refine And.intro ?_ ?_)); done)) | refine RdN.intro _ rfl (by rfl) ?_); (conv => whnf))))
            refine ⟨i + 1, by omega, by omega, ?_, ⟨wkE_refl _, ?_, wkH_nil _⟩⟩
            · (repeat' (first | exact trivial | refine And.intro (by with_reducible rfl) ?_ | (with_reducible exact wkC_refl _) | (with_reducible exact wkCs_refl _) | refine And.intro ?_ ?_))
              · refine av_int ?_
                rw [hnext, hfc]
                simp
              · exact av_int (by omega)
            · rw [hnext, hfc]
              have e := put_buf P [c] N (by rw [hfc] at hle; exact hle)
              refine .inl ⟨rfl, rfl, ?_, rfl, rfl, rfl⟩
              exact e
          · refine LdN.fld (a := some ⟨d.b, 0, none⟩) (q := 0) (.slice (some a) (f c).length cap) rfl (fun w hw => hw.1.1) (show d.cells[0 + c.toNat * 1]? = _ by simpa using ha) ?_
            ((conv => whnf); (repeat ((first | refine BoxN.own ?_ | refine VrN.norm (wrap_i64 (by omega)) ?_ | refine VrN.keep ?_ | refine DrawN.calm (by decide +kernel) ?_ | refine Nd.mk (by decide +kernel) ?_ | refine Nd.mk (by omega) ?_ | (refine Nd.mk ?_ ?_; focus ((repeat' (first | exact trivial | exact wkE_refl _ | refine And.intro ?_ ?_)); done)) | refine RdN.intro _ rfl (by rfl) ?_); (conv => whnf))))
            refine DrawN.plan [0, 1, 2, 4, 5] [(3, 1), (6, 1), (7, 1), (8, 1), (9, 1)] [(10, 0), (11, 0), (12, 0)] (by decide +kernel) ?_
            ((conv => whnf); (repeat ((first | refine BoxN.own ?_ | refine VrN.norm (wrap_i64 (by omega)) ?_ | refine VrN.keep ?_ | refine DrawN.calm (by decide +kernel) ?_ | refine Nd.mk (by decide +kernel) ?_ | refine Nd.mk (by omega) ?_ | (refine Nd.mk ?_ ?_; focus ((repeat' (first | exact trivial | exact wkE_refl _ | refine And.intro ?_ ?_)); done)) | refine RdN.intro _ rfl (by rfl) ?_); (conv => whnf))))
            refine ReadW.slc_l P.length rfl Tryz.underlying22 (by kernel_rfl) rfl rfl ⟨rfl, by omega, by omega, by omega⟩ ?_
            ((conv => whnf); (repeat ((first | refine BoxN.own ?_ | refine VrN.norm (wrap_i64 (by omega)) ?_ | refine VrN.keep ?_ | refine DrawN.calm (by decide +kernel) ?_ | refine Nd.mk (by decide +kernel) ?_ | refine Nd.mk (by omega) ?_ | (refine Nd.mk ?_ ?_; focus ((repeat' (first | exact trivial | exact wkE_refl _ | refine And.intro ?_ ?_)); done)) | refine RdN.intro _ rfl (by rfl) ?_); (conv => whnf))))
            refine LdN.fld (a := some ⟨d.b, 0, none⟩) (q := 0) (.slice (some a) (f c).length cap) rfl (fun w hw => hw.1.1) (show d.cells[0 + c.toNat * 1]? = _ by simpa using ha) ?_
            ((conv => whnf); (repeat ((first | refine BoxN.own ?_ | refine VrN.norm (wrap_i64 (by omega)) ?_ | refine VrN.keep ?_ | refine DrawN.calm (by decide +kernel) ?_ | refine Nd.mk (by decide +kernel) ?_ | refine Nd.mk (by omega) ?_ | (refine Nd.mk ?_ ?_; focus ((repeat' (first | exact trivial | exact wkE_refl _ | refine And.intro ?_ ?_)); done)) | refine RdN.intro _ rfl (by rfl) ?_); (conv => whnf))))
            refine EffW.copyIn 1 rfl rfl rfl Tryz.underlying22 (by kernel_rfl) rfl rfl rfl (fun w hw => hw.1.2.2 c a cap ha) (by simp [u8s, Value.oneCell']) (by omega) (by omega) ?_
            ((conv => whnf); (repeat ((first | refine BoxN.own ?_ | refine VrN.norm (wrap_i64 (by omega)) ?_ | refine VrN.keep ?_ | refine DrawN.calm (by decide +kernel) ?_ | refine Nd.mk (by decide +kernel) ?_ | refine Nd.mk (by omega) ?_ | (refine Nd.mk ?_ ?_; focus ((repeat' (first | exact trivial | exact wkE_refl _ | refine And.intro ?_ ?_)); done)) | refine RdN.intro _ rfl (by rfl) ?_); (conv => whnf))))
            refine ⟨i + 1, by omega, by omega, ?_, ⟨wkE_refl _, ?_, wkH_nil _⟩⟩
            · (repeat' (first | exact trivial | refine And.intro (by with_reducible rfl) ?_ | (with_reducible exact wkC_refl _) | (with_reducible exact wkCs_refl _) | refine And.intro ?_ ?_))
              · refine av_int ?_
                rw [hnext]
                simp
              · exact av_int (by omega)
            · rw [hnext]
              exact .inl ⟨rfl, rfl, put_buf P (f c) N hle, rfl, rfl, rfl⟩
        · have hil : i = s.length := by omega
          subst hil
          rw [List.take_length, hN, Nat.sub_self, List.replicate_zero, List.append_nil]
          ((conv => whnf); (repeat ((first | refine BoxN.own ?_ | refine VrN.norm (wrap_i64 (by omega)) ?_ | refine VrN.keep ?_ | refine DrawN.calm (by decide +kernel) ?_ | refine Nd.mk (by decide +kernel) ?_ | refine Nd.mk (by omega) ?_ | (refine Nd.mk ?_ ?_; focus ((repeat' (first | exact trivial | exact wkE_refl _ | refine And.intro ?_ ?_)); done)) | refine RdN.intro _ rfl (by rfl) ?_); (conv => whnf))))
          refine ReadW.bytes (s.flatMap f) hN rfl Tryz.underlying22 Tryz.underlying5 Tryz.underlying9 rfl (fun w hw => by have := hw.2.1; rwa [Nat.mul_one] at this) ?_
          ((conv => whnf); (repeat ((first | refine BoxN.own ?_ | refine VrN.norm (wrap_i64 (by omega)) ?_ | refine VrN.keep ?_ | refine DrawN.calm (by decide +kernel) ?_ | refine Nd.mk (by decide +kernel) ?_ | refine Nd.mk (by omega) ?_ | (refine Nd.mk ?_ ?_; focus ((repeat' (first | exact trivial | exact wkE_refl _ | refine And.intro ?_ ?_)); done)) | refine RdN.intro _ rfl (by rfl) ?_); (conv => whnf))))
          rfl
  · ((conv => whnf); (repeat ((first | refine BoxN.own ?_ | refine VrN.norm (wrap_i64 (by omega)) ?_ | refine VrN.keep ?_ | refine DrawN.calm (by decide +kernel) ?_ | refine Nd.mk (by decide +kernel) ?_ | refine Nd.mk (by omega) ?_ | (refine Nd.mk ?_ ?_; focus ((repeat' (first | exact trivial | exact wkE_refl _ | refine And.intro ?_ ?_)); done)) | refine RdN.intro _ rfl (by rfl) ?_); (conv => whnf))))
    refine loopS Nat (fun i => i ≤ s.length) (fun i => mkS Tryz.f145.ntmps 0 [(0, .c (.v (.pointer (some ⟨d.b, 0, none⟩)))), (1, .c (.v (.string (bs s)))), (5, .c (.v (.int .i64 ((s.length + gain f (s.take i) olds : Nat) : Int)))), (6, .c (.v (.bool ((s.take i).any fun c => decide (c ∈ olds))))), (10, .c (.v (.int .i64 (i : Int))))]) (fun i => s.length - i) rfl (fun _ => rfl) 0 (Nat.zero_le _) ?_ fun i hi => ?_
    · (repeat' (first | exact trivial | refine And.intro (by with_reducible rfl) ?_ | (with_reducible exact wkC_refl _) | (with_reducible exact wkCs_refl _) | refine And.intro ?_ ?_))
      all_goals first | rfl | (refine av_int ?_; simp [gain_nil]; done)
    ((conv => whnf); (repeat ((first | refine BoxN.own ?_ | refine VrN.norm (wrap_i64 (by omega)) ?_ | refine VrN.keep ?_ | refine DrawN.calm (by decide +kernel) ?_ | refine Nd.mk (by decide +kernel) ?_ | refine Nd.mk (by omega) ?_ | (refine Nd.mk ?_ ?_; focus ((repeat' (first | exact trivial | exact wkE_refl _ | refine And.intro ?_ ?_)); done)) | refine RdN.intro _ rfl (by rfl) ?_); (conv => whnf))))
    rw [hz]
    refine brd_dec (fun h2 => ?_) (fun h2 => ?_)
    · obtain ⟨c, hc⟩ : ∃ c, s[i]? = some c := ⟨_, List.getElem?_eq_getElem (by omega)⟩
      have hb : byteAt (bs s) (Int.toNat (i : Int)) = (c.toNat : Int) := by rw [Int.toNat_natCast]; exact byteAt_get hc
      have hc256 := c.toNat_lt
      have hg : gain f (s.take (i + 1)) olds = gain f (s.take i) olds + if c ∈ olds then (f c).length - 1 else 0 := by
        rw [take_snoc hc, gain_app f _ _ olds, gain_cons f c [] olds hd.nodup, gain_nil]
        omega
      have hany : ((s.take (i + 1)).any fun c => decide (c ∈ olds)) = ((s.take i).any (fun c => decide (c ∈ olds)) || decide (c ∈ olds)) := by rw [take_snoc hc, List.any_append]; simp
      have hL := hd.small c
      have hgb := gain_all hd (s.take i)
      have hgs := flat_short hd (s.take i)
      have hti : (s.take i).length ≤ s.length := by simp; omega
      ((conv => whnf); (repeat ((first | refine BoxN.own ?_ | refine VrN.norm (wrap_i64 (by omega)) ?_ | refine VrN.keep ?_ | refine DrawN.calm (by decide +kernel) ?_ | refine Nd.mk (by decide +kernel) ?_ | refine Nd.mk (by omega) ?_ | (refine Nd.mk ?_ ?_; focus ((repeat' (first | exact trivial | exact wkE_refl _ | refine And.intro ?_ ?_)); done)) | refine RdN.intro _ rfl (by rfl) ?_); (conv => whnf))))
      rw [hb]
      rcases hd.cell c with ⟨hin, hfc, ha⟩ | ⟨hin, a, cap, ha⟩
      · refine LdN.fld (a := some ⟨d.b, 0, none⟩) (q := 0) (.slice none 0 0) rfl (fun w hw => hw.1.1) (show d.cells[0 + c.toNat * 1]? = _ by simpa using ha) ?_
        ((conv => whnf); (repeat ((first | refine BoxN.own ?_ | refine VrN.norm (wrap_i64 (by omega)) ?_ | refine VrN.keep ?_ | refine DrawN.calm (by decide +kernel) ?_ | refine Nd.mk (by decide +kernel) ?_ | refine Nd.mk (by omega) ?_ | (refine Nd.mk ?_ ?_; focus ((repeat' (first | exact trivial | exact wkE_refl _ | refine And.intro ?_ ?_)); done)) | refine RdN.intro _ rfl (by rfl) ?_); (conv => whnf))))
        refine ⟨i + 1, by omega, by omega, ?_, by (repeat' (first | exact trivial | exact wkE_refl _ | refine And.intro ?_ ?_))⟩
        (repeat' (first | exact trivial | refine And.intro (by with_reducible rfl) ?_ | (with_reducible exact wkC_refl _) | (with_reducible exact wkCs_refl _) | refine And.intro ?_ ?_))
        · refine av_int ?_
          rw [hg]
          simp [hin]
        · refine av_bool ?_
          rw [hany]
          simp [hin]
        · exact av_int (by omega)
      · rw [if_pos hin] at hg
        refine LdN.fld (a := some ⟨d.b, 0, none⟩) (q := 0) (.slice (some a) (f c).length cap) rfl (fun w hw => hw.1.1) (show d.cells[0 + c.toNat * 1]? = _ by simpa using ha) ?_
        ((conv => whnf); (repeat ((first | refine BoxN.own ?_ | refine VrN.norm (wrap_i64 (by omega)) ?_ | refine VrN.keep ?_ | refine DrawN.calm (by decide +kernel) ?_ | refine Nd.mk (by decide +kernel) ?_ | refine Nd.mk (by omega) ?_ | (refine Nd.mk ?_ ?_; focus ((repeat' (first | exact trivial | exact wkE_refl _ | refine And.intro ?_ ?_)); done)) | refine RdN.intro _ rfl (by rfl) ?_); (conv => whnf))))
        refine LdN.fld (a := some ⟨d.b, 0, none⟩) (q := 0) (.slice (some a) (f c).length cap) rfl (fun w hw => hw.1.1) (show d.cells[0 + c.toNat * 1]? = _ by simpa using ha) ?_
        (conv => whnf)
        refine VrN.norm (m := ((s.length + gain f (s.take (i + 1)) olds : Nat) : Int)) (by
          rw [hg, wrap_i64 (x := ((f c).length : Int) - 1) (by omega), wrap_i64 (by omega)]
          omega) ?_
        ((conv => whnf); (repeat ((first | refine BoxN.own ?_ | refine VrN.norm (wrap_i64 (by omega)) ?_ | refine VrN.keep ?_ | refine DrawN.calm (by decide +kernel) ?_ | refine Nd.mk (by decide +kernel) ?_ | refine Nd.mk (by omega) ?_ | (refine Nd.mk ?_ ?_; focus ((repeat' (first | exact trivial | exact wkE_refl _ | refine And.intro ?_ ?_)); done)) | refine RdN.intro _ rfl (by rfl) ?_); (conv => whnf))))
        refine ⟨i + 1, by omega, by omega, ?_, by (repeat' (first | exact trivial | exact wkE_refl _ | refine And.intro ?_ ?_))⟩
        (repeat' (first | exact trivial | refine And.intro (by with_reducible rfl) ?_ | (with_reducible exact wkC_refl _) | (with_reducible exact wkCs_refl _) | refine And.intro ?_ ?_))
        · refine av_bool ?_
          rw [hany]
          simp [hin]
        · exact av_int (by omega)
    · have hil : i = s.length := by omega
      subst hil
      rw [List.take_length, ← hall]
      cases hA : s.any fun c => decide (c ∈ olds) with
      | false =>
        rw [flat_none hd s hA] at *
        ((conv => whnf); (repeat ((first | refine BoxN.own ?_ | refine VrN.norm (wrap_i64 (by omega)) ?_ | refine VrN.keep ?_ | refine DrawN.calm (by decide +kernel) ?_ | refine Nd.mk (by decide +kernel) ?_ | refine Nd.mk (by omega) ?_ | (refine Nd.mk ?_ ?_; focus ((repeat' (first | exact trivial | exact wkE_refl _ | refine And.intro ?_ ?_)); done)) | refine RdN.intro _ rfl (by rfl) ?_); (conv => whnf))))
      | true =>
        generalize hN : (s.flatMap f).length = N at *
        ((conv => whnf); (repeat ((first | refine BoxN.own ?_ | refine VrN.norm (wrap_i64 (by omega)) ?_ | refine VrN.keep ?_ | refine DrawN.calm (by decide +kernel) ?_ | refine Nd.mk (by decide +kernel) ?_ | refine Nd.mk (by omega) ?_ | (refine Nd.mk ?_ ?_; focus ((repeat' (first | exact trivial | exact wkE_refl _ | refine And.intro ?_ ?_)); done)) | refine RdN.intro _ rfl (by rfl) ?_); (conv => whnf))))
        refine EffW.mkBytes N rfl Tryz.underlying22 (by kernel_rfl) rfl rfl (by omega) fun b => ?_
        ((conv => whnf); (repeat ((first | refine BoxN.own ?_ | refine VrN.norm (wrap_i64 (by omega)) ?_ | refine VrN.keep ?_ | refine DrawN.calm (by decide +kernel) ?_ | refine Nd.mk (by decide +kernel) ?_ | refine Nd.mk (by omega) ?_ | (refine Nd.mk ?_ ?_; focus ((repeat' (first | exact trivial | exact wkE_refl _ | refine And.intro ?_ ?_)); done)) | refine RdN.intro _ rfl (by rfl) ?_); (conv => whnf))))
        refine LoopN.intro Nat (fun i => i ≤ s.length) (fun i => mkS Tryz.f145.ntmps 0 [(0, .c (.v (.pointer (some ⟨d.b, 0, none⟩)))), (1, .c (.v (.string (bs s)))), (12, .c (.v (.slice (some ⟨b, 0, none⟩) N N))), (13, .c (.v (.int .i64 (((s.take i).flatMap f).length : Int)))), (14, .c (.v (.int .i64 (i : Int))))])
          (fun i => [.fact (TblF f olds d), .app 5 1 (u8s ((s.take i).flatMap f) ++ List.replicate (N - ((s.take i).flatMap f).length) (.int .u8 0)) (some ⟨b, 0, none⟩) N N]) (fun i => s.length - i) [] rfl
          (fun _ => rfl) (fun _ => rfl) (fun _ _ => okHB_eq rfl) ⟨0, Nat.zero_le _, ?_, wkH_of_eq (by simp [u8s])⟩ ?_
        · (repeat' (first | exact trivial | refine And.intro (by with_reducible rfl) ?_ | (with_reducible exact wkC_refl _) | (with_reducible exact wkCs_refl _) | refine And.intro ?_ ?_))
          all_goals rfl
        intro i hi
        ((conv => whnf); (repeat ((first | refine BoxN.own ?_ | refine VrN.norm (wrap_i64 (by omega)) ?_ | refine VrN.keep ?_ | refine DrawN.calm (by decide +kernel) ?_ | refine Nd.mk (by decide +kernel) ?_ | refine Nd.mk (by omega) ?_ | (refine Nd.mk ?_ ?_; focus ((repeat' (first | exact trivial | exact wkE_refl _ | refine And.intro ?_ ?_)); done)) | refine RdN.intro _ rfl (by rfl) ?_); (conv => whnf))))
        rw [hz]
        refine brd_dec (fun h2 => ?_) (fun h2 => ?_)
        · obtain ⟨c, hc⟩ : ∃ c, s[i]? = some c := ⟨_, List.getElem?_eq_getElem (by omega)⟩
          have hb : byteAt (bs s) (Int.toNat (i : Int)) = (c.toNat : Int) := by rw [Int.toNat_natCast]; exact byteAt_get hc
          have hc256 := c.toNat_lt
          have hnext : (s.take (i + 1)).flatMap f = (s.take i).flatMap f ++ f c := by rw [take_snoc hc, List.flatMap_append]; simp
          have hle : ((s.take (i + 1)).flatMap f).length ≤ N := by
            rw [← hN]
            conv => rhs; rw [← List.take_append_drop (i + 1) s, List.flatMap_append, List.length_append]
            omega
          rw [hnext, List.length_append] at hle
          have hL := hd.small c
          generalize (s.take i).flatMap f = P at *
          ((conv => whnf); (repeat ((first | refine BoxN.own ?_ | refine VrN.norm (wrap_i64 (by omega)) ?_ | refine VrN.keep ?_ | refine DrawN.calm (by decide +kernel) ?_ | refine Nd.mk (by decide +kernel) ?_ | refine Nd.mk (by omega) ?_ | (refine Nd.mk ?_ ?_; focus ((repeat' (first | exact trivial | exact wkE_refl _ | refine And.intro ?_ ?_)); done)) | refine RdN.intro _ rfl (by rfl) ?_); (conv => whnf))))
          rw [hb]
          rcases hd.cell c with ⟨_, hfc, ha⟩ | ⟨_, a, cap, ha⟩
          · refine LdN.fld (a := some ⟨d.b, 0, none⟩) (q := 0) (.slice none 0 0) rfl (fun w hw => hw.1.1) (show d.cells[0 + c.toNat * 1]? = _ by simpa using ha) ?_
            ((conv => whnf); (repeat ((first | refine BoxN.own ?_ | refine VrN.norm (wrap_i64 (by omega)) ?_ | refine VrN.keep ?_ | refine DrawN.calm (by decide +kernel) ?_ | refine Nd.mk (by decide +kernel) ?_ | refine Nd.mk (by omega) ?_ | (refine Nd.mk ?_ ?_; focus ((repeat' (first | exact trivial | exact wkE_refl _ | refine And.intro ?_ ?_)); done)) | refine RdN.intro _ rfl (by rfl) ?_); (conv => whnf))))
            refine Nd.mk ⟨rfl, by omega, by rw [hfc] at hle; simp at hle; omega⟩ ?_
            ((conv => whnf); (repeat ((first | refine BoxN.own ?_ | refine VrN.norm (wrap_i64 (by omega)) ?_ | refine VrN.keep ?_ | refine DrawN.calm (by decide +kernel) ?_ | refine Nd.mk (by decide +kernel) ?_ | refine Nd.mk (by omega) ?_ | (refine Nd.mk ?_ ?_; focus ((repeat' (first | exact trivial | exact wkE_refl _ | refine And.intro ?_ ?_)); done)) | refine RdN.intro _ rfl (by rfl) ?_); (conv => whnf))))
            refine EffW.app (i := 1) (q := P.length) (ys := [.int .u8 (c.toNat : Int)]) rfl (by rw [Int.toNat_natCast]; show AV.c (CV.v (Value.pointer (some ((⟨b, 0, none⟩ : Addr).add (P.length * 1))))) = _; rw [add_lit0, Nat.mul_one]) rfl rfl rfl rfl rfl (by rw [hfc] at hle; simp at hle ⊢; omega) ?_
            ((conv => whnf); (repeat ((first | refine BoxN.own ?_ | refine VrN.norm (wrap_i64 (by omega)) ?_ | refine VrN.keep ?_ | refine DrawN.calm (by decide +kernel) ?_ | refine Nd.mk (by decide +kernel) ?_ | refine Nd.mk (by omega) ?_ | (refine Nd.mk ?_ ?_; focus ((repeat' (first | exact trivial | exact wkE_refl _ | refine And.intro ?_ ?_)); done)) | refine RdN.intro _ rfl (by rfl) ?_); (conv => whnf))))
            refine ⟨i + 1, by omega, by omega, ?_, ⟨wkE_refl _, ?_, wkH_nil _⟩⟩
            · (repeat' (first | exact trivial | refine And.intro (by with_reducible rfl) ?_ | (with_reducible exact wkC_refl _) | (with_reducible exact wkCs_refl _) | refine And.intro ?_ ?_))
              · refine av_int ?_
                rw [hnext, hfc]
                simp
              · exact av_int (by omega)
            · rw [hnext, hfc]
              have e := put_buf P [c] N (by rw [hfc] at hle; exact hle)
              refine .inl ⟨rfl, rfl, ?_, rfl, rfl, rfl⟩
              exact e
          · refine LdN.fld (a := some ⟨d.b, 0, none⟩) (q := 0) (.slice (some a) (f c).length cap) rfl (fun w hw => hw.1.1) (show d.cells[0 + c.toNat * 1]? = _ by simpa using ha) ?_
            ((conv => whnf); (repeat ((first | refine BoxN.own ?_ | refine VrN.norm (wrap_i64 (by omega)) ?_ | refine VrN.keep ?_ | refine DrawN.calm (by decide +kernel) ?_ | refine Nd.mk (by decide +kernel) ?_ | refine Nd.mk (by omega) ?_ | (refine Nd.mk ?_ ?_; focus ((repeat' (first | exact trivial | exact wkE_refl _ | refine And.intro ?_ ?_)); done)) | refine RdN.intro _ rfl (by rfl) ?_); (conv => whnf))))
            refine DrawN.plan [0, 1, 2, 4, 5] [(3, 1), (6, 1), (7, 1), (8, 1), (9, 1)] [(10, 0), (11, 0), (12, 0)] (by decide +kernel) ?_
            ((conv => whnf); (repeat ((first | refine BoxN.own ?_ | refine VrN.norm (wrap_i64 (by omega)) ?_ | refine VrN.keep ?_ | refine DrawN.calm (by decide +kernel) ?_ | refine Nd.mk (by decide +kernel) ?_ | refine Nd.mk (by omega) ?_ | (refine Nd.mk ?_ ?_; focus ((repeat' (first | exact trivial | exact wkE_refl _ | refine And.intro ?_ ?_)); done)) | refine RdN.intro _ rfl (by rfl) ?_); (conv => whnf))))
            refine ReadW.slc_l P.length rfl Tryz.underlying22 (by kernel_rfl) rfl rfl ⟨rfl, by omega, by omega, by omega⟩ ?_
            ((conv => whnf); (repeat ((first | refine BoxN.own ?_ | refine VrN.norm (wrap_i64 (by omega)) ?_ | refine VrN.keep ?_ | refine DrawN.calm (by decide +kernel) ?_ | refine Nd.mk (by decide +kernel) ?_ | refine Nd.mk (by omega) ?_ | (refine Nd.mk ?_ ?_; focus ((repeat' (first | exact trivial | exact wkE_refl _ | refine And.intro ?_ ?_)); done)) | refine RdN.intro _ rfl (by rfl) ?_); (conv => whnf))))
            refine LdN.fld (a := some ⟨d.b, 0, none⟩) (q := 0) (.slice (some a) (f c).length cap) rfl (fun w hw => hw.1.1) (show d.cells[0 + c.toNat * 1]? = _ by simpa using ha) ?_
            ((conv => whnf); (repeat ((first | refine BoxN.own ?_ | refine VrN.norm (wrap_i64 (by omega)) ?_ | refine VrN.keep ?_ | refine DrawN.calm (by decide +kernel) ?_ | refine Nd.mk (by decide +kernel) ?_ | refine Nd.mk (by omega) ?_ | (refine Nd.mk ?_ ?_; focus ((repeat' (first | exact trivial | exact wkE_refl _ | refine And.intro ?_ ?_)); done)) | refine RdN.intro _ rfl (by rfl) ?_); (conv => whnf))))
            refine EffW.copyIn 1 rfl rfl rfl Tryz.underlying22 (by kernel_rfl) rfl rfl rfl (fun w hw => hw.1.2.2 c a cap ha) (by simp [u8s, Value.oneCell']) (by omega) (by omega) ?_
            ((conv => whnf); (repeat ((first | refine BoxN.own ?_ | refine VrN.norm (wrap_i64 (by omega)) ?_ | refine VrN.keep ?_ | refine DrawN.calm (by decide +kernel) ?_ | refine Nd.mk (by decide +kernel) ?_ | refine Nd.mk (by omega) ?_ | (refine Nd.mk ?_ ?_; focus ((repeat' (first | exact trivial | exact wkE_refl _ | refine And.intro ?_ ?_)); done)) | refine RdN.intro _ rfl (by rfl) ?_); (conv => whnf))))
            refine ⟨i + 1, by omega, by omega, ?_, ⟨wkE_refl _, ?_, wkH_nil _⟩⟩
            · (repeat' (first | exact trivial | refine And.intro (by with_reducible rfl) ?_ | (with_reducible exact wkC_refl _) | (with_reducible exact wkCs_refl _) | refine And.intro ?_ ?_))
              · refine av_int ?_
                rw [hnext]
                simp
              · exact av_int (by omega)
            · rw [hnext]
              exact .inl ⟨rfl, rfl, put_buf P (f c) N hle, rfl, rfl, rfl⟩
        · have hil : i = s.length := by omega
          subst hil
          rw [List.take_length, hN, Nat.sub_self, List.replicate_zero, List.append_nil]
          ((conv => whnf); (repeat ((first | refine BoxN.own ?_ | refine VrN.norm (wrap_i64 (by omega)) ?_ | refine VrN.keep ?_ | refine DrawN.calm (by decide +kernel) ?_ | refine Nd.mk (by decide +kernel) ?_ | refine Nd.mk (by omega) ?_ | (refine Nd.mk ?_ ?_; focus ((repeat' (first | exact trivial | exact wkE_refl _ | refine And.intro ?_ ?_)); done)) | refine RdN.intro _ rfl (by rfl) ?_); (conv => whnf))))
          refine ReadW.bytes (s.flatMap f) hN rfl Tryz.underlying22 Tryz.underlying5 Tryz.underlying9 rfl (fun w hw => by have := hw.2.1; rwa [Nat.mul_one] at this) ?_
          ((conv => whnf); (repeat ((first | refine BoxN.own ?_ | refine VrN.norm (wrap_i64 (by omega)) ?_ | refine VrN.keep ?_ | refine DrawN.calm (by decide +kernel) ?_ | refine Nd.mk (by decide +kernel) ?_ | refine Nd.mk (by omega) ?_ | (refine Nd.mk ?_ ?_; focus ((repeat' (first | exact trivial | exact wkE_refl _ | refine And.intro ?_ ?_)); done)) | refine RdN.intro _ rfl (by rfl) ?_); (conv => whnf))))
          rfl
end Go.Proofs.YtfcjgklghgpddaaGreatDoor

/-
  sync.Once, one goroutine: the parts of its slow road, after the kit's worked LazyParts.
-/
namespace Go.Proofs.YtfcjgklghgpddaaGreatDoor
set_option maxRecDepth 100000
set_option maxHeartbeats 1600000

theorem disable (w : World) : (callFunc 102 #[]).run Tryz.prog w = .ok (.value (.tuple #[])) w := run_call_mark0 Tryz.func102 (by kernel_rfl) (by kernel_rfl) (by kernel_rfl) .disable (by kernel_rfl) w
theorem enable (w : World) : (callFunc 104 #[]).run Tryz.prog w = .ok (.value (.tuple #[])) w := run_call_mark0 Tryz.func104 (by kernel_rfl) (by kernel_rfl) (by kernel_rfl) .enable (by kernel_rfl) w
theorem acquire (a : Addr) (w : World) : (callFunc 105 #[.pointer (some a)]).run Tryz.prog w = .ok (.value (.tuple #[])) w := run_call_marked Tryz.func105 (by kernel_rfl) (by kernel_rfl) (by kernel_rfl) .acquire (by kernel_rfl) a w
theorem releaseMerge (a : Addr) (w : World) : (callFunc 107 #[.pointer (some a)]).run Tryz.prog w = .ok (.value (.tuple #[])) w := run_call_marked Tryz.func107 (by kernel_rfl) (by kernel_rfl) (by kernel_rfl) .releaseMerge (by kernel_rfl) a w

/-- '(*sync/atomic.Bool).Store(true)', entered as a deferred call: the cell holds 1. -/
theorem store_deferred (a : Addr) (x : Value) (u : FrameMode) (w : World) (hc : w.cell? a = some x) (hz : w.frozen? a = false) :
    CallsD Tryz.prog 75 #[.pointer (some a), .bool true] u w fun e u' w' => u' = u ∧ (e = .returned (.tuple #[]) ∧ w' = w.drew.setCell a (.int .u32 1)) := by
  have hc' : w.drew.cell? a = some x := by go_simp
  have hz' : w.drew.frozen? a = false := by go_simp
  have hst := run_call_store (P := Tryz.prog) Tryz.func90 (by kernel_rfl) (by kernel_rfl) (by kernel_rfl) (by kernel_rfl) (k := .u32) (y := 1) hc' hz'
  go_enter_d Tryz.func75, Tryz.ntmps75
  go_wp2
  go_region_calls
  all_goals (go_end0; exact ⟨rfl, rfl⟩)

/-- '(*sync.Mutex).Unlock', entered as a deferred call, the lock held and nobody waiting (state 1): state 0. -/
theorem unlock_deferred (a : Addr) (u : FrameMode) (w : World) (hc : w.cell? a = some (.int .i32 1)) (hz : w.frozen? a = false) :
    CallsD Tryz.prog 74 #[.pointer (some a)] u w fun e u' w' => u' = u ∧ (e = .returned (.tuple #[]) ∧ w' = w.setCell a (.int .i32 0)) := by
  have hd := disable
  have he := enable
  have hr := releaseMerge
  have hadd := run_call_add (P := Tryz.prog) Tryz.func108 (by kernel_rfl) (by kernel_rfl) (by kernel_rfl) .i32 (by kernel_rfl) (y := -1) (s := 0) hc hz (by simp [go_sem]; rfl)
  have hcv := run_convert_to_unsafe (P := Tryz.prog) (src := 150) (dst := 102) Tryz.underlying150 Tryz.underlying102 (by kernel_rfl) hc
  go_enter_d Tryz.func74, Tryz.ntmps74
  go_wp2
  go_end0
  go_wp2
  go_end0
  exact ⟨rfl, rfl⟩

/-- '(*sync.Mutex).Lock', the lock free (state 0): state 1. -/
theorem lock_free (a : Addr) (w : World) (hc : w.cell? a = some (.int .i32 0)) (hz : w.frozen? a = false) :
    Calls Tryz.prog 73 #[.pointer (some a)] w fun e w' => e = .returned (.tuple #[]) ∧ w' = w.setCell a (.int .i32 1) := by
  have hd := disable
  have he := enable
  have ha := acquire
  have hcas := run_call_cas_hit (P := Tryz.prog) Tryz.func103 (by kernel_rfl) (by kernel_rfl) (by kernel_rfl) .i32 (by kernel_rfl) (y := 1) hc hz
  have hc' : (w.setCell a (.int .i32 1)).cell? a = some (.int .i32 1) := World.cell?_setCell_same w a _ hc
  have hcv := run_convert_to_unsafe (P := Tryz.prog) (src := 150) (dst := 102) Tryz.underlying150 Tryz.underlying102 (by kernel_rfl) hc'
  go_enter Tryz.func73, Tryz.ntmps73
  go_wp2
  first | go_end0 | (simp only [Exit.inBlock, Exit.then]; refine bodyPost_ret (results_none rfl _ _ _) rfl ?_) | refine bodyPost_ret (results_none rfl _ _ _) rfl ?_
  go_wp2
  go_end0
  exact ⟨rfl, rfl⟩
end Go.Proofs.YtfcjgklghgpddaaGreatDoor

/-
  sync.Once, one goroutine: Do, not yet done and its lock free, of a function by its contract; Do, done already.
-/
namespace Go.Proofs.YtfcjgklghgpddaaGreatDoor
set_option maxRecDepth 100000
set_option maxHeartbeats 3200000

theorem slow_do (b off : Nat) (p : Value) (Q : World → Prop) (w : World)
    (h0 : w.cell? ⟨b, off, none⟩ = some (.int .u32 0)) (h1 : w.cell? ⟨b, off + 1, none⟩ = some (.int .i32 0))
    (f1 : w.frozen? ⟨b, off + 1, none⟩ = false)
    (hf : Calls Tryz.prog 38 #[p] (w.setCell ⟨b, off + 1, none⟩ (.int .i32 1)) fun e w2 => e = .returned (.tuple #[]) ∧ Q w2)
    (hQ : ∀ w2, Q w2 → (∃ x, w2.cell? ⟨b, off, none⟩ = some x) ∧ w2.cell? ⟨b, off + 1, none⟩ = some (.int .i32 1) ∧ w2.frozen? ⟨b, off, none⟩ = false ∧ w2.frozen? ⟨b, off + 1, none⟩ = false) :
    Calls Tryz.prog 60 #[.pointer (some ⟨b, off, none⟩), .func (.func 38) #[p] #[]] w fun e w' => e = .returned (.tuple #[]) ∧
      ∃ w2, Q w2 ∧ w' = (w2.drew.setCell ⟨b, off, none⟩ (.int .u32 1)).setCell ⟨b, off + 1, none⟩ (.int .i32 0) := by
  have hl := run_call_load (P := Tryz.prog) Tryz.func72 (by kernel_rfl) (by kernel_rfl) (by kernel_rfl) .u32 (by kernel_rfl) (w := w.setCell ⟨b, off + 1, none⟩ (.int .i32 1)) (a := ⟨b, off, none⟩) (x := 0) ((World.cell?_setCell_other _ ⟨b, off + 1, none⟩ ⟨b, off, none⟩ _ (by simp)).trans h0)
  have hnot : ∀ (x : Bool) (w : World), (Op.unary .not (.bool x)).run Tryz.prog w = .ok (.bool (!x)) w := fun _ _ => rfl
  go_enter_defers Tryz.func60, Tryz.ntmps60
  go_wp2_with (go_at_call 73; refine (lock_free ⟨b, off + 1, none⟩ _ (by go_simp) (by go_simp)).mono ?_; rintro e w' ⟨rfl, rfl⟩)
  go_wp2_with (first | (go_at_call 38; refine hf.mono ?_; rintro e w2 ⟨rfl, hq⟩) | (go_at_call 59; go_in))
  obtain ⟨⟨x, hx⟩, hm, z0, z1⟩ := hQ w2 hq
  go_wp2
  refine leaves_cons (f := 75) (args := #[.pointer (some ⟨b, off, none⟩), .bool true]) (by simp) (by simp [go_sem]) ?_
  refine (store_deferred ⟨b, off, none⟩ x .returning _ hx z0).mono ?_
  rintro e u' w'' ⟨rfl, rfl, rfl⟩
  refine leaves_cons (f := 74) (args := #[.pointer (some ⟨b, off + 1, none⟩)]) (by simp [settle]) (by simp [go_sem]) ?_
  refine (unlock_deferred ⟨b, off + 1, none⟩ _ _ ?_ (by simp [z1])).mono ?_
  · refine (World.cell?_setCell_other _ ⟨b, off, none⟩ ⟨b, off + 1, none⟩ _ (by simp)).trans ?_
    rw [World.cell?_drew]
    exact hm
  rintro e u' w'' ⟨rfl, rfl, rfl⟩
  simp [Leaves, settle, results, Tryz.results60]
  exact ⟨w2, hq, rfl⟩
/-- Not yet done, the lock free. -/
theorem do_first (b off : Nat) (p : Value) (Q : World → Prop) (w : World)
    (h0 : w.cell? ⟨b, off, none⟩ = some (.int .u32 0)) (h1 : w.cell? ⟨b, off + 1, none⟩ = some (.int .i32 0))
    (f1 : w.frozen? ⟨b, off + 1, none⟩ = false)
    (hf : Calls Tryz.prog 38 #[p] (w.setCell ⟨b, off + 1, none⟩ (.int .i32 1)) fun e w2 => e = .returned (.tuple #[]) ∧ Q w2)
    (hQ : ∀ w2, Q w2 → (∃ x, w2.cell? ⟨b, off, none⟩ = some x) ∧ w2.cell? ⟨b, off + 1, none⟩ = some (.int .i32 1) ∧ w2.frozen? ⟨b, off, none⟩ = false ∧ w2.frozen? ⟨b, off + 1, none⟩ = false) :
    Calls Tryz.prog 37 #[.pointer (some ⟨b, off, none⟩), .func (.func 38) #[p] #[]] w fun e w' => e = .returned (.tuple #[]) ∧
      ∃ w2, Q w2 ∧ w' = (w2.drew.setCell ⟨b, off, none⟩ (.int .u32 1)).setCell ⟨b, off + 1, none⟩ (.int .i32 0) := by
  have hl := run_call_load (P := Tryz.prog) Tryz.func72 (by kernel_rfl) (by kernel_rfl) (by kernel_rfl) .u32 (by kernel_rfl) h0
  have hnot : ∀ (x : Bool) (w : World), (Op.unary .not (.bool x)).run Tryz.prog w = .ok (.bool (!x)) w := fun _ _ => rfl
  go_enter Tryz.func37, Tryz.ntmps37
  go_wp2_with (first | (go_at_call 60; refine (slow_do b off p Q _ h0 h1 f1 hf hQ).mono ?_; rintro e w' ⟨rfl, hq⟩) | (go_at_call 59; go_in))
  go_end0
  exact ⟨rfl, hq⟩
/-- Done already: the function is not called. -/
theorem do_done (a : Addr) (d : Int) (hd : ¬ d = 0) (fv : Value) (w : World) (h0 : w.cell? a = some (.int .u32 d)) :
    Calls Tryz.prog 37 #[.pointer (some a), fv] w fun e w' => e = .returned (.tuple #[]) ∧ w' = w := by
  have hl := run_call_load (P := Tryz.prog) Tryz.func72 (by kernel_rfl) (by kernel_rfl) (by kernel_rfl) .u32 (by kernel_rfl) h0
  have hnot : ∀ (x : Bool) (w : World), (Op.unary .not (.bool x)).run Tryz.prog w = .ok (.bool (!x)) w := fun _ _ => rfl
  have hd' : (d != 0) = true := by simp [hd]
  go_enter Tryz.func37, Tryz.ntmps37
  go_wp2
  go_end0
  exact ⟨rfl, rfl⟩
end Go.Proofs.YtfcjgklghgpddaaGreatDoor

/-
  Contracts: the last place of a byte; blanks trimmed.
-/
namespace Go.Proofs.YtfcjgklghgpddaaGreatDoor
open Go.AX Go.RowKit
set_option maxRecDepth 20000

/-- The last place of a byte among the first k. -/
def lastAt (s : List UInt8) (c : UInt8) : Nat → Int
  | 0 => -1
  | k + 1 => if s[k]? = some c then (k : Int) else lastAt s c k
theorem lastAt_ge (s : List UInt8) (c : UInt8) : ∀ k, -1 ≤ lastAt s c k ∧ lastAt s c k < k
  | 0 => by simp [lastAt]
  | k + 1 => by
    have := lastAt_ge s c k
    unfold lastAt
    split <;> omega
theorem LastIndexByteString_c (s : List UInt8) (c : UInt8) (hs : s.length ≤ 1000000000) : ∀ H, SpecH Tryz.prog 85 (pvs [.string (bs s), .int .u8 (c.toNat : Int)]) H (Ret (.int .i64 (lastAt s c s.length)) H) := by
  refine pureC hm Tryz.func85 (by kernel_rfl) rfl rfl ?_
  ((conv => whnf); (repeat ((first | refine BoxN.own ?_ | refine VrN.norm (wrap_i64 (by omega)) ?_ | refine VrN.keep ?_ | refine DrawN.calm (by decide +kernel) ?_ | refine Nd.mk (by decide +kernel) ?_ | refine Nd.mk (by omega) ?_ | (refine Nd.mk ?_ ?_; focus ((repeat' (first | exact trivial | exact wkE_refl _ | refine And.intro ?_ ?_)); done)) | refine RdN.intro _ rfl (by rfl) ?_); (conv => whnf))))
  refine loopS Nat (fun k => k ≤ s.length ∧ lastAt s c k = lastAt s c s.length) (fun k => mkS Tryz.f85.ntmps 0 [(0, .c (.v (.string (bs s)))), (1, .c (.v (.int .u8 (c.toNat : Int)))), (5, .c (.v (.int .i64 ((k : Int) - 1))))]) (fun k => k) rfl (fun _ => rfl) s.length ⟨by omega, rfl⟩ ?_ fun k ⟨hk, he⟩ => ?_
  · (repeat' (first | exact trivial | refine And.intro (by with_reducible rfl) ?_ | (with_reducible exact wkC_refl _) | (with_reducible exact wkCs_refl _) | refine And.intro ?_ ?_))
    exact av_int (by simp (disch := omega) only [bs_size, wrap_i64])
  by_cases hk0 : k = 0
  · subst hk0
    ((conv => whnf); (repeat ((first | refine BoxN.own ?_ | refine VrN.norm (wrap_i64 (by omega)) ?_ | refine VrN.keep ?_ | refine DrawN.calm (by decide +kernel) ?_ | refine Nd.mk (by decide +kernel) ?_ | refine Nd.mk (by omega) ?_ | (refine Nd.mk ?_ ?_; focus ((repeat' (first | exact trivial | exact wkE_refl _ | refine And.intro ?_ ?_)); done)) | refine RdN.intro _ rfl (by rfl) ?_); (conv => whnf))))
    rw [← he]; rfl
  · obtain ⟨k, rfl⟩ : ∃ j, k = j + 1 := ⟨k - 1, by omega⟩
    ((conv => whnf); (repeat ((first | refine BoxN.own ?_ | refine VrN.norm (wrap_i64 (by omega)) ?_ | refine VrN.keep ?_ | refine DrawN.calm (by decide +kernel) ?_ | refine Nd.mk (by decide +kernel) ?_ | refine Nd.mk (by omega) ?_ | (refine Nd.mk ?_ ?_; focus ((repeat' (first | exact trivial | exact wkE_refl _ | refine And.intro ?_ ?_)); done)) | refine RdN.intro _ rfl (by rfl) ?_); (conv => whnf))))
    have hc : ∃ x, s[k]? = some x := ⟨_, List.getElem?_eq_getElem (by omega)⟩
    obtain ⟨x, hc⟩ := hc
    have hbx := byteAt_get hc
    refine brd_dec (fun _ => ?_) (fun h => by omega)
    ((conv => whnf); (repeat ((first | refine BoxN.own ?_ | refine VrN.norm (wrap_i64 (by omega)) ?_ | refine VrN.keep ?_ | refine DrawN.calm (by decide +kernel) ?_ | refine Nd.mk (by decide +kernel) ?_ | refine Nd.mk (by omega) ?_ | (refine Nd.mk ?_ ?_; focus ((repeat' (first | exact trivial | exact wkE_refl _ | refine And.intro ?_ ?_)); done)) | refine RdN.intro _ rfl (by rfl) ?_); (conv => whnf))))
    refine Nd.mk ⟨by omega, by rw [bs_size]; omega⟩ ?_
    rw [show (((k + 1 : Nat) : Int) - 1).toNat = k by omega, hbx]
    ((conv => whnf); (repeat ((first | refine BoxN.own ?_ | refine VrN.norm (wrap_i64 (by omega)) ?_ | refine VrN.keep ?_ | refine DrawN.calm (by decide +kernel) ?_ | refine Nd.mk (by decide +kernel) ?_ | refine Nd.mk (by omega) ?_ | (refine Nd.mk ?_ ?_; focus ((repeat' (first | exact trivial | exact wkE_refl _ | refine And.intro ?_ ?_)); done)) | refine RdN.intro _ rfl (by rfl) ?_); (conv => whnf))))
    refine brd_eq (fun h => ?_) (fun h => ?_)
    · have hx : x = c := UInt8.toNat_inj.1 (by omega)
      subst hx
      ((conv => whnf); (repeat ((first | refine BoxN.own ?_ | refine VrN.norm (wrap_i64 (by omega)) ?_ | refine VrN.keep ?_ | refine DrawN.calm (by decide +kernel) ?_ | refine Nd.mk (by decide +kernel) ?_ | refine Nd.mk (by omega) ?_ | (refine Nd.mk ?_ ?_; focus ((repeat' (first | exact trivial | exact wkE_refl _ | refine And.intro ?_ ?_)); done)) | refine RdN.intro _ rfl (by rfl) ?_); (conv => whnf))))
      rw [← he, lastAt, if_pos hc]
      exact out_int (by omega)
    · ((conv => whnf); (repeat ((first | refine BoxN.own ?_ | refine VrN.norm (wrap_i64 (by omega)) ?_ | refine VrN.keep ?_ | refine DrawN.calm (by decide +kernel) ?_ | refine Nd.mk (by decide +kernel) ?_ | refine Nd.mk (by omega) ?_ | (refine Nd.mk ?_ ?_; focus ((repeat' (first | exact trivial | exact wkE_refl _ | refine And.intro ?_ ?_)); done)) | refine RdN.intro _ rfl (by rfl) ?_); (conv => whnf))))
      refine ⟨k, ⟨by omega, ?_⟩, by omega, ?_, by (repeat' (first | exact trivial | exact wkE_refl _ | refine And.intro ?_ ?_))⟩
      · rw [← he, lastAt, if_neg (fun h2 => h (by rw [hc] at h2; cases h2; rfl))]
      · (repeat' (first | exact trivial | refine And.intro (by with_reducible rfl) ?_ | (with_reducible exact wkC_refl _) | (with_reducible exact wkCs_refl _) | refine And.intro ?_ ?_))
        exact av_int (by omega)
theorem LastIndexByte_c (s : List UInt8) (c : UInt8) (hs : s.length ≤ 1000000000) : ∀ H, SpecH Tryz.prog 68 (pvs [.string (bs s), .int .u8 (c.toNat : Int)]) H (Ret (.int .i64 (lastAt s c s.length)) H) := by
  refine pureC hm Tryz.func68 (by kernel_rfl) rfl rfl ?_
  ((conv => whnf); (repeat ((first | refine BoxN.own ?_ | refine VrN.norm (wrap_i64 (by omega)) ?_ | refine VrN.keep ?_ | refine DrawN.calm (by decide +kernel) ?_ | refine Nd.mk (by decide +kernel) ?_ | refine Nd.mk (by omega) ?_ | (refine Nd.mk ?_ ?_; focus ((repeat' (first | exact trivial | exact wkE_refl _ | refine And.intro ?_ ?_)); done)) | refine RdN.intro _ rfl (by rfl) ?_); (conv => whnf)))); refine call1 (LastIndexByteString_c s c hs _) ?_
  ((conv => whnf); (repeat ((first | refine BoxN.own ?_ | refine VrN.norm (wrap_i64 (by omega)) ?_ | refine VrN.keep ?_ | refine DrawN.calm (by decide +kernel) ?_ | refine Nd.mk (by decide +kernel) ?_ | refine Nd.mk (by omega) ?_ | (refine Nd.mk ?_ ?_; focus ((repeat' (first | exact trivial | exact wkE_refl _ | refine And.intro ?_ ?_)); done)) | refine RdN.intro _ rfl (by rfl) ?_); (conv => whnf))))

/-! ### Sets of bytes -/
/-- A table of truth values by byte. -/
def TabB (xs : List Value) (p : UInt8 → Bool) : Prop := ∀ c : UInt8, xs[c.toNat]? = some (.bool (p c))
theorem rnCs_vs (σ : List Nat) (N : Nat) : ∀ xs : List Value, rnCs σ N (vs xs) = vs xs
  | [] => rfl
  | x :: xs => by simp [vs, rnCs, rnC, rnCs_vs σ N xs]
theorem contains_c (T : TypeId) (xs : List Value) (p : UInt8 → Bool) (hp : TabB xs p) (c : UInt8) : SpecH Tryz.prog 69 [.c (.lp 0 0), .c (.v (.int .u8 (c.toNat : Int)))] [.blk T (vs xs)]
    (RetG (ι := Unit) (fun _ => True) (fun _ => .bool (p c)) fun _ => [.blk T (vs xs)]) := by
  refine ownC hm Tryz.func69 (by kernel_rfl) rfl rfl (fun _ _ => ⟨okCs_vs _ xs, trivial⟩) (fun _ _ => Nat.le_refl _) ?_
  have hc := c.toNat_lt
  ((conv => whnf); (repeat ((first | refine BoxN.own ?_ | refine VrN.norm (wrap_i64 (by omega)) ?_ | refine VrN.keep ?_ | refine DrawN.calm (by decide +kernel) ?_ | refine Nd.mk (by decide +kernel) ?_ | refine Nd.mk (by omega) ?_ | (refine Nd.mk ?_ ?_; focus ((repeat' (first | exact trivial | exact wkE_refl _ | refine And.intro ?_ ?_)); done)) | refine RdN.intro _ rfl (by rfl) ?_); (conv => whnf))))
  have key : ∀ z, z = c.toNat → nthC (vs xs) z = some (.v (.bool (p c))) := fun z hz => by rw [hz, nthC_eq, vs_eq, List.getElem?_map, hp c]; rfl
  rw [key _ (by show 0 + Int.toNat (c.toNat : Int) * 1 = _; omega)]
  ((conv => whnf); (repeat ((first | refine BoxN.own ?_ | refine VrN.norm (wrap_i64 (by omega)) ?_ | refine VrN.keep ?_ | refine DrawN.calm (by decide +kernel) ?_ | refine Nd.mk (by decide +kernel) ?_ | refine Nd.mk (by omega) ?_ | (refine Nd.mk ?_ ?_; focus ((repeat' (first | exact trivial | exact wkE_refl _ | refine And.intro ?_ ?_)); done)) | refine RdN.intro _ rfl (by rfl) ?_); (conv => whnf))))
  exact ⟨(), trivial, rfl, wkH_refl _⟩
theorem trimLeftASCII_c (T : TypeId) (xs : List Value) (p : UInt8 → Bool) (hp : TabB xs p) (s : List UInt8) : SpecH Tryz.prog 54 [.c (.v (.string (bs s))), .c (.lp 0 0)] [.blk T (vs xs)]
    (RetG (ι := Unit) (fun _ => True) (fun _ => .string (bs (s.dropWhile p))) fun _ => [.blk T (vs xs)]) := by
  refine ownC hm Tryz.func54 (by kernel_rfl) rfl rfl (fun _ _ => ⟨okCs_vs _ xs, trivial⟩) (fun _ _ => Nat.le_refl _) ?_
  ((conv => whnf); (repeat ((first | refine BoxN.own ?_ | refine VrN.norm (wrap_i64 (by omega)) ?_ | refine VrN.keep ?_ | refine DrawN.calm (by decide +kernel) ?_ | refine Nd.mk (by decide +kernel) ?_ | refine Nd.mk (by omega) ?_ | (refine Nd.mk ?_ ?_; focus ((repeat' (first | exact trivial | exact wkE_refl _ | refine And.intro ?_ ?_)); done)) | refine RdN.intro _ rfl (by rfl) ?_); (conv => whnf))))
  refine LoopN.intro (List UInt8) (fun l => l.dropWhile p = s.dropWhile p) (fun l => mkS Tryz.f54.ntmps 0 [(0, .c (.v (.string (bs l)))), (1, .c (.lp 0 0))]) (fun _ => [.blk T (vs xs)]) (fun l => l.length) [] rfl (fun _ => rfl) (fun _ => rfl) (fun _ _ => ⟨okCs_vs _ xs, trivial⟩) ⟨s, rfl, ?_, wkH_refl _⟩ fun l hl => ?_
  · (repeat' (first | exact trivial | refine And.intro (by with_reducible rfl) ?_ | (with_reducible exact wkC_refl _) | (with_reducible exact wkCs_refl _) | refine And.intro ?_ ?_))
    all_goals rfl
  cases l with
  | nil =>
    ((conv => whnf); (repeat ((first | refine BoxN.own ?_ | refine VrN.norm (wrap_i64 (by omega)) ?_ | refine VrN.keep ?_ | refine DrawN.calm (by decide +kernel) ?_ | refine Nd.mk (by decide +kernel) ?_ | refine Nd.mk (by omega) ?_ | (refine Nd.mk ?_ ?_; focus ((repeat' (first | exact trivial | exact wkE_refl _ | refine And.intro ?_ ?_)); done)) | refine RdN.intro _ rfl (by rfl) ?_); (conv => whnf))))
    exact ⟨(), trivial, by rw [← hl]; rfl, wkH_refl _⟩
  | cons c l =>
    have hb : byteAt (bs (c :: l)) 0 = (c.toNat : Int) := byteAt_get rfl
    ((conv => whnf); (repeat ((first | refine BoxN.own ?_ | refine VrN.norm (wrap_i64 (by omega)) ?_ | refine VrN.keep ?_ | refine DrawN.calm (by decide +kernel) ?_ | refine Nd.mk (by decide +kernel) ?_ | refine Nd.mk (by omega) ?_ | (refine Nd.mk ?_ ?_; focus ((repeat' (first | exact trivial | exact wkE_refl _ | refine And.intro ?_ ?_)); done)) | refine RdN.intro _ rfl (by rfl) ?_); (conv => whnf))))
    rw [bs_size]
    refine brd_dec (fun _ => ?_) (fun h => by simp at h)
    ((conv => whnf); (repeat ((first | refine BoxN.own ?_ | refine VrN.norm (wrap_i64 (by omega)) ?_ | refine VrN.keep ?_ | refine DrawN.calm (by decide +kernel) ?_ | refine Nd.mk (by decide +kernel) ?_ | refine Nd.mk (by omega) ?_ | (refine Nd.mk ?_ ?_; focus ((repeat' (first | exact trivial | exact wkE_refl _ | refine And.intro ?_ ?_)); done)) | refine RdN.intro _ rfl (by rfl) ?_); (conv => whnf))))
    refine Nd.mk ⟨by omega, by rw [bs_size]; simp⟩ ?_
    rw [show ((0 : Int).toNat) = 0 from rfl, hb]
    ((conv => whnf); (repeat ((first | refine BoxN.own ?_ | refine VrN.norm (wrap_i64 (by omega)) ?_ | refine VrN.keep ?_ | refine DrawN.calm (by decide +kernel) ?_ | refine Nd.mk (by decide +kernel) ?_ | refine Nd.mk (by omega) ?_ | (refine Nd.mk ?_ ?_; focus ((repeat' (first | exact trivial | exact wkE_refl _ | refine And.intro ?_ ?_)); done)) | refine RdN.intro _ rfl (by rfl) ?_); (conv => whnf))))
    refine callG (contains_c T xs p hp c) [0] rfl ⟨by show some _ = some (rnE _ _ _); simp [rnE, rnCs_vs], trivial⟩ rfl fun _ _ => ?_
    ((conv => whnf); (repeat ((first | refine BoxN.own ?_ | refine VrN.norm (wrap_i64 (by omega)) ?_ | refine VrN.keep ?_ | refine DrawN.calm (by decide +kernel) ?_ | refine Nd.mk (by decide +kernel) ?_ | refine Nd.mk (by omega) ?_ | (refine Nd.mk ?_ ?_; focus ((repeat' (first | exact trivial | exact wkE_refl _ | refine And.intro ?_ ?_)); done)) | refine RdN.intro _ rfl (by rfl) ?_); (conv => whnf))))
    refine brd_not (brd_intro (fun h => ?_) (fun h => ?_))
    · ((conv => whnf); (repeat ((first | refine BoxN.own ?_ | refine VrN.norm (wrap_i64 (by omega)) ?_ | refine VrN.keep ?_ | refine DrawN.calm (by decide +kernel) ?_ | refine Nd.mk (by decide +kernel) ?_ | refine Nd.mk (by omega) ?_ | (refine Nd.mk ?_ ?_; focus ((repeat' (first | exact trivial | exact wkE_refl _ | refine And.intro ?_ ?_)); done)) | refine RdN.intro _ rfl (by rfl) ?_); (conv => whnf))))
      refine ReadW.sl_l 1 rfl (by kernel_rfl) rfl rfl ⟨rfl, by simp⟩ ?_
      ((conv => whnf); (repeat ((first | refine BoxN.own ?_ | refine VrN.norm (wrap_i64 (by omega)) ?_ | refine VrN.keep ?_ | refine DrawN.calm (by decide +kernel) ?_ | refine Nd.mk (by decide +kernel) ?_ | refine Nd.mk (by omega) ?_ | (refine Nd.mk ?_ ?_; focus ((repeat' (first | exact trivial | exact wkE_refl _ | refine And.intro ?_ ?_)); done)) | refine RdN.intro _ rfl (by rfl) ?_); (conv => whnf))))
      refine ⟨l, by rw [← hl, List.dropWhile_cons_of_pos h], by simp, ?_, wkH_of_eq (by simp [rnE, rnCs_vs])⟩
      (repeat' (first | exact trivial | refine And.intro (by with_reducible rfl) ?_ | (with_reducible exact wkC_refl _) | (with_reducible exact wkCs_refl _) | refine And.intro ?_ ?_))
      rfl
    · ((conv => whnf); (repeat ((first | refine BoxN.own ?_ | refine VrN.norm (wrap_i64 (by omega)) ?_ | refine VrN.keep ?_ | refine DrawN.calm (by decide +kernel) ?_ | refine Nd.mk (by decide +kernel) ?_ | refine Nd.mk (by omega) ?_ | (refine Nd.mk ?_ ?_; focus ((repeat' (first | exact trivial | exact wkE_refl _ | refine And.intro ?_ ?_)); done)) | refine RdN.intro _ rfl (by rfl) ?_); (conv => whnf))))
      exact ⟨(), trivial, by rw [← hl, List.dropWhile_cons_of_neg (by simp [h])], wkH_of_eq (by simp [rnE, rnCs_vs])⟩
def trimE (p : UInt8 → Bool) (s : List UInt8) : List UInt8 := (s.reverse.dropWhile p).reverse
theorem trimE_snoc (p : UInt8 → Bool) (s : List UInt8) (c : UInt8) : trimE p (s ++ [c]) = if p c then trimE p s else s ++ [c] := by
  unfold trimE
  rw [List.reverse_append, List.reverse_singleton, List.singleton_append, List.dropWhile_cons]
  split <;> simp
theorem trimRightASCII_c (T : TypeId) (xs : List Value) (p : UInt8 → Bool) (hp : TabB xs p) (s : List UInt8) (hs : s.length ≤ 1000000000) : SpecH Tryz.prog 55 [.c (.v (.string (bs s))), .c (.lp 0 0)] [.blk T (vs xs)]
    (RetG (ι := Unit) (fun _ => True) (fun _ => .string (bs (trimE p s))) fun _ => [.blk T (vs xs)]) := by
  refine ownC hm Tryz.func55 (by kernel_rfl) rfl rfl (fun _ _ => ⟨okCs_vs _ xs, trivial⟩) (fun _ _ => Nat.le_refl _) ?_
  ((conv => whnf); (repeat ((first | refine BoxN.own ?_ | refine VrN.norm (wrap_i64 (by omega)) ?_ | refine VrN.keep ?_ | refine DrawN.calm (by decide +kernel) ?_ | refine Nd.mk (by decide +kernel) ?_ | refine Nd.mk (by omega) ?_ | (refine Nd.mk ?_ ?_; focus ((repeat' (first | exact trivial | exact wkE_refl _ | refine And.intro ?_ ?_)); done)) | refine RdN.intro _ rfl (by rfl) ?_); (conv => whnf))))
  refine LoopN.intro (List UInt8) (fun l => trimE p l = trimE p s ∧ l.length ≤ 1000000000) (fun l => mkS Tryz.f55.ntmps 0 [(0, .c (.v (.string (bs l)))), (1, .c (.lp 0 0))]) (fun _ => [.blk T (vs xs)]) (fun l => l.length) [] rfl (fun _ => rfl) (fun _ => rfl) (fun _ _ => ⟨okCs_vs _ xs, trivial⟩) ⟨s, ⟨rfl, hs⟩, ?_, wkH_refl _⟩ fun l ⟨hl, hll⟩ => ?_
  · (repeat' (first | exact trivial | refine And.intro (by with_reducible rfl) ?_ | (with_reducible exact wkC_refl _) | (with_reducible exact wkCs_refl _) | refine And.intro ?_ ?_))
    all_goals rfl
  rcases List.eq_nil_or_concat l with rfl | ⟨l, c, rfl⟩
  · ((conv => whnf); (repeat ((first | refine BoxN.own ?_ | refine VrN.norm (wrap_i64 (by omega)) ?_ | refine VrN.keep ?_ | refine DrawN.calm (by decide +kernel) ?_ | refine Nd.mk (by decide +kernel) ?_ | refine Nd.mk (by omega) ?_ | (refine Nd.mk ?_ ?_; focus ((repeat' (first | exact trivial | exact wkE_refl _ | refine And.intro ?_ ?_)); done)) | refine RdN.intro _ rfl (by rfl) ?_); (conv => whnf))))
    exact ⟨(), trivial, by rw [← hl]; rfl, wkH_refl _⟩
  · rw [List.concat_eq_append] at *
    have hb : byteAt (bs (l ++ [c])) l.length = (c.toNat : Int) := byteAt_get (by simp)
    rw [List.length_append] at hll
    rw [trimE_snoc] at hl
    ((conv => whnf); (repeat ((first | refine BoxN.own ?_ | refine VrN.norm (wrap_i64 (by omega)) ?_ | refine VrN.keep ?_ | refine DrawN.calm (by decide +kernel) ?_ | refine Nd.mk (by decide +kernel) ?_ | refine Nd.mk (by omega) ?_ | (refine Nd.mk ?_ ?_; focus ((repeat' (first | exact trivial | exact wkE_refl _ | refine And.intro ?_ ?_)); done)) | refine RdN.intro _ rfl (by rfl) ?_); (conv => whnf))))
    rw [bs_size]
    refine brd_dec (fun _ => ?_) (fun h => by simp at h)
    ((conv => whnf); (repeat ((first | refine BoxN.own ?_ | refine VrN.norm (wrap_i64 (by omega)) ?_ | refine VrN.keep ?_ | refine DrawN.calm (by decide +kernel) ?_ | refine Nd.mk (by decide +kernel) ?_ | refine Nd.mk (by omega) ?_ | (refine Nd.mk ?_ ?_; focus ((repeat' (first | exact trivial | exact wkE_refl _ | refine And.intro ?_ ?_)); done)) | refine RdN.intro _ rfl (by rfl) ?_); (conv => whnf))))
    rw [bs_size]
    have e : IntKind.wrap .i64 (((l ++ [c]).length : Int) - 1) = (l.length : Int) := by rw [wrap_i64 (by simp; simp at hll; omega)]; simp
    rw [e]
    refine Nd.mk ⟨by omega, by simp; omega⟩ ?_
    rw [Int.toNat_natCast, hb]
    ((conv => whnf); (repeat ((first | refine BoxN.own ?_ | refine VrN.norm (wrap_i64 (by omega)) ?_ | refine VrN.keep ?_ | refine DrawN.calm (by decide +kernel) ?_ | refine Nd.mk (by decide +kernel) ?_ | refine Nd.mk (by omega) ?_ | (refine Nd.mk ?_ ?_; focus ((repeat' (first | exact trivial | exact wkE_refl _ | refine And.intro ?_ ?_)); done)) | refine RdN.intro _ rfl (by rfl) ?_); (conv => whnf))))
    refine callG (contains_c T xs p hp c) [0] rfl ⟨by show some _ = some (rnE _ _ _); simp [rnE, rnCs_vs], trivial⟩ rfl fun _ _ => ?_
    ((conv => whnf); (repeat ((first | refine BoxN.own ?_ | refine VrN.norm (wrap_i64 (by omega)) ?_ | refine VrN.keep ?_ | refine DrawN.calm (by decide +kernel) ?_ | refine Nd.mk (by decide +kernel) ?_ | refine Nd.mk (by omega) ?_ | (refine Nd.mk ?_ ?_; focus ((repeat' (first | exact trivial | exact wkE_refl _ | refine And.intro ?_ ?_)); done)) | refine RdN.intro _ rfl (by rfl) ?_); (conv => whnf))))
    refine brd_not (brd_intro (fun h => ?_) (fun h => ?_))
    · ((conv => whnf); (repeat ((first | refine BoxN.own ?_ | refine VrN.norm (wrap_i64 (by omega)) ?_ | refine VrN.keep ?_ | refine DrawN.calm (by decide +kernel) ?_ | refine Nd.mk (by decide +kernel) ?_ | refine Nd.mk (by omega) ?_ | (refine Nd.mk ?_ ?_; focus ((repeat' (first | exact trivial | exact wkE_refl _ | refine And.intro ?_ ?_)); done)) | refine RdN.intro _ rfl (by rfl) ?_); (conv => whnf))))
      refine ReadW.sl_h l.length rfl (by kernel_rfl) rfl rfl ⟨by rw [bs_size]; exact e, by simp⟩ ?_
      ((conv => whnf); (repeat ((first | refine BoxN.own ?_ | refine VrN.norm (wrap_i64 (by omega)) ?_ | refine VrN.keep ?_ | refine DrawN.calm (by decide +kernel) ?_ | refine Nd.mk (by decide +kernel) ?_ | refine Nd.mk (by omega) ?_ | (refine Nd.mk ?_ ?_; focus ((repeat' (first | exact trivial | exact wkE_refl _ | refine And.intro ?_ ?_)); done)) | refine RdN.intro _ rfl (by rfl) ?_); (conv => whnf))))
      refine ⟨l, ⟨by rw [← hl, if_pos h], by simp at hll; omega⟩, by simp, ?_, wkH_of_eq (by simp [rnE, rnCs_vs])⟩
      (repeat' (first | exact trivial | refine And.intro (by with_reducible rfl) ?_ | (with_reducible exact wkC_refl _) | (with_reducible exact wkCs_refl _) | refine And.intro ?_ ?_))
      simp
    · ((conv => whnf); (repeat ((first | refine BoxN.own ?_ | refine VrN.norm (wrap_i64 (by omega)) ?_ | refine VrN.keep ?_ | refine DrawN.calm (by decide +kernel) ?_ | refine Nd.mk (by decide +kernel) ?_ | refine Nd.mk (by omega) ?_ | (refine Nd.mk ?_ ?_; focus ((repeat' (first | exact trivial | exact wkE_refl _ | refine And.intro ?_ ?_)); done)) | refine RdN.intro _ rfl (by rfl) ?_); (conv => whnf))))
      exact ⟨(), trivial, by rw [← hl, if_neg (by simp [h])], wkH_of_eq (by simp [rnE, rnCs_vs])⟩
/-- Blanks. -/
def blankB (c : UInt8) : Bool := c == 32 || c == 9
def blankTab : List Value := (List.range 256).map fun i => .bool (i == 32 || i == 9)
theorem blankTab_ok : TabB blankTab blankB := fun c => by
  have hc := c.toNat_lt
  unfold blankTab blankB
  rw [List.getElem?_map, List.getElem?_range (by omega)]
  simp only [Option.map_some, Option.some.injEq, Value.bool.injEq]
  have h1 : (c.toNat == 32) = (c == 32) := by
    rw [Bool.eq_iff_iff, beq_iff_eq, beq_iff_eq]
    exact ⟨fun h => UInt8.toNat_inj.1 h, fun h => by rw [h]; rfl⟩
  have h2 : (c.toNat == 9) = (c == 9) := by
    rw [Bool.eq_iff_iff, beq_iff_eq, beq_iff_eq]
    exact ⟨fun h => UInt8.toNat_inj.1 h, fun h => by rw [h]; rfl⟩
  rw [h1, h2]
theorem setCells_blank : (Lib.setCells [32, 9]).toList = blankTab := by kernel_rfl
theorem setCells_blank' : Lib.setCells [32, 9] = blankTab.toArray := by apply Array.ext'; rw [setCells_blank]
theorem zero_set : (Tryz.prog.info? 97).map (fun i => i.zero) = some (some (.agg (Array.replicate 256 (.bool false)))) := by kernel_rfl
theorem makeASCIISet_c : ∀ H, SpecH Tryz.prog 53 (pvs [.string (bs [32, 9])]) H (Ret (.tuple #[.agg blankTab.toArray, .bool true]) H) := fun H =>
  SpecH.rawP (R := fun r => r = .tuple #[.agg blankTab.toArray, .bool true]) (callOk Tryz.func53 (by kernel_rfl) rfl)
    (fun w _ => (Tryz.strings_makeASCIISet (fun w => by obtain ⟨i, hi, hz⟩ := Option.map_eq_some_iff.1 zero_set; exact run_zeroValue hi hz w) (bs [32, 9]) w (by decide) (by
      intro j b hj
      rw [bs_list] at hj
      match j, hj with
      | 0, hj => cases hj; decide
      | 1, hj => cases hj; decide)).mono fun e w' ⟨he, hw⟩ => ⟨_, he, by rw [bs_list, setCells_blank'], by subst hw; exact (Below.refl _ w).alloc (Nat.le_refl _) _⟩) fun r hr => by subst hr; exact ⟨rfl, rfl⟩
theorem TrimRight_c (s : List UInt8) (hs : s.length ≤ 1000000000) : ∀ H, SpecH Tryz.prog 83 (pvs [.string (bs s), .string (bs [32, 9])]) H (Ret (.string (bs (trimE blankB s))) H) := by
  refine pureC hm Tryz.func83 (by kernel_rfl) rfl rfl ?_
  ((conv => whnf); (repeat ((first | refine BoxN.own ?_ | refine VrN.norm (wrap_i64 (by omega)) ?_ | refine VrN.keep ?_ | refine DrawN.calm (by decide +kernel) ?_ | refine Nd.mk (by decide +kernel) ?_ | refine Nd.mk (by omega) ?_ | (refine Nd.mk ?_ ?_; focus ((repeat' (first | exact trivial | exact wkE_refl _ | refine And.intro ?_ ?_)); done)) | refine RdN.intro _ rfl (by rfl) ?_); (conv => whnf))))
  rw [bs_list]
  refine brd_intro (fun h => ?_) (fun h => ?_)
  · have : s = [] := by simpa using h
    subst this
    ((conv => whnf); (repeat ((first | refine BoxN.own ?_ | refine VrN.norm (wrap_i64 (by omega)) ?_ | refine VrN.keep ?_ | refine DrawN.calm (by decide +kernel) ?_ | refine Nd.mk (by decide +kernel) ?_ | refine Nd.mk (by omega) ?_ | (refine Nd.mk ?_ ?_; focus ((repeat' (first | exact trivial | exact wkE_refl _ | refine And.intro ?_ ?_)); done)) | refine RdN.intro _ rfl (by rfl) ?_); (conv => whnf))))
    rfl
  · ((conv => whnf); (repeat ((first | refine BoxN.own ?_ | refine VrN.norm (wrap_i64 (by omega)) ?_ | refine VrN.keep ?_ | refine DrawN.calm (by decide +kernel) ?_ | refine Nd.mk (by decide +kernel) ?_ | refine Nd.mk (by omega) ?_ | (refine Nd.mk ?_ ?_; focus ((repeat' (first | exact trivial | exact wkE_refl _ | refine And.intro ?_ ?_)); done)) | refine RdN.intro _ rfl (by rfl) ?_); (conv => whnf))))
    refine call1 (makeASCIISet_c _) ?_
    ((conv => whnf); (repeat ((first | refine BoxN.own ?_ | refine VrN.norm (wrap_i64 (by omega)) ?_ | refine VrN.keep ?_ | refine DrawN.calm (by decide +kernel) ?_ | refine Nd.mk (by decide +kernel) ?_ | refine Nd.mk (by omega) ?_ | (refine Nd.mk ?_ ?_; focus ((repeat' (first | exact trivial | exact wkE_refl _ | refine And.intro ?_ ?_)); done)) | refine RdN.intro _ rfl (by rfl) ?_); (conv => whnf))))
    refine callG (trimRightASCII_c _ blankTab blankB blankTab_ok s hs) [0] rfl ⟨rfl, trivial⟩ rfl fun _ _ => ?_
    ((conv => whnf); (repeat ((first | refine BoxN.own ?_ | refine VrN.norm (wrap_i64 (by omega)) ?_ | refine VrN.keep ?_ | refine DrawN.calm (by decide +kernel) ?_ | refine Nd.mk (by decide +kernel) ?_ | refine Nd.mk (by omega) ?_ | (refine Nd.mk ?_ ?_; focus ((repeat' (first | exact trivial | exact wkE_refl _ | refine And.intro ?_ ?_)); done)) | refine RdN.intro _ rfl (by rfl) ?_); (conv => whnf))))
theorem Trim_c (s : List UInt8) (hs : s.length ≤ 1000000000) : ∀ H, SpecH Tryz.prog 35 (pvs [.string (bs s), .string (bs [32, 9])]) H (Ret (.string (bs ((trimE blankB s).dropWhile blankB))) H) := by
  refine pureC hm Tryz.func35 (by kernel_rfl) rfl rfl ?_
  ((conv => whnf); (repeat ((first | refine BoxN.own ?_ | refine VrN.norm (wrap_i64 (by omega)) ?_ | refine VrN.keep ?_ | refine DrawN.calm (by decide +kernel) ?_ | refine Nd.mk (by decide +kernel) ?_ | refine Nd.mk (by omega) ?_ | (refine Nd.mk ?_ ?_; focus ((repeat' (first | exact trivial | exact wkE_refl _ | refine And.intro ?_ ?_)); done)) | refine RdN.intro _ rfl (by rfl) ?_); (conv => whnf))))
  rw [bs_list]
  refine brd_intro (fun h => ?_) (fun h => ?_)
  · have : s = [] := by simpa using h
    subst this
    ((conv => whnf); (repeat ((first | refine BoxN.own ?_ | refine VrN.norm (wrap_i64 (by omega)) ?_ | refine VrN.keep ?_ | refine DrawN.calm (by decide +kernel) ?_ | refine Nd.mk (by decide +kernel) ?_ | refine Nd.mk (by omega) ?_ | (refine Nd.mk ?_ ?_; focus ((repeat' (first | exact trivial | exact wkE_refl _ | refine And.intro ?_ ?_)); done)) | refine RdN.intro _ rfl (by rfl) ?_); (conv => whnf))))
    rfl
  · ((conv => whnf); (repeat ((first | refine BoxN.own ?_ | refine VrN.norm (wrap_i64 (by omega)) ?_ | refine VrN.keep ?_ | refine DrawN.calm (by decide +kernel) ?_ | refine Nd.mk (by decide +kernel) ?_ | refine Nd.mk (by omega) ?_ | (refine Nd.mk ?_ ?_; focus ((repeat' (first | exact trivial | exact wkE_refl _ | refine And.intro ?_ ?_)); done)) | refine RdN.intro _ rfl (by rfl) ?_); (conv => whnf))))
    refine call1 (makeASCIISet_c _) ?_
    ((conv => whnf); (repeat ((first | refine BoxN.own ?_ | refine VrN.norm (wrap_i64 (by omega)) ?_ | refine VrN.keep ?_ | refine DrawN.calm (by decide +kernel) ?_ | refine Nd.mk (by decide +kernel) ?_ | refine Nd.mk (by omega) ?_ | (refine Nd.mk ?_ ?_; focus ((repeat' (first | exact trivial | exact wkE_refl _ | refine And.intro ?_ ?_)); done)) | refine RdN.intro _ rfl (by rfl) ?_); (conv => whnf))))
    refine callG (trimRightASCII_c _ blankTab blankB blankTab_ok s hs) [0] rfl ⟨rfl, trivial⟩ rfl fun _ _ => ?_
    ((conv => whnf); (repeat ((first | refine BoxN.own ?_ | refine VrN.norm (wrap_i64 (by omega)) ?_ | refine VrN.keep ?_ | refine DrawN.calm (by decide +kernel) ?_ | refine Nd.mk (by decide +kernel) ?_ | refine Nd.mk (by omega) ?_ | (refine Nd.mk ?_ ?_; focus ((repeat' (first | exact trivial | exact wkE_refl _ | refine And.intro ?_ ?_)); done)) | refine RdN.intro _ rfl (by rfl) ?_); (conv => whnf))))
    refine callG (trimLeftASCII_c _ blankTab blankB blankTab_ok (trimE blankB s)) [0] rfl ⟨rfl, trivial⟩ rfl fun _ _ => ?_
    ((conv => whnf); (repeat ((first | refine BoxN.own ?_ | refine VrN.norm (wrap_i64 (by omega)) ?_ | refine VrN.keep ?_ | refine DrawN.calm (by decide +kernel) ?_ | refine Nd.mk (by decide +kernel) ?_ | refine Nd.mk (by omega) ?_ | (refine Nd.mk ?_ ?_; focus ((repeat' (first | exact trivial | exact wkE_refl _ | refine And.intro ?_ ?_)); done)) | refine RdN.intro _ rfl (by rfl) ?_); (conv => whnf))))
end Go.Proofs.YtfcjgklghgpddaaGreatDoor

/-
  Plain Lean: how a template is read (no program in sight).
-/
namespace Go.Erb

abbrev B := List UInt8
structure Part where
  kind : Int
  line : Int
  text : B
deriving DecidableEq, Repr

/-- The line behind a text, from 1. -/
def ln (p : B) : Int := 1 + (p.count 10 : Nat)
/-- Is behind a text the beginning of a line? -/
def bol (p : B) : Bool := match p.getLast? with | none => true | some c => c == 10
def blank (c : UInt8) : Bool := c == 32 || c == 9
/-- The blanks at the end taken away. -/
def trimR (t : B) : B := (t.reverse.dropWhile blank).reverse
/-- The text so far, its blanks taken away if they reach back to the beginning of a line; fp: what stood ahead of it. -/
def trim (t fp : B) : B := if (trimR t).isEmpty && bol fp || (trimR t).getLast? == some 10 then trimR t else t
/-- The text so far becomes a part. -/
def close (t fp : B) (out : List Part) : List Part := if t.isEmpty then out else out ++ [⟨0, ln fp, t⟩]
/-- What begins the text so far, when something is put behind it. -/
def fpOf (t fp pre : B) : B := if t.isEmpty then pre else fp

/-- The inside of a tag, to its end. -/
def tg : Nat → B → B → B → Option (B × B × B)
  | 0, _, _, _ => none
  | _ + 1, _, [], _ => none
  | f + 1, pre, c :: r, acc =>
    if [37, 37, 62].isPrefixOf (c :: r) then tg f (pre ++ (c :: r).take 3) ((c :: r).drop 3) (acc ++ [37, 62])
    else if [45, 37, 62].isPrefixOf (c :: r) then
      if [10].isPrefixOf ((c :: r).drop 3) then some (pre ++ (c :: r).take 4, (c :: r).drop 4, acc) else some (pre ++ (c :: r).take 3, (c :: r).drop 3, acc)
    else if [37, 62].isPrefixOf (c :: r) then some (pre ++ (c :: r).take 2, (c :: r).drop 2, acc)
    else tg f (pre ++ [c]) r (acc ++ [c])

/-- What stands behind '<%': the kind, are blanks taken away, how many bytes more. -/
def opn (r : B) : Int × Bool × Nat :=
  match r.head? with
  | none => (1, false, 0)
  | some c => if c == 45 then (1, true, 1) else if c == 61 then (2, false, 1) else if c == 35 then (3, false, 1) else (1, false, 0)

/-- The rest of a template. -/
def rd (lines : Bool) : Nat → B → B → B → B → List Part → Except Int (List Part)
  | 0, _, _, _, _, _ => .error 0
  | _ + 1, _, [], t, fp, out => .ok (close t fp out)
  | f + 1, pre, c :: r, t, fp, out =>
    if lines && bol pre && [37, 37].isPrefixOf (c :: r) then rd lines f (pre ++ (c :: r).take 2) ((c :: r).drop 2) (t ++ [37]) (fpOf t fp pre) out
    else if lines && bol pre && c == 37 then
      rd lines f (pre ++ (c :: r).take (1 + (r.takeWhile (· != 10)).length + 1)) ((c :: r).drop (1 + (r.takeWhile (· != 10)).length + 1)) [] fp (close t fp out ++ [⟨1, ln pre, r.takeWhile (· != 10)⟩])
    else if [60, 37, 37].isPrefixOf (c :: r) then rd lines f (pre ++ (c :: r).take 3) ((c :: r).drop 3) (t ++ [60, 37]) (fpOf t fp pre) out
    else if [60, 37].isPrefixOf (c :: r) then
      match tg ((c :: r).length + 1) (pre ++ (c :: r).take (2 + (opn ((c :: r).drop 2)).2.2)) ((c :: r).drop (2 + (opn ((c :: r).drop 2)).2.2)) [] with
      | none => .error (ln pre)
      | some (pre', r', code) => rd lines f pre' r' [] fp (close (if (opn ((c :: r).drop 2)).2.1 then trim t fp else t) fp out ++ [⟨(opn ((c :: r).drop 2)).1, ln pre, code⟩])
    else rd lines f (pre ++ [c]) r (t ++ [c]) (fpOf t fp pre) out

def parts (s : B) (lines : Bool) : List Part × Int × Int :=
  if s.length > 50000 then ([], 0, 2)
  else match rd lines (s.length + 1) [] s [] [] [] with
    | .ok l => (l, 0, 0)
    | .error n => ([], n, 14)

example : parts [97, 60, 37, 61, 32, 120, 32, 37, 62, 98] false = ([⟨0, 1, [97]⟩, ⟨2, 1, [32, 120, 32]⟩, ⟨0, 1, [98]⟩], 0, 0) := by decide
end Go.Erb

/-
  Plain Lean: the reader of templates without fuel.
-/
namespace Go.Erb

theorem tg_fuel : ∀ (n f g : Nat) (pre r acc : B), r.length ≤ n → r.length < f → r.length < g → tg f pre r acc = tg g pre r acc
  | _, 0, _, _, _, _, _, h, _ => absurd h (Nat.not_lt_zero _)
  | _, _ + 1, 0, _, _, _, _, _, h => absurd h (Nat.not_lt_zero _)
  | _, _ + 1, _ + 1, _, [], _, _, _, _ => rfl
  | 0, _ + 1, _ + 1, _, _ :: _, _, h, _, _ => by simp at h
  | n + 1, f + 1, g + 1, pre, c :: r, acc, hn, hf, hg => by
    have ih := fun pre' r' acc' (h : r'.length ≤ r.length) => tg_fuel n f g pre' r' acc' (by simp at hn; omega) (by simp at hf; omega) (by simp at hg; omega)
    unfold tg
    rw [ih _ ((c :: r).drop 3) _ (by simp), ih _ r _ (Nat.le_refl _)]
def tgN (pre r acc : B) : Option (B × B × B) := tg (r.length + 1) pre r acc
theorem tgN_nil (pre acc : B) : tgN pre [] acc = none := rfl
theorem tgN_cons (pre : B) (c : UInt8) (r acc : B) : tgN pre (c :: r) acc =
    if [37, 37, 62].isPrefixOf (c :: r) then tgN (pre ++ (c :: r).take 3) ((c :: r).drop 3) (acc ++ [37, 62])
    else if [45, 37, 62].isPrefixOf (c :: r) then
      if [10].isPrefixOf ((c :: r).drop 3) then some (pre ++ (c :: r).take 4, (c :: r).drop 4, acc) else some (pre ++ (c :: r).take 3, (c :: r).drop 3, acc)
    else if [37, 62].isPrefixOf (c :: r) then some (pre ++ (c :: r).take 2, (c :: r).drop 2, acc)
    else tgN (pre ++ [c]) r (acc ++ [c]) := by
  have F : ∀ pre' r' acc', r'.length ≤ r.length → tg (c :: r).length pre' r' acc' = tgN pre' r' acc' := fun pre' r' acc' h => tg_fuel _ _ _ _ _ _ (Nat.le_refl _) (by simp; omega) (by omega)
  show tg ((c :: r).length + 1) pre (c :: r) acc = _
  rw [show tg ((c :: r).length + 1) pre (c :: r) acc = _ by unfold tg; rfl]
  rw [F _ ((c :: r).drop 3) _ (by simp), F _ r _ (Nat.le_refl _)]
theorem tg_out : ∀ (f : Nat) (pre r acc p' r' c' : B), tg f pre r acc = some (p', r', c') → r'.length < r.length ∧ ∃ x, r = x ++ r' ∧ p' = pre ++ x
  | 0, _, _, _, _, _, _, h => by simp [tg] at h
  | f + 1, _, [], _, _, _, _, h => by simp [tg] at h
  | f + 1, pre, c :: r, acc, p', r', c', h => by
    unfold tg at h
    split at h
    · obtain ⟨h1, x, h2, h3⟩ := tg_out f _ _ _ _ _ _ h
      refine ⟨by simp at h1 ⊢; omega, (c :: r).take 3 ++ x, ?_, by rw [h3, List.append_assoc]⟩
      rw [List.append_assoc, ← h2, List.take_append_drop]
    split at h
    · split at h
      · cases h
        exact ⟨by simp; omega, (c :: r).take 4, (List.take_append_drop 4 _).symm, rfl⟩
      · cases h
        exact ⟨by simp; omega, (c :: r).take 3, (List.take_append_drop 3 _).symm, rfl⟩
    split at h
    · cases h
      exact ⟨by simp; omega, (c :: r).take 2, (List.take_append_drop 2 _).symm, rfl⟩
    · obtain ⟨h1, x, h2, h3⟩ := tg_out f _ _ _ _ _ _ h
      exact ⟨by simp; omega, c :: x, by rw [h2]; rfl, by rw [h3]; simp⟩
theorem rd_fuel (lines : Bool) : ∀ (n f g : Nat) (pre r t fp : B) (out : List Part), r.length ≤ n → r.length < f → r.length < g → rd lines f pre r t fp out = rd lines g pre r t fp out
  | _, 0, _, _, _, _, _, _, _, h, _ => absurd h (Nat.not_lt_zero _)
  | _, _ + 1, 0, _, _, _, _, _, _, _, h => absurd h (Nat.not_lt_zero _)
  | _, _ + 1, _ + 1, _, [], _, _, _, _, _, _ => rfl
  | 0, _ + 1, _ + 1, _, _ :: _, _, _, _, h, _, _ => by simp at h
  | n + 1, f + 1, g + 1, pre, c :: r, t, fp, out, hn, hf, hg => by
    have ih := fun pre' r' t' fp' out' (h : r'.length ≤ r.length) => rd_fuel lines n f g pre' r' t' fp' out' (by simp at hn; omega) (by simp at hf; omega) (by simp at hg; omega)
    unfold rd
    rw [ih _ ((c :: r).drop 2) _ _ _ (by simp), ih _ ((c :: r).drop 3) _ _ _ (by simp), ih _ r _ _ _ (Nat.le_refl _)]
    rw [ih _ ((c :: r).drop (1 + (r.takeWhile (· != 10)).length + 1)) _ _ _ (by simp)]
    cases ht : tg ((c :: r).length + 1) (pre ++ (c :: r).take (2 + (opn ((c :: r).drop 2)).2.2)) ((c :: r).drop (2 + (opn ((c :: r).drop 2)).2.2)) [] with
    | none => rfl
    | some x =>
      obtain ⟨p', r', c'⟩ := x
      have := (tg_out _ _ _ _ _ _ _ ht).1
      simp only
      rw [ih _ r' _ _ _ (by simp at this; omega)]
def rdN (lines : Bool) (pre r t fp : B) (out : List Part) : Except Int (List Part) := rd lines (r.length + 1) pre r t fp out
theorem rdN_nil (lines : Bool) (pre t fp : B) (out : List Part) : rdN lines pre [] t fp out = .ok (close t fp out) := rfl
theorem rdN_cons (lines : Bool) (pre : B) (c : UInt8) (r t fp : B) (out : List Part) : rdN lines pre (c :: r) t fp out =
    if lines && bol pre && [37, 37].isPrefixOf (c :: r) then rdN lines (pre ++ (c :: r).take 2) ((c :: r).drop 2) (t ++ [37]) (fpOf t fp pre) out
    else if lines && bol pre && c == 37 then
      rdN lines (pre ++ (c :: r).take (1 + (r.takeWhile (· != 10)).length + 1)) ((c :: r).drop (1 + (r.takeWhile (· != 10)).length + 1)) [] fp (close t fp out ++ [⟨1, ln pre, r.takeWhile (· != 10)⟩])
    else if [60, 37, 37].isPrefixOf (c :: r) then rdN lines (pre ++ (c :: r).take 3) ((c :: r).drop 3) (t ++ [60, 37]) (fpOf t fp pre) out
    else if [60, 37].isPrefixOf (c :: r) then
      match tgN (pre ++ (c :: r).take (2 + (opn ((c :: r).drop 2)).2.2)) ((c :: r).drop (2 + (opn ((c :: r).drop 2)).2.2)) [] with
      | none => .error (ln pre)
      | some (pre', r', code) => rdN lines pre' r' [] fp (close (if (opn ((c :: r).drop 2)).2.1 then trim t fp else t) fp out ++ [⟨(opn ((c :: r).drop 2)).1, ln pre, code⟩])
    else rdN lines (pre ++ [c]) r (t ++ [c]) (fpOf t fp pre) out := by
  have F : ∀ pre' r' t' fp' out', r'.length ≤ r.length → rd lines (c :: r).length pre' r' t' fp' out' = rdN lines pre' r' t' fp' out' := fun pre' r' t' fp' out' h => rd_fuel lines _ _ _ _ _ _ _ _ (Nat.le_refl _) (by simp; omega) (by omega)
  show rd lines ((c :: r).length + 1) pre (c :: r) t fp out = _
  rw [show rd lines ((c :: r).length + 1) pre (c :: r) t fp out = _ by unfold rd; rfl]
  rw [F _ ((c :: r).drop 2) _ _ _ (by simp), F _ ((c :: r).drop 3) _ _ _ (by simp), F _ r _ _ _ (Nat.le_refl _), F _ ((c :: r).drop (1 + (r.takeWhile (· != 10)).length + 1)) _ _ _ (by simp)]
  have h0 : tg ((c :: r).length + 1) (pre ++ (c :: r).take (2 + (opn ((c :: r).drop 2)).2.2)) ((c :: r).drop (2 + (opn ((c :: r).drop 2)).2.2)) [] = tgN (pre ++ (c :: r).take (2 + (opn ((c :: r).drop 2)).2.2)) ((c :: r).drop (2 + (opn ((c :: r).drop 2)).2.2)) [] :=
    tg_fuel _ _ _ _ _ _ (Nat.le_refl _) (by simp; omega) (by omega)
  rw [h0]
  cases ht : tgN (pre ++ (c :: r).take (2 + (opn ((c :: r).drop 2)).2.2)) ((c :: r).drop (2 + (opn ((c :: r).drop 2)).2.2)) [] with
  | none => rfl
  | some x =>
    obtain ⟨p', r', c'⟩ := x
    have := (tg_out _ _ _ _ _ _ _ ht).1
    simp only
    rw [F _ r' _ _ _ (by simp at this; omega)]

/-- Escaped. -/
def esc : B → B
  | [] => []
  | c :: r => if [60, 37].isPrefixOf (c :: r) then 60 :: 37 :: 37 :: esc (r.drop 1) else c :: esc r
termination_by s => s.length
theorem esc_head (c : UInt8) (r : B) : [c].isPrefixOf (esc r) = [c].isPrefixOf r := by
  cases r with
  | nil => simp [esc]
  | cons d r =>
    unfold esc
    split
    · rename_i h
      have : d = 60 := by
        cases r <;> simp [List.isPrefixOf] at h
        exact h.1.symm
      subst this
      simp [List.isPrefixOf]
    · simp [List.isPrefixOf]
theorem rd_esc : ∀ (n : Nat) (s pre t fp : B) (out : List Part), s.length ≤ n → rdN false pre (esc s) t fp out = .ok (close (t ++ s) (if s.isEmpty then fp else fpOf t fp pre) out)
  | _, [], pre, t, fp, out, _ => by simp [esc, rdN_nil]
  | 0, _ :: _, _, _, _, _, h => by simp at h
  | n + 1, c :: r, pre, t, fp, out, hn => by
    unfold esc
    split
    · rename_i h
      obtain ⟨r', hr⟩ : ∃ r', r = 37 :: r' := by
        cases r with
        | nil => simp [List.isPrefixOf] at h
        | cons d r => simp [List.isPrefixOf] at h; exact ⟨r, by rw [← h.2]⟩
      subst hr
      have hc : c = 60 := by simp [List.isPrefixOf] at h; exact h.symm
      subst hc
      rw [rdN_cons]
      simp only [Bool.false_and, Bool.false_eq_true, if_false]
      rw [if_pos (by simp [List.isPrefixOf])]
      simp only [List.drop_succ_cons, List.drop_zero]
      rw [rd_esc n r' _ _ _ _ (by simp at hn; omega)]
      simp [fpOf]
    · rename_i h
      rw [rdN_cons]
      simp only [Bool.false_and, Bool.false_eq_true, if_false]
      have h1 : ¬ [60, 37].isPrefixOf (c :: esc r) = true := by
        simp only [List.isPrefixOf, Bool.and_eq_true, beq_iff_eq] at h ⊢
        rintro ⟨h2, h3⟩
        refine h ⟨h2, ?_⟩
        have := esc_head 37 r
        rw [← this]
        exact h3
      have h2 : ¬ [60, 37, 37].isPrefixOf (c :: esc r) = true := fun h3 => h1 (by
        rw [List.isPrefixOf_iff_prefix] at h3 ⊢
        exact List.IsPrefix.trans ⟨[37], rfl⟩ h3)
      rw [if_neg h2, if_neg h1, rd_esc n r _ _ _ _ (by simpa using hn)]
      simp [fpOf]
end Go.Erb

/-
  Contracts: the program's reader of templates: a byte, a text's end, the beginning of a line, a margin, a line of code.
-/
namespace Go.Proofs.YtfcjgklghgpddaaGreatDoor
open Go.AX Go.RowKit Go.Erb
set_option maxRecDepth 20000

def partC (p : Part) : List Value := [.int .i64 p.kind, .int .i64 p.line, .string (bs p.text)]
def partsC (l : List Part) : List Value := l.flatMap partC
theorem partsC_len (l : List Part) : (partsC l).length = l.length * 3 := flat_len (g := partC) (m := 3) (fun _ => rfl) l
theorem partsC_app (l m : List Part) : partsC (l ++ m) = partsC l ++ partsC m := by simp [partsC]
/-- The program's reader. -/
structure RS where
  s : List UInt8
  at_ : Nat
  line : Int
  lines : Bool
  out : List Part
  plain : List UInt8
  begun : Int
/-- .. where its slices lie. -/
structure MS where
  o : BSt
  p : BSt
def MS.ok (r : RS) (m : MS) : Prop := m.o.ok r.out.length ∧ m.p.ok r.plain.length
def RH (r : RS) (m : MS) : List Ent := [.blk 44 [.v (.string (bs r.s)), .v (.int .i64 (r.at_ : Int)), .v (.int .i64 r.line), .v (.bool r.lines), .v (.slice (at0 m.o.ob) r.out.length m.o.cap), .v (.slice (at0 m.p.ob) r.plain.length m.p.cap), .v (.int .i64 r.begun)],
  .app 40 3 (partsC r.out) (at0 m.o.ob) r.out.length m.o.cap, .app 5 1 (u8s r.plain) (at0 m.p.ob) r.plain.length m.p.cap]
theorem RH_ok (r : RS) (m : MS) : okH (RH r m).length (RH r m) := okHB_eq rfl
/-- The call hands back a value, and leaves the reader as r'. -/
def RetM (r : RS) (v : Value) : Out → List Ent → Prop := RetG (ι := MS) (fun m => m.ok r) (fun _ => v) fun m => RH r m
def unit : Value := .tuple #[]

theorem add_c (r : RS) (m : MS) (c : UInt8) (ok : m.ok r) (hl : -1000000 ≤ r.line ∧ r.line ≤ 1000000) (hp : r.plain.length ≤ 1000000) : SpecH Tryz.prog 31 [.c (.lp 0 0), .c (.v (.int .u8 (c.toNat : Int)))] (RH r m)
    (RetM { r with plain := r.plain ++ [c], begun := if r.plain.isEmpty then r.line else r.begun, line := if c = 10 then r.line + 1 else r.line } unit) := by
  refine ownC hm Tryz.func31 (by kernel_rfl) rfl rfl (fun _ _ => RH_ok _ _) (fun _ _ => Nat.le_refl _) ?_
  obtain ⟨s, at_, line, lines, out, plain, begun⟩ := r
  obtain ⟨⟨ob, oc⟩, ⟨pb, pc⟩⟩ := m
  obtain ⟨h1, h2⟩ := ok
  have hc10 : (c = 10) ↔ (c.toNat : Int) = 10 := ⟨fun h => by rw [h]; rfl, fun h => UInt8.toNat_inj.1 (by show c.toNat = 10; omega)⟩
  have key : ∀ (b' cap' : Nat), plain.length + 1 ≤ cap' → (⟨⟨ob, oc⟩, ⟨some b', cap'⟩⟩ : MS).ok ⟨s, at_, if c = 10 then line + 1 else line, lines, out, plain ++ [c], if plain.isEmpty then line else begun⟩ := fun b' cap' h => ⟨h1, (fun h => by cases h), by simpa using h, fun h2 => by have h2 : cap' = 0 := h2; omega⟩
  ((conv => whnf); (repeat ((first | refine BoxN.own ?_ | refine VrN.norm (wrap_i64 (by omega)) ?_ | refine VrN.keep ?_ | refine DrawN.calm (by decide +kernel) ?_ | refine Nd.mk (by decide +kernel) ?_ | refine Nd.mk (by omega) ?_ | (refine Nd.mk ?_ ?_; focus ((repeat' (first | exact trivial | exact wkE_refl _ | refine And.intro ?_ ?_)); done)) | refine RdN.intro _ rfl (by rfl) ?_); (conv => whnf))))
  refine brd_eq (fun h0 => ?_) (fun h0 => ?_)
  · have he : plain.isEmpty = true := by
      cases plain with
      | nil => rfl
      | cons x l => simp at h0; omega
    ((conv => whnf); (repeat ((first | refine BoxN.own ?_ | refine VrN.norm (wrap_i64 (by omega)) ?_ | refine VrN.keep ?_ | refine DrawN.calm (by decide +kernel) ?_ | refine Nd.mk (by decide +kernel) ?_ | refine Nd.mk (by omega) ?_ | (refine Nd.mk ?_ ?_; focus ((repeat' (first | exact trivial | exact wkE_refl _ | refine And.intro ?_ ?_)); done)) | refine RdN.intro _ rfl (by rfl) ?_); (conv => whnf))))
    refine Nd.mk ⟨by omega, rfl, rfl⟩ ?_
    (conv => whnf)
    refine AppN.grow 2 (u8s plain) _ rfl rfl ⟨by omega, ⟨by show (_ + 1) * 1 ≤ _; have : plain.length ≤ 1000000 := hp; omega, by have : plain.length ≤ 1000000 := hp; omega⟩, by decide⟩ fun b' cap' h3 h4 => ?_
    ((conv => whnf); (repeat ((first | refine BoxN.own ?_ | refine VrN.norm (wrap_i64 (by omega)) ?_ | refine VrN.keep ?_ | refine DrawN.calm (by decide +kernel) ?_ | refine Nd.mk (by decide +kernel) ?_ | refine Nd.mk (by omega) ?_ | (refine Nd.mk ?_ ?_; focus ((repeat' (first | exact trivial | exact wkE_refl _ | refine And.intro ?_ ?_)); done)) | refine RdN.intro _ rfl (by rfl) ?_); (conv => whnf))))
    refine brd_eq (fun h5 => ?_) (fun h5 => ?_)
    · ((conv => whnf); (repeat ((first | refine BoxN.own ?_ | refine VrN.norm (wrap_i64 (by omega)) ?_ | refine VrN.keep ?_ | refine DrawN.calm (by decide +kernel) ?_ | refine Nd.mk (by decide +kernel) ?_ | refine Nd.mk (by omega) ?_ | (refine Nd.mk ?_ ?_; focus ((repeat' (first | exact trivial | exact wkE_refl _ | refine And.intro ?_ ?_)); done)) | refine RdN.intro _ rfl (by rfl) ?_); (conv => whnf))))
      refine ⟨⟨⟨ob, oc⟩, ⟨some b', cap'⟩⟩, key b' cap' h3, rfl, ?_⟩
      have hw : IntKind.wrap .i64 (line + 1) = line + 1 := wrap_i64 (by have : line ≤ 1000000 := hl.2; have : -1000000 ≤ line := hl.1; omega)
      exact wkH_cons (by simp [hw, hc10.2 h5, he, at0]) (wkH_cons rfl (wkH_cons (by simp [u8s, at0]; rfl) (wkH_nil _)))
    · ((conv => whnf); (repeat ((first | refine BoxN.own ?_ | refine VrN.norm (wrap_i64 (by omega)) ?_ | refine VrN.keep ?_ | refine DrawN.calm (by decide +kernel) ?_ | refine Nd.mk (by decide +kernel) ?_ | refine Nd.mk (by omega) ?_ | (refine Nd.mk ?_ ?_; focus ((repeat' (first | exact trivial | exact wkE_refl _ | refine And.intro ?_ ?_)); done)) | refine RdN.intro _ rfl (by rfl) ?_); (conv => whnf))))
      refine ⟨⟨⟨ob, oc⟩, ⟨some b', cap'⟩⟩, key b' cap' h3, rfl, ?_⟩
      exact wkH_cons (by simp [show ¬ c = 10 from fun h => h5 (hc10.1 h), he, at0]) (wkH_cons rfl (wkH_cons (by simp [u8s, at0]; rfl) (wkH_nil _)))
  · have he : plain.isEmpty = false := by cases plain <;> simp_all
    ((conv => whnf); (repeat ((first | refine BoxN.own ?_ | refine VrN.norm (wrap_i64 (by omega)) ?_ | refine VrN.keep ?_ | refine DrawN.calm (by decide +kernel) ?_ | refine Nd.mk (by decide +kernel) ?_ | refine Nd.mk (by omega) ?_ | (refine Nd.mk ?_ ?_; focus ((repeat' (first | exact trivial | exact wkE_refl _ | refine And.intro ?_ ?_)); done)) | refine RdN.intro _ rfl (by rfl) ?_); (conv => whnf))))
    refine Nd.mk ⟨by omega, rfl, rfl⟩ ?_
    (conv => whnf)
    refine AppN.grow 2 (u8s plain) _ rfl rfl ⟨by omega, ⟨by show (_ + 1) * 1 ≤ _; have : plain.length ≤ 1000000 := hp; omega, by have : plain.length ≤ 1000000 := hp; omega⟩, by decide⟩ fun b' cap' h3 h4 => ?_
    ((conv => whnf); (repeat ((first | refine BoxN.own ?_ | refine VrN.norm (wrap_i64 (by omega)) ?_ | refine VrN.keep ?_ | refine DrawN.calm (by decide +kernel) ?_ | refine Nd.mk (by decide +kernel) ?_ | refine Nd.mk (by omega) ?_ | (refine Nd.mk ?_ ?_; focus ((repeat' (first | exact trivial | exact wkE_refl _ | refine And.intro ?_ ?_)); done)) | refine RdN.intro _ rfl (by rfl) ?_); (conv => whnf))))
    refine brd_eq (fun h5 => ?_) (fun h5 => ?_)
    · ((conv => whnf); (repeat ((first | refine BoxN.own ?_ | refine VrN.norm (wrap_i64 (by omega)) ?_ | refine VrN.keep ?_ | refine DrawN.calm (by decide +kernel) ?_ | refine Nd.mk (by decide +kernel) ?_ | refine Nd.mk (by omega) ?_ | (refine Nd.mk ?_ ?_; focus ((repeat' (first | exact trivial | exact wkE_refl _ | refine And.intro ?_ ?_)); done)) | refine RdN.intro _ rfl (by rfl) ?_); (conv => whnf))))
      refine ⟨⟨⟨ob, oc⟩, ⟨some b', cap'⟩⟩, key b' cap' h3, rfl, ?_⟩
      have hw : IntKind.wrap .i64 (line + 1) = line + 1 := wrap_i64 (by have : line ≤ 1000000 := hl.2; have : -1000000 ≤ line := hl.1; omega)
      exact wkH_cons (by simp [hw, hc10.2 h5, he, at0]) (wkH_cons rfl (wkH_cons (by simp [u8s, at0]; rfl) (wkH_nil _)))
    · ((conv => whnf); (repeat ((first | refine BoxN.own ?_ | refine VrN.norm (wrap_i64 (by omega)) ?_ | refine VrN.keep ?_ | refine DrawN.calm (by decide +kernel) ?_ | refine Nd.mk (by decide +kernel) ?_ | refine Nd.mk (by omega) ?_ | (refine Nd.mk ?_ ?_; focus ((repeat' (first | exact trivial | exact wkE_refl _ | refine And.intro ?_ ?_)); done)) | refine RdN.intro _ rfl (by rfl) ?_); (conv => whnf))))
      refine ⟨⟨⟨ob, oc⟩, ⟨some b', cap'⟩⟩, key b' cap' h3, rfl, ?_⟩
      exact wkH_cons (by simp [show ¬ c = 10 from fun h => h5 (hc10.1 h), he, at0]) (wkH_cons rfl (wkH_cons (by simp [u8s, at0]; rfl) (wkH_nil _)))
theorem flush_c (r : RS) (m : MS) (ok : m.ok r) (hp : r.plain.length ≤ 1000000) (ho : r.out.length ≤ 1000000) : SpecH Tryz.prog 33 [.c (.lp 0 0)] (RH r m)
    (RetM { r with plain := [], out := if r.plain.isEmpty then r.out else r.out ++ [⟨0, r.begun, r.plain⟩] } unit) := by
  refine ownC hm Tryz.func33 (by kernel_rfl) rfl rfl (fun _ _ => RH_ok _ _) (fun _ _ => Nat.le_refl _) ?_
  obtain ⟨s, at_, line, lines, out, plain, begun⟩ := r
  obtain ⟨⟨ob, oc⟩, ⟨pb, pc⟩⟩ := m
  obtain ⟨h1, h2⟩ := ok
  have hp : plain.length ≤ 1000000 := hp
  have ho : out.length ≤ 1000000 := ho
  ((conv => whnf); (repeat ((first | refine BoxN.own ?_ | refine VrN.norm (wrap_i64 (by omega)) ?_ | refine VrN.keep ?_ | refine DrawN.calm (by decide +kernel) ?_ | refine Nd.mk (by decide +kernel) ?_ | refine Nd.mk (by omega) ?_ | (refine Nd.mk ?_ ?_; focus ((repeat' (first | exact trivial | exact wkE_refl _ | refine And.intro ?_ ?_)); done)) | refine RdN.intro _ rfl (by rfl) ?_); (conv => whnf))))
  refine brd_dec (fun h0 => ?_) (fun h0 => ?_)
  · have he : plain.isEmpty = false := by cases plain <;> simp_all
    ((conv => whnf); (repeat ((first | refine BoxN.own ?_ | refine VrN.norm (wrap_i64 (by omega)) ?_ | refine VrN.keep ?_ | refine DrawN.calm (by decide +kernel) ?_ | refine Nd.mk (by decide +kernel) ?_ | refine Nd.mk (by omega) ?_ | (refine Nd.mk ?_ ?_; focus ((repeat' (first | exact trivial | exact wkE_refl _ | refine And.intro ?_ ?_)); done)) | refine RdN.intro _ rfl (by rfl) ?_); (conv => whnf))))
    refine DrawN.plan [0, 1, 5, 9] [(2, 1), (3, 1), (4, 1), (6, 1), (7, 1), (8, 1), (10, 1), (11, 1), (12, 1), (13, 1), (14, 1), (15, 0)] [(16, 0), (17, 0), (18, 0), (19, 0)] (by decide +kernel) ?_
    ((conv => whnf); (repeat ((first | refine BoxN.own ?_ | refine VrN.norm (wrap_i64 (by omega)) ?_ | refine VrN.keep ?_ | refine DrawN.calm (by decide +kernel) ?_ | refine Nd.mk (by decide +kernel) ?_ | refine Nd.mk (by omega) ?_ | (refine Nd.mk ?_ ?_; focus ((repeat' (first | exact trivial | exact wkE_refl _ | refine And.intro ?_ ?_)); done)) | refine RdN.intro _ rfl (by rfl) ?_); (conv => whnf))))
    refine ReadW.bytes (e := 5) plain rfl rfl (by kernel_rfl) (by kernel_rfl) (by kernel_rfl) rfl (fun w hw => ?_) ?_
    · have := hw.2.1
      rwa [Nat.mul_one] at this
    ((conv => whnf); (repeat ((first | refine BoxN.own ?_ | refine VrN.norm (wrap_i64 (by omega)) ?_ | refine VrN.keep ?_ | refine DrawN.calm (by decide +kernel) ?_ | refine Nd.mk (by decide +kernel) ?_ | refine Nd.mk (by omega) ?_ | (refine Nd.mk ?_ ?_; focus ((repeat' (first | exact trivial | exact wkE_refl _ | refine And.intro ?_ ?_)); done)) | refine RdN.intro _ rfl (by rfl) ?_); (conv => whnf))))
    refine Nd.mk ⟨by omega, rfl, rfl⟩ ?_
    (conv => whnf)
    refine AppN.grow 1 (partsC out) _ rfl rfl ⟨by omega, ⟨by show (_ + 1) * 32 ≤ _; omega, by omega⟩, by decide⟩ fun b' cap' h3 h4 => ?_
    ((conv => whnf); (repeat ((first | refine BoxN.own ?_ | refine VrN.norm (wrap_i64 (by omega)) ?_ | refine VrN.keep ?_ | refine DrawN.calm (by decide +kernel) ?_ | refine Nd.mk (by decide +kernel) ?_ | refine Nd.mk (by omega) ?_ | (refine Nd.mk ?_ ?_; focus ((repeat' (first | exact trivial | exact wkE_refl _ | refine And.intro ?_ ?_)); done)) | refine RdN.intro _ rfl (by rfl) ?_); (conv => whnf))))
    refine ⟨⟨⟨some b', cap'⟩, ⟨none, 0⟩⟩, ⟨⟨(fun h => by cases h), by simpa [he] using h3, fun h => by have h : cap' = 0 := h; omega⟩, (fun _ => ⟨rfl, rfl⟩), Nat.le_refl _, fun _ => rfl⟩, rfl, ?_⟩
    refine wkH_cons (by simp [he, at0]) (wkH_cons ?_ ⟨wkE_nil, wkH_nil _⟩)
    simp [he, at0, partsC_app]
    exact ⟨rfl, rfl⟩
  · have he : plain = [] := by cases plain <;> simp_all
    subst he
    ((conv => whnf); (repeat ((first | refine BoxN.own ?_ | refine VrN.norm (wrap_i64 (by omega)) ?_ | refine VrN.keep ?_ | refine DrawN.calm (by decide +kernel) ?_ | refine Nd.mk (by decide +kernel) ?_ | refine Nd.mk (by omega) ?_ | (refine Nd.mk ?_ ?_; focus ((repeat' (first | exact trivial | exact wkE_refl _ | refine And.intro ?_ ?_)); done)) | refine RdN.intro _ rfl (by rfl) ?_); (conv => whnf))))
    exact ⟨⟨⟨ob, oc⟩, ⟨pb, pc⟩⟩, ⟨h1, h2⟩, rfl, wkH_refl _⟩
end Go.Proofs.YtfcjgklghgpddaaGreatDoor

/-
  Contracts: the program's reader: the beginning of a line, a margin, a line of code.
-/
namespace Go.Proofs.YtfcjgklghgpddaaGreatDoor
open Go.AX Go.RowKit Go.Erb
set_option maxRecDepth 20000

theorem bol_take {s : List UInt8} {n : Nat} (h0 : n ≠ 0) (hn : n ≤ s.length) {c : UInt8} (hc : s[n - 1]? = some c) : bol (s.take n) = (c == 10) := by
  unfold bol
  have : (s.take n).getLast? = some c := by
    rw [List.getLast?_eq_getElem?, List.length_take, Nat.min_eq_left hn, List.getElem?_take, if_pos (by omega), hc]
  rw [this]
theorem u8_10 (c : UInt8) : ((c.toNat : Int) == 10) = (c == 10) := u8_eq (c := c) (n := 10) (by decide)
theorem starts_c (r : RS) (m : MS) (ok : m.ok r) (ha : r.at_ ≤ r.s.length) (hs : r.s.length ≤ 1000000) : SpecH Tryz.prog 28 [.c (.lp 0 0)] (RH r m) (RetM r (.bool (bol (r.s.take r.at_)))) := by
  refine ownC hm Tryz.func28 (by kernel_rfl) rfl rfl (fun _ _ => RH_ok _ _) (fun _ _ => Nat.le_refl _) ?_
  obtain ⟨s, at_, line, lines, out, plain, begun⟩ := r
  obtain ⟨⟨ob, oc⟩, ⟨pb, pc⟩⟩ := m
  have ha : at_ ≤ s.length := ha
  have hs : s.length ≤ 1000000 := hs
  ((conv => whnf); (repeat ((first | refine BoxN.own ?_ | refine VrN.norm (wrap_i64 (by omega)) ?_ | refine VrN.keep ?_ | refine DrawN.calm (by decide +kernel) ?_ | refine Nd.mk (by decide +kernel) ?_ | refine Nd.mk (by omega) ?_ | (refine Nd.mk ?_ ?_; focus ((repeat' (first | exact trivial | exact wkE_refl _ | refine And.intro ?_ ?_)); done)) | refine RdN.intro _ rfl (by rfl) ?_); (conv => whnf))))
  refine brd_eq (fun h0 => ?_) (fun h0 => ?_)
  · have h0 : at_ = 0 := by have h0 : (at_ : Int) = 0 := h0; omega
    subst h0
    ((conv => whnf); (repeat ((first | refine BoxN.own ?_ | refine VrN.norm (wrap_i64 (by omega)) ?_ | refine VrN.keep ?_ | refine DrawN.calm (by decide +kernel) ?_ | refine Nd.mk (by decide +kernel) ?_ | refine Nd.mk (by omega) ?_ | (refine Nd.mk ?_ ?_; focus ((repeat' (first | exact trivial | exact wkE_refl _ | refine And.intro ?_ ?_)); done)) | refine RdN.intro _ rfl (by rfl) ?_); (conv => whnf))))
    exact ⟨⟨⟨ob, oc⟩, ⟨pb, pc⟩⟩, ok, rfl, wkH_refl _⟩
  · have h0 : at_ ≠ 0 := fun h => h0 (by show (at_ : Int) = 0; omega)
    have hc : ∃ x, s[at_ - 1]? = some x := ⟨_, List.getElem?_eq_getElem (by omega)⟩
    obtain ⟨x, hc⟩ := hc
    have hbx := byteAt_get hc
    have hw : IntKind.wrap .i64 ((at_ : Int) - 1) = ((at_ - 1 : Nat) : Int) := by rw [wrap_i64 (by omega)]; omega
    ((conv => whnf); (repeat ((first | refine BoxN.own ?_ | refine VrN.norm (wrap_i64 (by omega)) ?_ | refine VrN.keep ?_ | refine DrawN.calm (by decide +kernel) ?_ | refine Nd.mk (by decide +kernel) ?_ | refine Nd.mk (by omega) ?_ | (refine Nd.mk ?_ ?_; focus ((repeat' (first | exact trivial | exact wkE_refl _ | refine And.intro ?_ ?_)); done)) | refine RdN.intro _ rfl (by rfl) ?_); (conv => whnf))))
    rw [hw]
    refine Nd.mk ⟨by omega, by rw [bs_size]; show ((at_ - 1 : Nat) : Int) < (s.length : Int); omega⟩ ?_
    rw [Int.toNat_natCast, hbx]
    ((conv => whnf); (repeat ((first | refine BoxN.own ?_ | refine VrN.norm (wrap_i64 (by omega)) ?_ | refine VrN.keep ?_ | refine DrawN.calm (by decide +kernel) ?_ | refine Nd.mk (by decide +kernel) ?_ | refine Nd.mk (by omega) ?_ | (refine Nd.mk ?_ ?_; focus ((repeat' (first | exact trivial | exact wkE_refl _ | refine And.intro ?_ ?_)); done)) | refine RdN.intro _ rfl (by rfl) ?_); (conv => whnf))))
    refine ⟨⟨⟨ob, oc⟩, ⟨pb, pc⟩⟩, ok, ?_, wkH_refl _⟩
    rw [show bol (List.take at_ s) = (x == 10) from bol_take h0 ha hc]
    exact out_bool (u8_10 x)

def allB (l : List UInt8) : Bool := ((trimE blankB l).dropWhile blankB).isEmpty
/-- What stands on the line so far taken away, if it is blanks alone. -/
theorem margin_c (s : List UInt8) (at_ : Nat) (line : Int) (lines : Bool) (out : List Part) (plain : List UInt8) (begun : Int) (m : MS) (f : Nat) (hf : lastAt (s.take at_) 10 at_ + 1 = f) (ok : m.ok ⟨s, at_, line, lines, out, plain, begun⟩) (ha : at_ ≤ s.length) (hs : s.length ≤ 1000000)
    (hb : allB ((s.take at_).drop f) = true → at_ - f ≤ plain.length) (hp : plain.length ≤ 1000000) : SpecH Tryz.prog 49 [.c (.lp 0 0)] (RH ⟨s, at_, line, lines, out, plain, begun⟩ m)
    (RetM ⟨s, at_, line, lines, out, if allB ((s.take at_).drop f) then plain.take (plain.length - (at_ - f)) else plain, begun⟩ unit) := by
  refine ownC hm Tryz.func49 (by kernel_rfl) rfl rfl (fun _ _ => RH_ok _ _) (fun _ _ => Nat.le_refl _) ?_
  obtain ⟨⟨ob, oc⟩, ⟨pb, pc⟩⟩ := m
  obtain ⟨h1, h2⟩ := ok
  have hg := lastAt_ge (s.take at_) 10 at_
  have hw0 : IntKind.wrap .i64 (lastAt (s.take at_) 10 at_ + 1) = (f : Int) := by rw [wrap_i64 (by omega), hf]
  have hL := LastIndexByte_c (s.take at_) 10 (by simp; omega)
  rw [show (s.take at_).length = at_ by simp; omega] at hL
  ((conv => whnf); (repeat ((first | refine BoxN.own ?_ | refine VrN.norm (wrap_i64 (by omega)) ?_ | refine VrN.keep ?_ | refine DrawN.calm (by decide +kernel) ?_ | refine Nd.mk (by decide +kernel) ?_ | refine Nd.mk (by omega) ?_ | (refine Nd.mk ?_ ?_; focus ((repeat' (first | exact trivial | exact wkE_refl _ | refine And.intro ?_ ?_)); done)) | refine RdN.intro _ rfl (by rfl) ?_); (conv => whnf))))
  refine ReadW.sl_h at_ rfl (by kernel_rfl) rfl rfl ⟨rfl, ha⟩ ?_
  ((conv => whnf); (repeat ((first | refine BoxN.own ?_ | refine VrN.norm (wrap_i64 (by omega)) ?_ | refine VrN.keep ?_ | refine DrawN.calm (by decide +kernel) ?_ | refine Nd.mk (by decide +kernel) ?_ | refine Nd.mk (by omega) ?_ | (refine Nd.mk ?_ ?_; focus ((repeat' (first | exact trivial | exact wkE_refl _ | refine And.intro ?_ ?_)); done)) | refine RdN.intro _ rfl (by rfl) ?_); (conv => whnf)))); refine callQ (hL _) ?_
  ((conv => whnf); (repeat ((first | refine VrN.keep ?_ | refine BoxN.own ?_); (conv => whnf))))
  rw [hw0]
  ((conv => whnf); (repeat ((first | refine BoxN.own ?_ | refine VrN.norm (wrap_i64 (by omega)) ?_ | refine VrN.keep ?_ | refine DrawN.calm (by decide +kernel) ?_ | refine Nd.mk (by decide +kernel) ?_ | refine Nd.mk (by omega) ?_ | (refine Nd.mk ?_ ?_; focus ((repeat' (first | exact trivial | exact wkE_refl _ | refine And.intro ?_ ?_)); done)) | refine RdN.intro _ rfl (by rfl) ?_); (conv => whnf))))
  refine ReadW.sl_lh f at_ rfl (by kernel_rfl) rfl rfl rfl ⟨rfl, rfl, by omega, ha⟩ ?_
  ((conv => whnf); (repeat ((first | refine BoxN.own ?_ | refine VrN.norm (wrap_i64 (by omega)) ?_ | refine VrN.keep ?_ | refine DrawN.calm (by decide +kernel) ?_ | refine Nd.mk (by decide +kernel) ?_ | refine Nd.mk (by omega) ?_ | (refine Nd.mk ?_ ?_; focus ((repeat' (first | exact trivial | exact wkE_refl _ | refine And.intro ?_ ?_)); done)) | refine RdN.intro _ rfl (by rfl) ?_); (conv => whnf)))); refine callQ (Trim_c ((s.take at_).drop f) (by simp; omega) _) ?_
  ((conv => whnf); (repeat ((first | refine BoxN.own ?_ | refine VrN.norm (wrap_i64 (by omega)) ?_ | refine VrN.keep ?_ | refine DrawN.calm (by decide +kernel) ?_ | refine Nd.mk (by decide +kernel) ?_ | refine Nd.mk (by omega) ?_ | (refine Nd.mk ?_ ?_; focus ((repeat' (first | exact trivial | exact wkE_refl _ | refine And.intro ?_ ?_)); done)) | refine RdN.intro _ rfl (by rfl) ?_); (conv => whnf))))
  rw [bs_list]
  refine brd_intro (fun h => ?_) (fun h => ?_)
  · have hA : allB ((s.take at_).drop f) = true := by unfold allB; simpa using h
    have hle := hb hA
    have hw : IntKind.wrap .i64 ((plain.length : Int) - IntKind.wrap .i64 ((at_ : Int) - (f : Int))) = ((plain.length - (at_ - f) : Nat) : Int) := by
      rw [wrap_i64 (x := (at_ : Int) - (f : Int)) (by omega), wrap_i64 (by omega)]
      omega
    obtain ⟨h3, h4, h5⟩ := h2
    have hpc : plain.length ≤ pc := h4
    ((conv => whnf); (repeat ((first | refine BoxN.own ?_ | refine VrN.norm (wrap_i64 (by omega)) ?_ | refine VrN.keep ?_ | refine DrawN.calm (by decide +kernel) ?_ | refine Nd.mk (by decide +kernel) ?_ | refine Nd.mk (by omega) ?_ | (refine Nd.mk ?_ ?_; focus ((repeat' (first | exact trivial | exact wkE_refl _ | refine And.intro ?_ ?_)); done)) | refine RdN.intro _ rfl (by rfl) ?_); (conv => whnf))))
    refine DrawN.plan [0, 1, 5, 10, 14] [(2, 1), (3, 1), (4, 1), (6, 1), (7, 1), (8, 1), (9, 1), (11, 1), (12, 1), (13, 1), (15, 1), (16, 1), (17, 1), (18, 1), (19, 1)] [(20, 0)] (by decide +kernel) ?_
    ((conv => whnf); (repeat ((first | refine BoxN.own ?_ | refine VrN.norm (wrap_i64 (by omega)) ?_ | refine VrN.keep ?_ | refine DrawN.calm (by decide +kernel) ?_ | refine Nd.mk (by decide +kernel) ?_ | refine Nd.mk (by omega) ?_ | (refine Nd.mk ?_ ?_; focus ((repeat' (first | exact trivial | exact wkE_refl _ | refine And.intro ?_ ?_)); done)) | refine RdN.intro _ rfl (by rfl) ?_); (conv => whnf))))
    refine ReadW.slc_h (ob := pb) (cap := pc) (j := ((plain.length - (at_ - f) : Nat) : Int)) rfl (by kernel_rfl) rfl (av_int hw) ⟨by omega, by omega⟩ ?_
    rw [Int.toNat_natCast]
    ((conv => whnf); (repeat ((first | refine BoxN.own ?_ | refine VrN.norm (wrap_i64 (by omega)) ?_ | refine VrN.keep ?_ | refine DrawN.calm (by decide +kernel) ?_ | refine Nd.mk (by decide +kernel) ?_ | refine Nd.mk (by omega) ?_ | (refine Nd.mk ?_ ?_; focus ((repeat' (first | exact trivial | exact wkE_refl _ | refine And.intro ?_ ?_)); done)) | refine RdN.intro _ rfl (by rfl) ?_); (conv => whnf))))
    refine ⟨⟨⟨ob, oc⟩, ⟨pb, pc⟩⟩, ⟨h1, ?_⟩, rfl, ?_⟩
    · rw [if_pos hA]
      refine ⟨fun h => ?_, ?_, h5⟩
      · have := h3 h
        exact ⟨by simp; have := this.1; simp at this; simp [this], this.2⟩
      · show (plain.take _).length ≤ pc
        simp
        omega
    · rw [if_pos hA]
      have hl : (plain.take (plain.length - (at_ - f))).length = plain.length - (at_ - f) := by simp
      exact wkH_cons (by simp) (wkH_cons rfl ⟨by
        show wkE (.app _ 1 (u8s plain) _ _ _) (.app _ 1 (u8s (plain.take _)) _ _ _)
        rw [hl]
        exact wkE_cut (by show _ ≤ plain.length; omega) (by simp [u8s, List.map_take]), wkH_nil _⟩)
  · have hA : allB ((s.take at_).drop f) = false := by unfold allB; simpa using h
    ((conv => whnf); (repeat ((first | refine BoxN.own ?_ | refine VrN.norm (wrap_i64 (by omega)) ?_ | refine VrN.keep ?_ | refine DrawN.calm (by decide +kernel) ?_ | refine Nd.mk (by decide +kernel) ?_ | refine Nd.mk (by omega) ?_ | (refine Nd.mk ?_ ?_; focus ((repeat' (first | exact trivial | exact wkE_refl _ | refine And.intro ?_ ?_)); done)) | refine RdN.intro _ rfl (by rfl) ?_); (conv => whnf))))
    rw [hA]
    exact ⟨⟨⟨ob, oc⟩, ⟨pb, pc⟩⟩, ⟨h1, h2⟩, rfl, wkH_refl _⟩
end Go.Proofs.YtfcjgklghgpddaaGreatDoor

/-
  Contract: the program's reader: a line of code.
-/
namespace Go.Proofs.YtfcjgklghgpddaaGreatDoor
open Go.AX Go.RowKit Go.Erb
set_option maxRecDepth 20000

theorem idx10 : ∀ l : List UInt8, Lib.index l [10] = if l.contains 10 then ((l.takeWhile (· != 10)).length : Int) else -1
  | [] => rfl
  | b :: l => by
    unfold Lib.index
    rw [idx10 l]
    by_cases hb : b = 10
    · subst hb
      simp [List.isPrefixOf]
    · have h1 : [10].isPrefixOf (b :: l) = false := by simp [List.isPrefixOf]; exact fun h => hb h.symm
      have h2 : (b :: l).takeWhile (· != 10) = b :: l.takeWhile (· != 10) := by simp [hb]
      rw [if_neg (by simp [h1]), h2]
      have h3 : (b :: l).contains 10 = l.contains 10 := by simp; exact fun h => absurd h.symm hb
      rw [h3]
      split
      · rw [if_neg (by simp)]; simp
      · rfl
theorem cut10 (l : List UInt8) : Lib.cut l [10] = if l.contains 10 then (l.takeWhile (· != 10), l.drop ((l.takeWhile (· != 10)).length + 1), true) else (l, [], false) := by
  unfold Lib.cut
  rw [idx10]
  split
  · rw [if_pos (by omega)]
    have h := (List.takeWhile_prefix (p := (· != 10)) (l := l))
    rw [Int.toNat_natCast, ← List.prefix_iff_eq_take.1 h]
    rfl
  · rw [if_neg (by omega)]
theorem split10 (l : List UInt8) : (10 ∉ l) ∨ ∃ t r, l = t ++ 10 :: r ∧ 10 ∉ t := by
  induction l with
  | nil => exact .inl (by simp)
  | cons b l ih =>
    by_cases hb : b = 10
    · exact .inr ⟨[], l, by rw [hb]; rfl, by simp⟩
    · rcases ih with h | ⟨t, r, rfl, h⟩
      · exact .inl (by simp; exact ⟨fun e => hb e.symm, h⟩)
      · exact .inr ⟨b :: t, r, rfl, by simp; exact ⟨fun e => hb e.symm, h⟩⟩
theorem takeW_no {l : List UInt8} (h : 10 ∉ l) : l.takeWhile (· != 10) = l := by
  induction l with
  | nil => rfl
  | cons b l ih =>
    simp at h
    simp [show ¬ b = 10 from fun e => h.1 e.symm, ih h.2]
theorem takeW_at {t : List UInt8} (h : 10 ∉ t) (r : List UInt8) : (t ++ 10 :: r).takeWhile (· != 10) = t := by
  induction t with
  | nil => rfl
  | cons b l ih =>
    simp at h
    simp [show ¬ b = 10 from fun e => h.1 e.symm, ih h.2]
theorem cut10_no {l : List UInt8} (h : 10 ∉ l) : Lib.cut l [10] = (l, [], false) := by
  rw [cut10, if_neg (by simpa using h)]
theorem cut10_at {t : List UInt8} (h : 10 ∉ t) (r : List UInt8) : Lib.cut (t ++ 10 :: r) [10] = (t, r, true) := by
  rw [cut10, if_pos (by simp), takeW_at h]
  simp
theorem ln_app (a b : List UInt8) : ln (a ++ b) = ln a + (b.count 10 : Nat) := by simp [ln]; omega
theorem ln_bd (a : List UInt8) : 1 ≤ ln a ∧ ln a ≤ 1 + (a.length : Int) := by
  have := List.count_le_length (a := 10) (l := a)
  unfold ln; omega
theorem RHf_ok (r : RS) (m : MS) : okH (RH r m ++ [Ent.fact MaxF]).length (RH r m ++ [Ent.fact MaxF]) := okHB_eq rfl
theorem add_x (s : List UInt8) (at_ : Nat) (line : Int) (lines : Bool) (out : List Part) (plain : List UInt8) (begun : Int) (m : MS) (c : UInt8) (ok : m.ok ⟨s, at_, line, lines, out, plain, begun⟩) (hl : -1000000 ≤ line ∧ line ≤ 1000000) (hp : plain.length ≤ 1000000) : SpecH Tryz.prog 31 [.c (.lp 0 0), .c (.v (.int .u8 (c.toNat : Int)))] (RH ⟨s, at_, line, lines, out, plain, begun⟩ m)
    (RetM ⟨s, at_, if c = 10 then line + 1 else line, lines, out, plain ++ [c], if plain.isEmpty then line else begun⟩ unit) := add_c _ m c ok hl hp
theorem starts_x (s : List UInt8) (at_ : Nat) (line : Int) (lines : Bool) (out : List Part) (plain : List UInt8) (begun : Int) (m : MS) (ok : m.ok ⟨s, at_, line, lines, out, plain, begun⟩) (ha : at_ ≤ s.length) (hs : s.length ≤ 1000000) : SpecH Tryz.prog 28 [.c (.lp 0 0)] (RH ⟨s, at_, line, lines, out, plain, begun⟩ m) (RetM ⟨s, at_, line, lines, out, plain, begun⟩ (.bool (bol (s.take at_)))) := starts_c _ m ok ha hs
/-- The call hands back v, and leaves the reader as r', beside the fact. -/
def RetF (r : RS) (v : Value) : Out → List Ent → Prop := RetG (ι := MS) (fun m => m.ok r) (fun _ => v) fun m => RH r m ++ [.fact MaxF]
def outC (out : List Part) (plain : List UInt8) (begun : Int) : List Part := if plain.isEmpty then out else out ++ [⟨0, begun, plain⟩]
theorem outC_len (out : List Part) (plain : List UInt8) (begun : Int) : (outC out plain begun).length ≤ out.length + 1 := by unfold outC; split <;> simp
theorem flush_x (s : List UInt8) (at_ : Nat) (line : Int) (lines : Bool) (out : List Part) (plain : List UInt8) (begun : Int) (m : MS) (ok : m.ok ⟨s, at_, line, lines, out, plain, begun⟩) (hp : plain.length ≤ 1000000) (ho : out.length ≤ 1000000) : SpecH Tryz.prog 33 [.c (.lp 0 0)] (RH ⟨s, at_, line, lines, out, plain, begun⟩ m)
    (RetM ⟨s, at_, line, lines, outC out plain begun, [], begun⟩ unit) := flush_c _ m ok hp ho
theorem codeLine_at (pre : List UInt8) (c : UInt8) (t r : List UInt8) (ht : 10 ∉ t) (lines : Bool) (out : List Part) (plain : List UInt8) (begun : Int) (m : MS) (ok : m.ok ⟨pre ++ c :: (t ++ 10 :: r), pre.length, ln pre, lines, out, plain, begun⟩) (hs : (pre ++ c :: (t ++ 10 :: r)).length ≤ 100000) (ho : out.length ≤ 900000) (hp : plain.length ≤ 1000000) :
    SpecH Tryz.prog 30 [.c (.lp 0 0)] (RH ⟨pre ++ c :: (t ++ 10 :: r), pre.length, ln pre, lines, out, plain, begun⟩ m ++ [.fact MaxF])
    (RetF ⟨pre ++ c :: (t ++ 10 :: r), pre.length + t.length + 2, ln pre + 1, lines, outC out plain begun ++ [⟨1, ln pre, t⟩], [], begun⟩ unit) := by
  refine ownC hm Tryz.func30 (by kernel_rfl) rfl rfl (fun _ _ => RHf_ok _ _) (fun _ _ => Nat.le_refl _) ?_
  have hln := ln_bd pre
  have hpl : pre.length + t.length + 1 ≤ 100000 := by simp at hs; omega
  have hd : (pre ++ c :: (t ++ 10 :: r)).drop (pre.length + 1) = (t ++ 10 :: r) := by rw [List.drop_append]; simp
  have hw1 : IntKind.wrap .i64 ((pre.length : Int) + 1) = ((pre.length + 1 : Nat) : Int) := by rw [wrap_i64 (by omega)]; omega
  have hC := Cut_c (t ++ 10 :: r) [10] (by simp at hs ⊢; omega)
  rw [cut10_at ht] at hC
  have hol := outC_len out plain begun
  ((conv => whnf); (repeat ((first | refine BoxN.own ?_ | refine VrN.norm (wrap_i64 (by omega)) ?_ | refine VrN.keep ?_ | refine DrawN.calm (by decide +kernel) ?_ | refine Nd.mk (by decide +kernel) ?_ | refine Nd.mk (by omega) ?_ | (refine Nd.mk ?_ ?_; focus ((repeat' (first | exact trivial | exact wkE_refl _ | refine And.intro ?_ ?_)); done)) | refine RdN.intro _ rfl (by rfl) ?_); (conv => whnf))))
  rw [hw1]
  refine ReadW.sl_l (pre.length + 1) rfl (by kernel_rfl) rfl rfl ⟨rfl, by simp⟩ ?_
  rw [hd]
  ((conv => whnf); (repeat ((first | refine BoxN.own ?_ | refine VrN.norm (wrap_i64 (by omega)) ?_ | refine VrN.keep ?_ | refine DrawN.calm (by decide +kernel) ?_ | refine Nd.mk (by decide +kernel) ?_ | refine Nd.mk (by omega) ?_ | (refine Nd.mk ?_ ?_; focus ((repeat' (first | exact trivial | exact wkE_refl _ | refine And.intro ?_ ?_)); done)) | refine RdN.intro _ rfl (by rfl) ?_); (conv => whnf)))); refine callQ (hC _ fun w hw => hw.2.2.1) ?_
  ((conv => whnf); (repeat ((first | refine BoxN.own ?_ | refine VrN.norm (wrap_i64 (by omega)) ?_ | refine VrN.keep ?_ | refine DrawN.calm (by decide +kernel) ?_ | refine Nd.mk (by decide +kernel) ?_ | refine Nd.mk (by omega) ?_ | (refine Nd.mk ?_ ?_; focus ((repeat' (first | exact trivial | exact wkE_refl _ | refine And.intro ?_ ?_)); done)) | refine RdN.intro _ rfl (by rfl) ?_); (conv => whnf))))
  refine callG (flush_x (pre ++ c :: (t ++ 10 :: r)) pre.length (ln pre) lines out plain begun m ok hp (by omega)) [0, 1, 2] rfl ⟨rfl, rfl, rfl, trivial⟩ rfl fun m' ok' => ?_
  obtain ⟨⟨ob, oc⟩, ⟨pb, pc⟩⟩ := m'
  obtain ⟨h1, h2⟩ := ok'
  ((conv => whnf); (repeat ((first | refine BoxN.own ?_ | refine VrN.norm (wrap_i64 (by omega)) ?_ | refine VrN.keep ?_ | refine DrawN.calm (by decide +kernel) ?_ | refine Nd.mk (by decide +kernel) ?_ | refine Nd.mk (by omega) ?_ | (refine Nd.mk ?_ ?_; focus ((repeat' (first | exact trivial | exact wkE_refl _ | refine And.intro ?_ ?_)); done)) | refine RdN.intro _ rfl (by rfl) ?_); (conv => whnf))))
  refine DrawN.plan [0, 1, 5, 9] [(2, 1), (3, 1), (4, 1), (6, 1), (7, 1), (8, 1), (10, 1), (11, 0)] [(12, 0), (13, 0), (14, 0), (15, 0)] (by decide +kernel) ?_
  ((conv => whnf); (repeat ((first | refine BoxN.own ?_ | refine VrN.norm (wrap_i64 (by omega)) ?_ | refine VrN.keep ?_ | refine DrawN.calm (by decide +kernel) ?_ | refine Nd.mk (by decide +kernel) ?_ | refine Nd.mk (by omega) ?_ | (refine Nd.mk ?_ ?_; focus ((repeat' (first | exact trivial | exact wkE_refl _ | refine And.intro ?_ ?_)); done)) | refine RdN.intro _ rfl (by rfl) ?_); (conv => whnf))))
  refine Nd.mk ⟨by omega, rfl, rfl⟩ ?_
  (conv => whnf)
  refine AppN.grow 1 (partsC (outC out plain begun)) _ rfl rfl ⟨by omega, ⟨by show ((outC out plain begun).length + 1) * 32 ≤ _; omega, by show (outC out plain begun).length + 1 < _; omega⟩, by decide⟩ fun b' cap' h3 h4 => ?_
  ((conv => whnf); (repeat ((first | refine BoxN.own ?_ | refine VrN.norm (wrap_i64 (by omega)) ?_ | refine VrN.keep ?_ | refine DrawN.calm (by decide +kernel) ?_ | refine Nd.mk (by decide +kernel) ?_ | refine Nd.mk (by omega) ?_ | (refine Nd.mk ?_ ?_; focus ((repeat' (first | exact trivial | exact wkE_refl _ | refine And.intro ?_ ?_)); done)) | refine RdN.intro _ rfl (by rfl) ?_); (conv => whnf))))
  have e1 : IntKind.wrap .i64 (IntKind.wrap .i64 ((pre.length : Int) + IntKind.wrap .i64 (1 + ((bs t).size : Int))) + 1) = ((pre.length + t.length + 2 : Nat) : Int) := by
    rw [bs_size, wrap_i64 (x := 1 + (t.length : Int)) (by omega), wrap_i64 (x := (pre.length : Int) + (1 + (t.length : Int))) (by omega), wrap_i64 (by omega)]
    omega
  have e2 : IntKind.wrap .i64 (ln pre + 1) = ln pre + 1 := wrap_i64 (by omega)
  refine ⟨⟨⟨some b', cap'⟩, ⟨pb, pc⟩⟩, ⟨⟨(fun h => by cases h), by rw [List.length_append]; exact h3, fun h => by have h : cap' = 0 := h; omega⟩, h2⟩, rfl, ?_⟩
  refine wkH_cons ?_ (wkH_cons ?_ (wkH_cons rfl (wkH_cons rfl (wkH_nil _))))
  · simp only [rnCs, rnC]
    rw [e1, e2]
    simp [outC, at0]
  · simp [outC, at0, partsC_app]
    exact ⟨rfl, rfl⟩
theorem codeLine_no (pre : List UInt8) (c : UInt8) (t : List UInt8) (ht : 10 ∉ t) (lines : Bool) (out : List Part) (plain : List UInt8) (begun : Int) (m : MS) (ok : m.ok ⟨pre ++ c :: t, pre.length, ln pre, lines, out, plain, begun⟩) (hs : (pre ++ c :: t).length ≤ 100000) (ho : out.length ≤ 900000) (hp : plain.length ≤ 1000000) :
    SpecH Tryz.prog 30 [.c (.lp 0 0)] (RH ⟨pre ++ c :: t, pre.length, ln pre, lines, out, plain, begun⟩ m ++ [.fact MaxF])
    (RetF ⟨pre ++ c :: t, pre.length + t.length + 1, ln pre, lines, outC out plain begun ++ [⟨1, ln pre, t⟩], [], begun⟩ unit) := by
  refine ownC hm Tryz.func30 (by kernel_rfl) rfl rfl (fun _ _ => RHf_ok _ _) (fun _ _ => Nat.le_refl _) ?_
  have hln := ln_bd pre
  have hpl : pre.length + t.length + 1 ≤ 100000 := by simp at hs; omega
  have hd : (pre ++ c :: t).drop (pre.length + 1) = t := by rw [List.drop_append]; simp
  have hw1 : IntKind.wrap .i64 ((pre.length : Int) + 1) = ((pre.length + 1 : Nat) : Int) := by rw [wrap_i64 (by omega)]; omega
  have hC := Cut_c t [10] (by simp at hs ⊢; omega)
  rw [cut10_no ht] at hC
  have hol := outC_len out plain begun
  ((conv => whnf); (repeat ((first | refine BoxN.own ?_ | refine VrN.norm (wrap_i64 (by omega)) ?_ | refine VrN.keep ?_ | refine DrawN.calm (by decide +kernel) ?_ | refine Nd.mk (by decide +kernel) ?_ | refine Nd.mk (by omega) ?_ | (refine Nd.mk ?_ ?_; focus ((repeat' (first | exact trivial | exact wkE_refl _ | refine And.intro ?_ ?_)); done)) | refine RdN.intro _ rfl (by rfl) ?_); (conv => whnf))))
  rw [hw1]
  refine ReadW.sl_l (pre.length + 1) rfl (by kernel_rfl) rfl rfl ⟨rfl, by simp⟩ ?_
  rw [hd]
  ((conv => whnf); (repeat ((first | refine BoxN.own ?_ | refine VrN.norm (wrap_i64 (by omega)) ?_ | refine VrN.keep ?_ | refine DrawN.calm (by decide +kernel) ?_ | refine Nd.mk (by decide +kernel) ?_ | refine Nd.mk (by omega) ?_ | (refine Nd.mk ?_ ?_; focus ((repeat' (first | exact trivial | exact wkE_refl _ | refine And.intro ?_ ?_)); done)) | refine RdN.intro _ rfl (by rfl) ?_); (conv => whnf)))); refine callQ (hC _ fun w hw => hw.2.2.1) ?_
  ((conv => whnf); (repeat ((first | refine BoxN.own ?_ | refine VrN.norm (wrap_i64 (by omega)) ?_ | refine VrN.keep ?_ | refine DrawN.calm (by decide +kernel) ?_ | refine Nd.mk (by decide +kernel) ?_ | refine Nd.mk (by omega) ?_ | (refine Nd.mk ?_ ?_; focus ((repeat' (first | exact trivial | exact wkE_refl _ | refine And.intro ?_ ?_)); done)) | refine RdN.intro _ rfl (by rfl) ?_); (conv => whnf))))
  refine callG (flush_x (pre ++ c :: t) pre.length (ln pre) lines out plain begun m ok hp (by omega)) [0, 1, 2] rfl ⟨rfl, rfl, rfl, trivial⟩ rfl fun m' ok' => ?_
  obtain ⟨⟨ob, oc⟩, ⟨pb, pc⟩⟩ := m'
  obtain ⟨h1, h2⟩ := ok'
  ((conv => whnf); (repeat ((first | refine BoxN.own ?_ | refine VrN.norm (wrap_i64 (by omega)) ?_ | refine VrN.keep ?_ | refine DrawN.calm (by decide +kernel) ?_ | refine Nd.mk (by decide +kernel) ?_ | refine Nd.mk (by omega) ?_ | (refine Nd.mk ?_ ?_; focus ((repeat' (first | exact trivial | exact wkE_refl _ | refine And.intro ?_ ?_)); done)) | refine RdN.intro _ rfl (by rfl) ?_); (conv => whnf))))
  refine DrawN.plan [0, 1, 5, 9] [(2, 1), (3, 1), (4, 1), (6, 1), (7, 1), (8, 1), (10, 1), (11, 0)] [(12, 0), (13, 0), (14, 0), (15, 0)] (by decide +kernel) ?_
  ((conv => whnf); (repeat ((first | refine BoxN.own ?_ | refine VrN.norm (wrap_i64 (by omega)) ?_ | refine VrN.keep ?_ | refine DrawN.calm (by decide +kernel) ?_ | refine Nd.mk (by decide +kernel) ?_ | refine Nd.mk (by omega) ?_ | (refine Nd.mk ?_ ?_; focus ((repeat' (first | exact trivial | exact wkE_refl _ | refine And.intro ?_ ?_)); done)) | refine RdN.intro _ rfl (by rfl) ?_); (conv => whnf))))
  refine Nd.mk ⟨by omega, rfl, rfl⟩ ?_
  (conv => whnf)
  refine AppN.grow 1 (partsC (outC out plain begun)) _ rfl rfl ⟨by omega, ⟨by show ((outC out plain begun).length + 1) * 32 ≤ _; omega, by show (outC out plain begun).length + 1 < _; omega⟩, by decide⟩ fun b' cap' h3 h4 => ?_
  ((conv => whnf); (repeat ((first | refine BoxN.own ?_ | refine VrN.norm (wrap_i64 (by omega)) ?_ | refine VrN.keep ?_ | refine DrawN.calm (by decide +kernel) ?_ | refine Nd.mk (by decide +kernel) ?_ | refine Nd.mk (by omega) ?_ | (refine Nd.mk ?_ ?_; focus ((repeat' (first | exact trivial | exact wkE_refl _ | refine And.intro ?_ ?_)); done)) | refine RdN.intro _ rfl (by rfl) ?_); (conv => whnf))))
  have e1 : IntKind.wrap .i64 ((pre.length : Int) + IntKind.wrap .i64 (1 + ((bs t).size : Int))) = ((pre.length + t.length + 1 : Nat) : Int) := by
    rw [bs_size, wrap_i64 (x := 1 + (t.length : Int)) (by omega), wrap_i64 (by omega)]
    omega
  refine ⟨⟨⟨some b', cap'⟩, ⟨pb, pc⟩⟩, ⟨⟨(fun h => by cases h), by rw [List.length_append]; exact h3, fun h => by have h : cap' = 0 := h; omega⟩, h2⟩, rfl, ?_⟩
  refine wkH_cons ?_ (wkH_cons ?_ (wkH_cons rfl (wkH_cons rfl (wkH_nil _))))
  · simp only [rnCs, rnC]
    rw [e1]
    simp [outC, at0]
  · simp [outC, at0, partsC_app]
    exact ⟨rfl, rfl⟩
end Go.Proofs.YtfcjgklghgpddaaGreatDoor

/-
  Contract: the program's reader: a tag.
-/
namespace Go.Proofs.YtfcjgklghgpddaaGreatDoor
open Go.AX Go.RowKit Go.Erb
set_option maxRecDepth 20000

/-- The blanks at the end of what was read are those at the end of the text so far. -/
structure Bl (pre plain fp : List UInt8) : Prop where
  ex : ∃ u c b : List UInt8, pre = u ++ b ∧ plain = c ++ b ∧ (∀ x ∈ b, blankB x = true) ∧ (∀ x, u.getLast? = some x → blankB x = false) ∧
    (c = [] → b ≠ [] → fp = u) ∧ (c ≠ [] → c.getLast? = u.getLast?)
theorem trimE_split {u b : List UInt8} (hb : ∀ x ∈ b, blankB x = true) (hu : ∀ x, u.getLast? = some x → blankB x = false) : trimE blankB (u ++ b) = u := by
  unfold trimE
  rw [List.reverse_append, List.dropWhile_append_of_pos (by simpa using hb)]
  cases hr : u.reverse with
  | nil => simpa using hr.symm
  | cons x l =>
    have hx : u.getLast? = some x := by
      have := congrArg List.head? hr
      rwa [List.head?_reverse] at this
    rw [List.dropWhile_cons_of_neg (by simp [hu x hx]), ← hr, List.reverse_reverse]
theorem trimR_eq (l : List UInt8) : trimR l = trimE blankB l := rfl
theorem lastAt_no {s : List UInt8} {c : UInt8} (h : c ∉ s) : ∀ k, lastAt s c k = -1
  | 0 => rfl
  | k + 1 => by
    unfold lastAt
    rw [if_neg (fun h2 => h (List.mem_of_getElem? h2)), lastAt_no h k]
theorem lastAt_at (x y : List UInt8) (c : UInt8) (hy : c ∉ y) : ∀ j, j ≤ y.length → lastAt (x ++ c :: y) c (x.length + 1 + j) = (x.length : Int)
  | 0, _ => by
    rw [Nat.add_zero]
    unfold lastAt
    simp
  | j + 1, hj => by
    rw [show x.length + 1 + (j + 1) = (x.length + 1 + j) + 1 by omega]
    unfold lastAt
    have : (x ++ c :: y)[x.length + 1 + j]? ≠ some c := by
      rw [List.getElem?_append_right (by omega), show x.length + 1 + j - x.length = j + 1 by omega, List.getElem?_cons_succ]
      exact fun h => hy (List.mem_of_getElem? h)
    rw [if_neg this, lastAt_at x y c hy j (by omega)]
theorem split_last (l : List UInt8) (c : UInt8) : c ∉ l ∨ ∃ x y, l = x ++ c :: y ∧ c ∉ y := by
  induction l with
  | nil => exact .inl (by simp)
  | cons d l ih =>
    rcases ih with hn | ⟨x, y, rfl, hy⟩
    · by_cases hd : d = c
      · exact .inr ⟨[], l, by rw [hd]; rfl, hn⟩
      · exact .inl (by simp; exact ⟨fun e => hd e.symm, hn⟩)
    · exact .inr ⟨d :: x, y, rfl, hy⟩
theorem dropW_nil {p : UInt8 → Bool} {l : List UInt8} : l.dropWhile p = [] ↔ ∀ x ∈ l, p x = true := by
  induction l with
  | nil => simp
  | cons d l ih =>
    by_cases hd : p d = true
    · rw [List.dropWhile_cons_of_pos hd, ih]; simp [hd]
    · rw [List.dropWhile_cons_of_neg hd]; simp [hd]
theorem allB_iff (l : List UInt8) : allB l = true ↔ ∀ x ∈ l, blankB x = true := by
  unfold allB
  rw [List.isEmpty_iff, dropW_nil]
  constructor
  · intro h x hx
    by_cases hb : blankB x = true
    · exact hb
    · -- what is no blank is kept
      have : x ∈ trimE blankB l := by
        unfold trimE
        rw [List.mem_reverse]
        have hx' : x ∈ l.reverse := by simpa using hx
        rw [← List.takeWhile_append_dropWhile (p := blankB) (l := l.reverse)] at hx'
        rcases List.mem_append.1 hx' with h1 | h1
        · exact absurd (by have := List.all_takeWhile (p := blankB) (l := l.reverse); rw [List.all_eq_true] at this; exact this x h1) hb
        · exact h1
      exact h x this
  · intro h x hx
    unfold trimE at hx
    rw [List.mem_reverse] at hx
    exact h x (by simpa using (List.dropWhile_suffix _).subset hx)
/-- The margin that the program takes away is the text trimmed. -/
theorem margin_eq {pre plain fp : List UInt8} (h : Bl pre plain fp) : ∃ f : Nat, lastAt pre 10 pre.length + 1 = f ∧ (allB (pre.drop f) = true → pre.length - f ≤ plain.length) ∧
    (if allB (pre.drop f) then plain.take (plain.length - (pre.length - f)) else plain) = trim plain fp := by
  obtain ⟨u, c, b, rfl, rfl, hb, hu, h0, h1⟩ := h.ex
  have h10b : (10 : UInt8) ∉ b := fun h => by have := hb 10 h; exact absurd this (by decide)
  -- the place where the line begins
  have hplace : ∃ f : Nat, lastAt (u ++ b) 10 (u ++ b).length + 1 = f ∧ ((∀ x ∈ (u ++ b).drop f, blankB x = true) ↔ (u = [] ∨ u.getLast? = some 10)) ∧ (u = [] ∨ u.getLast? = some 10 → f = u.length) := by
    rcases split_last u 10 with hn | ⟨x, y, rfl, hy⟩
    · refine ⟨0, by rw [lastAt_no (by simp; exact ⟨hn, h10b⟩)]; rfl, ?_, ?_⟩
      · rw [List.drop_zero]
        constructor
        · intro h
          left
          cases hl : u.getLast? with
          | none => simpa using hl
          | some z => exact absurd (h z (List.mem_append_left _ (List.mem_of_getLast? hl))) (by simp [hu z hl])
        · rintro (rfl | h)
          · simpa using hb
          · exact absurd (List.mem_of_getLast? h) hn
      · rintro (rfl | h)
        · rfl
        · exact absurd (List.mem_of_getLast? h) hn
    · have hl := lastAt_at x (y ++ b) 10 (by simp; exact ⟨hy, h10b⟩) (y ++ b).length (Nat.le_refl _)
      rw [show x ++ 10 :: (y ++ b) = x ++ 10 :: y ++ b by simp, show x.length + 1 + (y ++ b).length = (x ++ 10 :: y ++ b).length by simp; omega] at hl
      refine ⟨x.length + 1, by rw [hl]; omega, ?_, ?_⟩
      · rw [show (x ++ 10 :: y ++ b).drop (x.length + 1) = y ++ b by rw [List.append_assoc, List.drop_append]; simp]
        constructor
        · intro h
          right
          cases hyl : y.getLast? with
          | none =>
            have : y = [] := by simpa using hyl
            subst this
            simp
          | some z =>
            have hz : (x ++ 10 :: y).getLast? = some z := by
              rw [List.getLast?_append, List.getLast?_cons, hyl]; rfl
            exact absurd (h z (List.mem_append_left _ (List.mem_of_getLast? hyl))) (by simp [hu z hz])
        · rintro (h | h)
          · simp at h
          · intro z hz
            rcases List.mem_append.1 hz with hz | hz
            · cases hyl : y.getLast? with
              | none =>
                have : y = [] := by simpa using hyl
                subst this
                cases hz
              | some q =>
                have hq : (x ++ 10 :: y).getLast? = some q := by
                  rw [List.getLast?_append, List.getLast?_cons, hyl]; rfl
                rw [hq] at h
                cases h
                exact absurd (List.mem_of_getLast? hyl) hy
            · exact hb z hz
      · rintro (h | h)
        · simp at h
        · cases hyl : y.getLast? with
          | none =>
            have : y = [] := by simpa using hyl
            subst this
            simp
          | some q =>
            have hq : (x ++ 10 :: y).getLast? = some q := by
              rw [List.getLast?_append, List.getLast?_cons, hyl]; rfl
            rw [hq] at h
            cases h
            exact absurd (List.mem_of_getLast? hyl) hy
  obtain ⟨f, hf, hiff, hfu⟩ := hplace
  have hall : allB ((u ++ b).drop f) = true ↔ (u = [] ∨ u.getLast? = some 10) := (allB_iff _).trans hiff
  refine ⟨f, hf, fun h => ?_, ?_⟩
  · rw [hfu (hall.1 h)]; simp
  · -- the text, trimmed
    have hcl : ∀ x, c.getLast? = some x → blankB x = false := fun x hx => by
      have hc : c ≠ [] := fun e => by rw [e] at hx; cases hx
      exact hu x (by rw [← h1 hc]; exact hx)
    have ht : trimR (c ++ b) = c := by rw [trimR_eq]; exact trimE_split hb hcl
    unfold trim
    rw [ht]
    by_cases hA : u = [] ∨ u.getLast? = some 10
    · rw [if_pos (hall.2 hA), hfu hA]
      have e : (c ++ b).take ((c ++ b).length - ((u ++ b).length - u.length)) = c := by
        rw [show (c ++ b).length - ((u ++ b).length - u.length) = c.length by simp]
        simp
      rw [e]
      by_cases hc : c = []
      · subst hc
        by_cases hb0 : b = []
        · subst hb0; simp
        · have hfp := h0 rfl hb0
          rw [if_pos]
          simp only [List.isEmpty_nil, Bool.true_and, Bool.or_eq_true]
          left
          rw [hfp]
          rcases hA with rfl | h
          · rfl
          · simp [bol, h]
      · rw [if_pos]
        rw [Bool.or_eq_true]
        right
        rw [h1 hc]
        rcases hA with rfl | h
        · have := h1 hc; simp at this; exact absurd this hc
        · rw [h]; rfl
    · rw [if_neg (fun h => hA (hall.1 h))]
      by_cases hc : c = []
      · subst hc
        by_cases hb0 : b = []
        · subst hb0; simp
        · have hfp := h0 rfl hb0
          rw [if_neg]
          simp only [List.isEmpty_nil, Bool.true_and, List.getLast?_nil, Bool.or_eq_true, not_or]
          refine ⟨fun h => hA ?_, by decide⟩
          rw [hfp] at h
          unfold bol at h
          cases hl : u.getLast? with
          | none => left; simpa using hl
          | some z => rw [hl] at h; right; rw [beq_iff_eq.1 h]
      · rw [if_neg]
        rw [Bool.or_eq_true, not_or]
        refine ⟨by cases c <;> simp_all, fun h => hA (.inr ?_)⟩
        rw [← h1 hc]
        exact beq_iff_eq.1 h
end Go.Proofs.YtfcjgklghgpddaaGreatDoor
