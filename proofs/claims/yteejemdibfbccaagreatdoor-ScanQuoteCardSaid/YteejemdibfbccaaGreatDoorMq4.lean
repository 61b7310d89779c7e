/-
  Lemmas (S2 S3 S4 S5 S6 S7 S8 S9 R1 K1 X1 L1 X2 Ax39 X3 Y1 Ax40 Y2 N1 N2 W1 Y3).
-/
import Derived.Lay
import Derived.Lib.LaidU8
import Derived.PinnedBridge
import Derived.Lib.IndexAny
import Derived.Lib.IndexMore
import Derived.Test.YteejemdibfbccaaGreatDoorMq3
/-
  Contracts: kinds of bytes (program).
-/
namespace Go.Scan
def sml (c : UInt8) : Bool := (decide (97 ≤ c.toNat) && decide (c.toNat ≤ 122)) || decide (c.toNat = 95)
def grt (c : UInt8) : Bool := decide (65 ≤ c.toNat) && decide (c.toNat ≤ 90)
def dig (c : UInt8) : Bool := decide (48 ≤ c.toNat) && decide (c.toNat ≤ 57)
def ltr (c : UInt8) : Bool := sml c || grt c
def wrd (c : UInt8) : Bool := ltr c || dig c
def blk (c : UInt8) : Bool := decide (c.toNat = 32) || decide (c.toNat = 9)
end Go.Scan
namespace Go.Proofs.YteejemdibfbccaaGreatDoor
open Go.AX Go.RowKit Go.Scan
set_option maxRecDepth 20000

theorem ret_b {a b : Bool} (h : a = true ↔ b = true) : Out.val (.c (.v (.bool a))) = Out.val (.c (.v (.bool b))) := by rw [Bool.eq_iff_iff.2 h]
-- isSmall: the function, sml: what it tells
theorem sml_c (c : UInt8) : ∀ H, SpecH Tryz.prog 33 (pvs [.int .u8 (c.toNat : Int)]) H (Ret (.bool (sml c)) H) := by
  refine pureC hm Tryz.func33 (by kernel_rfl) rfl rfl ?_
  (first | refine wX ?_ | exact wZ)
  (repeat' (first | (refine brd_dec (fun _ => ?_) (fun _ => ?_)) | (refine brd_eq (fun _ => ?_) (fun _ => ?_))))
  all_goals (first | refine wX ?_ | exact wZ)
  (repeat' (first | (refine brd_dec (fun _ => ?_) (fun _ => ?_)) | (refine brd_eq (fun _ => ?_) (fun _ => ?_))))
  all_goals (first | refine wX ?_ | exact wZ)
  (repeat' (first | (refine brd_dec (fun _ => ?_) (fun _ => ?_)) | (refine brd_eq (fun _ => ?_) (fun _ => ?_))))
  all_goals (first | refine wX ?_ | exact wZ)
  all_goals
    refine ret_b ?_
    simp [sml]
    try omega
-- isBlank: the function, blk: what it tells
theorem blk_c (c : UInt8) : ∀ H, SpecH Tryz.prog 59 (pvs [.int .u8 (c.toNat : Int)]) H (Ret (.bool (blk c)) H) := by
  refine pureC hm Tryz.func59 (by kernel_rfl) rfl rfl ?_
  (first | refine wX ?_ | exact wZ)
  (repeat' (first | (refine brd_dec (fun _ => ?_) (fun _ => ?_)) | (refine brd_eq (fun _ => ?_) (fun _ => ?_))))
  all_goals (first | refine wX ?_ | exact wZ)
  (repeat' (first | (refine brd_dec (fun _ => ?_) (fun _ => ?_)) | (refine brd_eq (fun _ => ?_) (fun _ => ?_))))
  all_goals (first | refine wX ?_ | exact wZ)
  (repeat' (first | (refine brd_dec (fun _ => ?_) (fun _ => ?_)) | (refine brd_eq (fun _ => ?_) (fun _ => ?_))))
  all_goals (first | refine wX ?_ | exact wZ)
  all_goals
    refine ret_b ?_
    simp [blk]
    try omega
-- isDigit: the function, dig: what it tells
theorem dig_c (c : UInt8) : ∀ H, SpecH Tryz.prog 53 (pvs [.int .u8 (c.toNat : Int)]) H (Ret (.bool (dig c)) H) := by
  refine pureC hm Tryz.func53 (by kernel_rfl) rfl rfl ?_
  (first | refine wX ?_ | exact wZ)
  (repeat' (first | (refine brd_dec (fun _ => ?_) (fun _ => ?_)) | (refine brd_eq (fun _ => ?_) (fun _ => ?_))))
  all_goals (first | refine wX ?_ | exact wZ)
  (repeat' (first | (refine brd_dec (fun _ => ?_) (fun _ => ?_)) | (refine brd_eq (fun _ => ?_) (fun _ => ?_))))
  all_goals (first | refine wX ?_ | exact wZ)
  (repeat' (first | (refine brd_dec (fun _ => ?_) (fun _ => ?_)) | (refine brd_eq (fun _ => ?_) (fun _ => ?_))))
  all_goals (first | refine wX ?_ | exact wZ)
  all_goals
    refine ret_b ?_
    simp [dig]
    try omega
theorem ltr_c (c : UInt8) : ∀ H, SpecH Tryz.prog 62 (pvs [.int .u8 (c.toNat : Int)]) H (Ret (.bool (ltr c)) H) := by
  refine pureC hm Tryz.func62 (by kernel_rfl) rfl rfl ?_
  (first | refine wX ?_ | exact wZ)
  refine call1 (sml_c c _) ?_
  cases h : sml c with
  | true =>
    (first | refine wX ?_ | exact wZ)
    exact ret_b (by simp [ltr, h])
  | false =>
    (first | refine wX ?_ | exact wZ)
    (repeat' (first | (refine brd_dec (fun _ => ?_) (fun _ => ?_)) | (refine brd_eq (fun _ => ?_) (fun _ => ?_))))
    all_goals (first | refine wX ?_ | exact wZ)
    (repeat' (first | (refine brd_dec (fun _ => ?_) (fun _ => ?_)) | (refine brd_eq (fun _ => ?_) (fun _ => ?_))))
    all_goals (first | refine wX ?_ | exact wZ)
    all_goals
      refine ret_b ?_
      simp [ltr, h, grt]
      try omega
theorem wrd_c (c : UInt8) : ∀ H, SpecH Tryz.prog 52 (pvs [.int .u8 (c.toNat : Int)]) H (Ret (.bool (wrd c)) H) := by
  refine pureC hm Tryz.func52 (by kernel_rfl) rfl rfl ?_
  (first | refine wX ?_ | exact wZ)
  refine call1 (ltr_c c _) ?_
  cases h : ltr c with
  | true =>
    (first | refine wX ?_ | exact wZ)
    exact ret_b (by simp [wrd, h])
  | false =>
    (first | refine wX ?_ | exact wZ)
    refine call1 (dig_c c _) ?_
    (first | refine wX ?_ | exact wZ)
    exact ret_b (by simp [wrd, h])
end Go.Proofs.YteejemdibfbccaaGreatDoor

/-
  Contracts: the scanner's state; peek, word, full, add (program).
-/
namespace Go.Scan
/-- The byte at a place, 0 behind the end. -/
def pk (s : List UInt8) (i : Nat) : UInt8 := (s[i]?).getD 0
/-- A word from a place on. -/
def wordS (s : List UInt8) (i : Nat) : List UInt8 := (s.drop i).takeWhile wrd
theorem wordS_le (s : List UInt8) (i : Nat) : i ≤ s.length → i + (wordS s i).length ≤ s.length := fun h => by
  have := (List.takeWhile_prefix (p := wrd) (l := s.drop i)).length_le
  rw [List.length_drop] at this
  unfold wordS
  omega
/-- A name with what may stand behind it. -/
def fullS (s : List UInt8) (i : Nat) : List UInt8 :=
  let w := wordS s i
  if (pk s (i + w.length) == 63 || pk s (i + w.length) == 33) && pk s (i + w.length + 1) != 61 then w ++ [pk s (i + w.length)] else w
end Go.Scan
namespace Go.Proofs.YteejemdibfbccaaGreatDoor
open Go.AX Go.RowKit Go.Scan
set_option maxRecDepth 20000

/-- A token. -/
structure Tok where
  kind : Int
  text : List UInt8
  space : Bool
  line : Nat
  pa : Option Addr := none
  pn : Nat := 0
  pc : Nat := 0
def tokC (t : Tok) : List Value := [.int .i64 t.kind, .string (bs t.text), .bool t.space, .int .i64 (t.line : Int), .slice t.pa t.pn t.pc]
def toksC (l : List Tok) : List Value := l.flatMap tokC
/-- The scanner's cells. -/
def scC (s : List UInt8) (p line : Nat) (ob : Option Nat) (n cap here : Nat) (sp : Bool) : List Value := [.string (bs s), .int .i64 (p : Int), .int .i64 (line : Int), .slice (at0 ob) n cap, .int .i64 (here : Int), .bool sp]
def scE (xb : Nat) (s : List UInt8) (p line : Nat) (ob : Option Nat) (n cap here : Nat) (sp : Bool) : Ent := .app 58 6 (scC s p line ob n cap here sp) (some ⟨xb, 0, none⟩) 1 1
def ScF (xb : Nat) (s : List UInt8) (p line : Nat) (ob : Option Nat) (n cap here : Nat) (sp : Bool) (w : World) : Prop := SlAt (some ⟨xb, 0, none⟩) 6 (scC s p line ob n cap here sp) w
def toE (l : List Tok) (ob : Option Nat) (cap : Nat) : Ent := .app 36 5 (toksC l) (at0 ob) l.length cap
theorem peek_c (xb : Nat) (s : List UInt8) (p line : Nat) (ob : Option Nat) (n cap here : Nat) (sp : Bool) (d : Nat) (hp : p ≤ 2000000) (hd : d ≤ 1000) :
    ∀ H, (∀ w, Facts H w → ScF xb s p line ob n cap here sp w) → SpecH Tryz.prog 66 (pvs [.pointer (some ⟨xb, 0, none⟩), .int .i64 (d : Int)]) H (Ret (.int .u8 ((pk s (p + d)).toNat : Int)) H) := by
  refine factC hm Tryz.func66 (by kernel_rfl) rfl rfl ?_
  have hz := bs_size s
  have hw : IntKind.i64.wrap ((p : Int) + (d : Int)) = ((p + d : Nat) : Int) := by rw [wrap_i64 (by omega)]; omega
  (first | refine wX ?_ | exact wZ)
  refine LdN.one (a := some ⟨xb, 0, none⟩) (q := 1) (.int .i64 ((p : Nat) : Int)) rfl (fun w hw => hw.1) rfl ?_
  (first | refine wX ?_ | exact wZ)
  refine LdN.one (a := some ⟨xb, 0, none⟩) (q := 0) (.string (bs s)) rfl (fun w hw => hw.1) rfl ?_
  (first | refine wX ?_ | exact wZ)
  rw [hz, hw]
  refine brd_dec (fun h1 => ?_) (fun h1 => ?_)
  · obtain ⟨c, hc⟩ : ∃ c, s[p + d]? = some c := ⟨_, List.getElem?_eq_getElem (by omega)⟩
    (first | refine wX ?_ | exact wZ)
    refine LdN.one (a := some ⟨xb, 0, none⟩) (q := 0) (.string (bs s)) rfl (fun w hw => hw.1) rfl ?_
    (first | refine wX ?_ | exact wZ)
    refine LdN.one (a := some ⟨xb, 0, none⟩) (q := 1) (.int .i64 ((p : Nat) : Int)) rfl (fun w hw => hw.1) rfl ?_
    (first | refine wX ?_ | exact wZ)
    rw [hw, Int.toNat_natCast, byteAt_get hc]
    simp [pk, hc]
  · have hn : s[p + d]? = none := List.getElem?_eq_none (by omega)
    (first | refine wX ?_ | exact wZ)
    simp [pk, hn]
theorem tw_take {c : UInt8} {s : List UInt8} {i j : Nat} (h : ((s.drop i).take j).all wrd = true) (hc : s[i + j]? = some c) : (wrd c = true → ((s.drop i).take (j + 1)).all wrd = true) ∧ (wrd c = false → wordS s i = (s.drop i).take j) := by
  have hg : (s.drop i)[j]? = some c := by rw [List.getElem?_drop]; exact hc
  refine ⟨fun hw => ?_, fun hw => ?_⟩
  · rw [List.take_add_one, hg, List.all_append, h]
    simp [hw]
  · have e : s.drop i = (s.drop i).take j ++ (c :: (s.drop i).drop (j + 1)) := by
      obtain ⟨hlt, hx⟩ := List.getElem?_eq_some_iff.1 hg
      conv => lhs; rw [← List.take_append_drop j (s.drop i), List.drop_eq_getElem_cons hlt, hx]
    unfold wordS
    conv => lhs; rw [e]
    rw [List.takeWhile_append_of_pos (fun x hx => List.all_eq_true.1 h x hx)]
    simp [hw]
theorem tw_end {s : List UInt8} {i j : Nat} (h : ((s.drop i).take j).all wrd = true) (hj : i + j = s.length) : wordS s i = (s.drop i).take j := by
  have e : (s.drop i).take j = s.drop i := List.take_of_length_le (by rw [List.length_drop]; omega)
  rw [e] at h ⊢
  unfold wordS
  have := List.takeWhile_append_of_pos (l₂ := []) (fun x hx => List.all_eq_true.1 h x hx)
  simpa using this
theorem word_c (xb : Nat) (s : List UInt8) (p line : Nat) (ob : Option Nat) (n cap here : Nat) (sp : Bool) (hs : s.length ≤ 1000000) (hp : p ≤ s.length) :
    SpecH Tryz.prog 68 [.c (.v (.pointer (some ⟨xb, 0, none⟩)))] [scE xb s p line ob n cap here sp]
      (RetG (ι := Unit) (fun _ => True) (fun _ => .string (bs (wordS s p))) fun _ => [scE xb s (p + (wordS s p).length) line ob n cap here sp]) := by
  refine ownC hm Tryz.func68 (by kernel_rfl) rfl rfl (fun _ _ => okHB_eq rfl) (fun _ _ => Nat.le_refl _) ?_
  have hz := bs_size s
  (first | refine wX ?_ | exact wZ)
  refine LdN.one (a := some ⟨xb, 0, none⟩) (q := 1) (.int .i64 ((p : Nat) : Int)) rfl (fun w hw => hw.1) rfl ?_
  (first | refine wX ?_ | exact wZ)
  refine LoopN.intro Nat (fun j => p + j ≤ s.length ∧ ((s.drop p).take j).all wrd = true) (fun j => mkS Tryz.f68.ntmps 0 [(0, .c (.v (.pointer (some ⟨xb, 0, none⟩)))), (3, .c (.v (.int .i64 (p : Int))))])
    (fun j => [scE xb s (p + j) line ob n cap here sp]) (fun j => s.length - j) [] rfl (fun _ => rfl) (fun _ => rfl) (fun _ _ => okHB_eq rfl) ⟨0, ⟨hp, by simp⟩, ?_, ⟨wkE_refl _, wkH_nil _⟩⟩ ?_
  · (repeat' (first | exact trivial | refine And.intro (by with_reducible rfl) ?_ | (with_reducible exact wkC_refl _) | (with_reducible exact wkCs_refl _) | refine And.intro ?_ ?_))
    all_goals rfl
  rintro j ⟨hj, hall⟩
  (first | refine wX ?_ | exact wZ)
  refine LdN.one (a := some ⟨xb, 0, none⟩) (q := 1) (.int .i64 ((p + j : Nat) : Int)) rfl (fun w hw => hw.1) rfl ?_
  (first | refine wX ?_ | exact wZ)
  refine LdN.one (a := some ⟨xb, 0, none⟩) (q := 0) (.string (bs s)) rfl (fun w hw => hw.1) rfl ?_
  (first | refine wX ?_ | exact wZ)
  rw [hz]
  refine brd_dec (fun h1 => ?_) (fun h1 => ?_)
  · obtain ⟨c, hc⟩ : ∃ c, s[p + j]? = some c := ⟨_, List.getElem?_eq_getElem (by omega)⟩
    obtain ⟨ht1, ht2⟩ := tw_take hall hc
    (first | refine wX ?_ | exact wZ)
    refine LdN.one (a := some ⟨xb, 0, none⟩) (q := 0) (.string (bs s)) rfl (fun w hw => hw.1) rfl ?_
    (first | refine wX ?_ | exact wZ)
    refine LdN.one (a := some ⟨xb, 0, none⟩) (q := 1) (.int .i64 ((p + j : Nat) : Int)) rfl (fun w hw => hw.1) rfl ?_
    (first | refine wX ?_ | exact wZ)
    rw [Int.toNat_natCast, byteAt_get hc]
    refine callQ (wrd_c c _) ?_
    cases hw : wrd c with
    | true =>
      (first | refine wX ?_ | exact wZ)
      refine LdN.one (a := some ⟨xb, 0, none⟩) (q := 1) (.int .i64 ((p + j : Nat) : Int)) rfl (fun w hw => hw.1) rfl ?_
      (first | refine wX ?_ | exact wZ)
      refine EffW.appTo (i := 0) (q := 1) (ys := [_]) (scC s (p + (j + 1)) line ob n cap here sp) 6 rfl rfl rfl rfl rfl rfl rfl (Nat.le_of_ble_eq_true rfl) (by
        show [_, Value.int .i64 _, _, _, _, _] = [_, Value.int .i64 _, _, _, _, _]
        rw [wrap_i64 (by omega)]
        rfl) rfl ?_
      (first | refine wX ?_ | exact wZ)
      refine ⟨j + 1, ⟨by omega, ht1 hw⟩, by show s.length - (j + 1) < s.length - j; omega, ?_, ⟨wkE_refl _, wkH_nil _⟩⟩
      (repeat' (first | exact trivial | refine And.intro (by with_reducible rfl) ?_ | (with_reducible exact wkC_refl _) | (with_reducible exact wkCs_refl _) | refine And.intro ?_ ?_))
      all_goals rfl
    | false =>
      have hwd := ht2 hw
      (first | refine wX ?_ | exact wZ)
      refine LdN.one (a := some ⟨xb, 0, none⟩) (q := 0) (.string (bs s)) rfl (fun w hw => hw.1) rfl ?_
      (first | refine wX ?_ | exact wZ)
      refine LdN.one (a := some ⟨xb, 0, none⟩) (q := 1) (.int .i64 ((p + j : Nat) : Int)) rfl (fun w hw => hw.1) rfl ?_
      (first | refine wX ?_ | exact wZ)
      have hl : (wordS s p).length = j := by rw [hwd, List.length_take, List.length_drop]; omega
      refine ReadW.sl_lh p (p + j) rfl Tryz.underlying9 rfl rfl rfl ⟨rfl, rfl, by omega, by omega⟩ ?_
      (first | refine wX ?_ | exact wZ)
      refine ⟨(), trivial, ?_, ?_, wkH_nil _⟩
      · rw [hwd, List.take_drop]
      · rw [hl]
        exact wkE_refl _
  · have hwd := tw_end hall (by omega)
    (first | refine wX ?_ | exact wZ)
    refine LdN.one (a := some ⟨xb, 0, none⟩) (q := 0) (.string (bs s)) rfl (fun w hw => hw.1) rfl ?_
    (first | refine wX ?_ | exact wZ)
    refine LdN.one (a := some ⟨xb, 0, none⟩) (q := 1) (.int .i64 ((p + j : Nat) : Int)) rfl (fun w hw => hw.1) rfl ?_
    (first | refine wX ?_ | exact wZ)
    have hl : (wordS s p).length = j := by rw [hwd, List.length_take, List.length_drop]; omega
    refine ReadW.sl_lh p (p + j) rfl Tryz.underlying9 rfl rfl rfl ⟨rfl, rfl, by omega, by omega⟩ ?_
    (first | refine wX ?_ | exact wZ)
    refine ⟨(), trivial, ?_, ?_, wkH_nil _⟩
    · rw [hwd, List.take_drop]
    · rw [hl]
      exact wkE_refl _
theorem pk_lt {s : List UInt8} {i : Nat} {c : UInt8} (h : pk s i = c) (h0 : c ≠ 0) : i < s.length := by
  unfold pk at h
  by_cases hi : i < s.length
  · exact hi
  · rw [List.getElem?_eq_none (by omega)] at h
    exact absurd h.symm h0
theorem full_c (xb : Nat) (s : List UInt8) (p line : Nat) (ob : Option Nat) (n cap here : Nat) (sp : Bool) (hs : s.length ≤ 1000000) (hp : p ≤ s.length) :
    SpecH Tryz.prog 88 [.c (.v (.pointer (some ⟨xb, 0, none⟩)))] [scE xb s p line ob n cap here sp]
      (RetG (ι := Unit) (fun _ => True) (fun _ => .string (bs (fullS s p))) fun _ => [scE xb s (p + (fullS s p).length) line ob n cap here sp]) := by
  refine ownC hm Tryz.func88 (by kernel_rfl) rfl rfl (fun _ _ => okHB_eq rfl) (fun _ _ => Nat.le_refl _) ?_
  have hz := bs_size s
  have hwl := wordS_le s p
  (first | refine wX ?_ | exact wZ)
  refine callG (word_c xb s p line ob n cap here sp hs hp) [0] rfl ⟨rfl, trivial⟩ rfl fun _ _ => ?_
  generalize hq : p + (wordS s p).length = q at *
  (first | refine wX ?_ | exact wZ)
  refine call1 (peek_c xb s q line ob n cap here sp 0 (by omega) (by decide) _ (fun w hw => hw.1)) ?_
  rw [Nat.add_zero]
  have hb : (((pk s (q + 1)).toNat : Int) == 61) = (pk s (q + 1) == 61) := u8_eq (n := 61) (by decide)
  have hfl : fullS s p = if (pk s q == 63 || pk s q == 33) && pk s (q + 1) != 61 then wordS s p ++ [pk s q] else wordS s p := by
    unfold fullS
    simp only [hq]
  generalize hcc : pk s q = c at *
  by_cases h63 : c = 63
  · subst h63
    -- 63: the byte
    (first | refine wX ?_ | exact wZ)
    refine call1 (peek_c xb s q line ob n cap here sp 1 (by omega) (by decide) _ (fun w hw => hw.1)) ?_
    have hql := pk_lt hcc (by decide)
    (first | refine wX ?_ | exact wZ)
    rw [bne, hb]
    cases h61 : pk s (q + 1) == 61 with
    | true =>
      rw [show fullS s p = wordS s p by rw [hfl]; simp [bne, h61]]
      (first | refine wX ?_ | exact wZ)
      exact ⟨(), trivial, rfl, by rw [hq]; exact wkE_refl _, wkH_nil _⟩
    | false =>
      rw [show fullS s p = wordS s p ++ [63] by rw [hfl]; simp [bne, h61]]
      (first | refine wX ?_ | exact wZ)
      refine LdN.one (a := some ⟨xb, 0, none⟩) (q := 1) (.int .i64 ((q : Nat) : Int)) rfl (fun w hw => hw.1) rfl ?_
      (first | refine wX ?_ | exact wZ)
      refine EffW.appTo (i := 0) (q := 1) (ys := [_]) (scC s (q + 1) line ob n cap here sp) 6 rfl rfl rfl rfl rfl rfl rfl (Nat.le_of_ble_eq_true rfl) (by
        show [_, Value.int .i64 _, _, _, _, _] = [_, Value.int .i64 _, _, _, _, _]
        rw [wrap_i64 (by omega)]
        rfl) rfl ?_
      (first | refine wX ?_ | exact wZ)
      rw [show Utf8.encode ((UInt8.toNat 63 : Nat) : Int) = bs [63] by kernel_rfl]
      refine Nd.mk (by rw [bs_size, bs_size]; show _ + 1 < _; omega) ?_
      rw [bs_app]
      (first | refine wX ?_ | exact wZ)
      refine ⟨(), trivial, rfl, ?_, wkH_nil _⟩
      rw [List.length_append, ← Nat.add_assoc, hq]
      exact wkE_refl _
  · by_cases h33 : c = 33
    · subst h33
      -- 33: the byte
      (first | refine wX ?_ | exact wZ)
      refine call1 (peek_c xb s q line ob n cap here sp 1 (by omega) (by decide) _ (fun w hw => hw.1)) ?_
      have hql := pk_lt hcc (by decide)
      (first | refine wX ?_ | exact wZ)
      rw [bne, hb]
      cases h61 : pk s (q + 1) == 61 with
      | true =>
        rw [show fullS s p = wordS s p by rw [hfl]; simp [bne, h61]]
        (first | refine wX ?_ | exact wZ)
        exact ⟨(), trivial, rfl, by rw [hq]; exact wkE_refl _, wkH_nil _⟩
      | false =>
        rw [show fullS s p = wordS s p ++ [33] by rw [hfl]; simp [bne, h61]]
        (first | refine wX ?_ | exact wZ)
        refine LdN.one (a := some ⟨xb, 0, none⟩) (q := 1) (.int .i64 ((q : Nat) : Int)) rfl (fun w hw => hw.1) rfl ?_
        (first | refine wX ?_ | exact wZ)
        refine EffW.appTo (i := 0) (q := 1) (ys := [_]) (scC s (q + 1) line ob n cap here sp) 6 rfl rfl rfl rfl rfl rfl rfl (Nat.le_of_ble_eq_true rfl) (by
          show [_, Value.int .i64 _, _, _, _, _] = [_, Value.int .i64 _, _, _, _, _]
          rw [wrap_i64 (by omega)]
          rfl) rfl ?_
        (first | refine wX ?_ | exact wZ)
        rw [show Utf8.encode ((UInt8.toNat 33 : Nat) : Int) = bs [33] by kernel_rfl]
        refine Nd.mk (by rw [bs_size, bs_size]; show _ + 1 < _; omega) ?_
        rw [bs_app]
        (first | refine wX ?_ | exact wZ)
        refine ⟨(), trivial, rfl, ?_, wkH_nil _⟩
        rw [List.length_append, ← Nat.add_assoc, hq]
        exact wkE_refl _
    · have e63 : ((c.toNat : Int) == 63) = false := (u8_eq (n := 63) (by decide)).trans (by simpa using h63)
      have e33 : ((c.toNat : Int) == 33) = false := (u8_eq (n := 33) (by decide)).trans (by simpa using h33)
      rw [show fullS s p = wordS s p by rw [hfl]; simp [h63, h33]]
      (first | refine wX ?_ | exact wZ)
      rw [e63]
      (first | refine wX ?_ | exact wZ)
      rw [e33]
      (first | refine wX ?_ | exact wZ)
      exact ⟨(), trivial, rfl, by rw [hq]; exact wkE_refl _, wkH_nil _⟩
theorem toksC_snoc (l : List Tok) (t : Tok) : toksC l ++ tokC t = toksC (l ++ [t]) := by simp [toksC]
theorem toksC_get (l : List Tok) (i j : Nat) (hj : j < 5) {t : Tok} (ht : l[i]? = some t) : (toksC l)[i * 5 + j]? = (tokC t)[j]? := by
  unfold toksC
  rw [flat_get (g := tokC) (m := 5) (fun _ => rfl) l i j hj, ht]
  rfl
theorem add_c (xb : Nat) (s : List UInt8) (p line : Nat) (l : List Tok) (ob : Option Nat) (cap here : Nat) (sp : Bool) (k : Int) (t : List UInt8) (tl : Nat) (hl : l.length ≤ 1000000) (hob : ob = none → l = []) :
    SpecH Tryz.prog 61 [.c (.v (.pointer (some ⟨xb, 0, none⟩))), .c (.v (.int .i64 k)), .c (.v (.string (bs t))), .c (.v (.int .i64 (tl : Int)))] [scE xb s p line ob l.length cap here sp, toE l ob cap]
      (RetG (ι := Nat × Nat) (fun _ => True) (fun _ => .tuple #[]) fun ⟨b, c⟩ => [scE xb s p line (some b) (l.length + 1) c here false, toE (l ++ [⟨k, t, sp, tl, none, 0, 0⟩]) (some b) c]) := by
  refine ownC hm Tryz.func61 (by kernel_rfl) rfl rfl (fun _ _ => okHB_eq rfl) (fun _ _ => Nat.le_refl _) ?_
  (first | refine wX ?_ | exact wZ)
  refine DrawN.plan [0, 1, 5, 6, 7, 11] [(2, 1), (3, 1), (4, 1), (8, 1), (9, 1), (10, 1), (12, 1), (13, 0)] [(14, 0), (15, 0), (16, 0), (17, 0)] (by decide +kernel) ?_
  (first | refine wX ?_ | exact wZ)
  refine LdN.one (a := some ⟨xb, 0, none⟩) (q := 3) (.slice (at0 ob) l.length cap) rfl (fun w hw => hw.1) rfl ?_
  (first | refine wX ?_ | exact wZ)
  refine LdN.one (a := some ⟨xb, 0, none⟩) (q := 5) (.bool sp) rfl (fun w hw => hw.1) rfl ?_
  (first | refine wX ?_ | exact wZ)
  try refine Nd.mk ⟨Nat.le_refl 1, rfl, rfl⟩ ?_
  (conv => whnf)
  refine AppN.grow 1 (toksC l) (tokC ⟨k, t, sp, tl, none, 0, 0⟩) rfl rfl ⟨Nat.le_refl 1, ⟨by show (l.length + 1) * 64 ≤ _; omega, by omega⟩, by show 5 ≠ 0; omega⟩ fun b1 c1 h11 h12 => ?_
  (first | refine wX ?_ | exact wZ)
  refine EffW.appTo (i := 0) (q := 3) (ys := [_]) (scC s p line (some b1) (l.length + 1) c1 here sp) 6 rfl rfl rfl rfl rfl rfl rfl (Nat.le_of_ble_eq_true rfl) rfl rfl ?_
  (first | refine wX ?_ | exact wZ)
  refine EffW.appTo (i := 0) (q := 5) (ys := [_]) (scC s p line (some b1) (l.length + 1) c1 here false) 6 rfl rfl rfl rfl rfl rfl rfl (Nat.le_of_ble_eq_true rfl) rfl rfl ?_
  (first | refine wX ?_ | exact wZ)
  have hlen : (l ++ [(⟨k, t, sp, tl, none, 0, 0⟩ : Tok)]).length = l.length + 1 := by rw [List.length_append]; rfl
  refine ⟨(b1, c1), trivial, rfl, wkE_refl _, .inl ⟨rfl, rfl, toksC_snoc l _, rfl, hlen.symm, rfl⟩, wkH_nil _⟩
end Go.Proofs.YteejemdibfbccaaGreatDoor

/-
  Contracts: keywords, words (program).
-/
namespace Go.Scan
def kws : List UInt8 := [32, 97, 108, 105, 97, 115, 32, 98, 101, 103, 105, 110, 32, 98, 114, 101, 97, 107, 32, 99, 97, 115, 101, 32, 99, 108, 97, 115, 115, 32, 100, 101, 102, 32, 100, 111, 32, 101, 108, 115, 101, 32, 101, 108, 115, 105, 102, 32, 101, 110, 100, 32, 101, 110, 115, 117, 114, 101, 32, 102, 97, 108, 115, 101, 32, 105, 102, 32, 105, 110, 32, 109, 111, 100, 117, 108, 101, 32, 110, 101, 120, 116, 32, 110, 105, 108, 32, 114, 101, 115, 99, 117, 101, 32, 114, 101, 116, 114, 121, 32, 114, 101, 116, 117, 114, 110, 32, 115, 101, 108, 102, 32, 115, 117, 112, 101, 114, 32, 116, 104, 101, 110, 32, 116, 114, 117, 101, 32, 117, 110, 100, 101, 102, 32, 117, 110, 108, 101, 115, 115, 32, 117, 110, 116, 105, 108, 32, 117, 115, 105, 110, 103, 32, 119, 104, 101, 110, 32, 119, 104, 105, 108, 101, 32, 121, 105, 101, 108, 100, 32]
def sgs : List UInt8 := [60, 61, 62, 32, 61, 61, 61, 32, 61, 61, 32, 33, 61, 32, 60, 61, 32, 62, 61, 32, 60, 60, 32, 38, 38, 32, 124, 124, 32, 43, 61, 32, 45, 61, 32, 42, 61, 32, 124, 124, 61, 32, 61, 62, 32, 45, 62, 32, 38, 46, 32, 58, 58, 32, 46, 46, 32, 43, 32, 45, 32, 42, 32, 47, 32, 37, 32, 60, 32, 62, 32, 33, 32, 61, 32, 46, 32, 44, 32, 40, 32, 41, 32, 91, 32, 93, 32, 123, 32, 125, 32, 124, 32, 38, 32, 94]
/-- What the program takes for a keyword. -/
def kwB (s : List UInt8) : Bool := !s.isEmpty && !decide (0 ≤ Lib.indexByte s 32) && Lib.contains kws (32 :: s ++ [32])
end Go.Scan
namespace Go.Proofs.YteejemdibfbccaaGreatDoor
open Go.AX Go.RowKit Go.Scan
set_option maxRecDepth 20000

theorem Has1_c (s : List UInt8) (c : UInt8) : ∀ H, SpecH Tryz.prog 34 (pvs [.string (bs s), .string (bs [c])]) H (Ret (.bool (decide (0 ≤ Lib.indexByte s c))) H) := fun H =>
  SpecH.rawP (R := fun r => r = .bool (decide (0 ≤ Lib.indexByte s c))) (callOk Tryz.func34 (by kernel_rfl) rfl)
    (fun w _ => (Tryz.strings_Contains_one (bs s) c w).mono fun e w' ⟨he, hw⟩ => ⟨_, he, by rw [bs_list], by subst hw; exact Below.refl _ _⟩) fun r hr => by subst hr; exact ⟨rfl, rfl⟩
theorem Has_c (s p : List UInt8) (hs : s.length < 4294967281) : ∀ H, (∀ w, Facts H w → MaxF w) → SpecH Tryz.prog 34 (pvs [.string (bs s), .string (bs p)]) H (Ret (.bool (Lib.contains s p)) H) := fun H hF =>
  SpecH.rawP (R := fun r => r = .bool (Lib.contains s p)) (callOk Tryz.func34 (by kernel_rfl) rfl)
    (fun w hw => by
      obtain ⟨m, hm⟩ := hF w hw
      exact (Tryz.strings_Contains (bs s) (bs p) m w (by rw [bs_size]; exact hs) hm).mono fun e w' ⟨he, hw⟩ => ⟨_, he, by rw [bs_list, bs_list], by subst hw; exact Below.refl _ _⟩) fun r hr => by subst hr; exact ⟨rfl, rfl⟩
/-- What the scanner asks of the library's variables. -/
def ScanF (w : World) : Prop := MaxF w ∧ Lib.TabIs Tryz.prog w "strings.asciiSpace" .u8 Lib.asciiSpaceTab
theorem IsKeyword_c (s : List UInt8) (hs : s.length ≤ 200000000000000) : ∀ H, (∀ w, Facts H w → MaxF w) → SpecH Tryz.prog 13 (pvs [.string (bs s)]) H (Ret (.bool (kwB s)) H) := by
  refine factC hm Tryz.func13 (by kernel_rfl) rfl rfl ?_
  have hz := bs_size s
  cases s with
  | nil =>
    (first | refine wX ?_ | exact wZ)
    exact ret_b (by simp [kwB])
  | cons c r =>
    (first | refine wX ?_ | exact wZ)
    refine call1 (Has1_c (c :: r) 32 _) ?_
    cases h : decide (0 ≤ Lib.indexByte (c :: r) 32) with
    | true =>
      (first | refine wX ?_ | exact wZ)
      exact ret_b (by simp only [kwB, h]; simp)
    | false =>
      (first | refine wX ?_ | exact wZ)
      have hlen : (c :: r).length ≤ 200000000000000 := hs
      rw [show (⟨#[32]⟩ : ByteArray) = bs [32] from rfl]
      refine Nd.mk (by rw [bs_size, bs_size]; show 1 + _ < _; omega) ?_
      rw [bs_app]
      (first | refine wX ?_ | exact wZ)
      try rw [show (⟨#[32]⟩ : ByteArray) = bs [32] from rfl]
      refine Nd.mk (by rw [bs_size, List.length_append]; show 1 + _ + 1 < _; omega) ?_
      try rw [bs_app]
      (first | refine wX ?_ | exact wZ)
      refine call1 (Has_c kws (32 :: (c :: r) ++ [32]) (by decide) _ (fun w hw => hw.1)) ?_
      (first | refine wX ?_ | exact wZ)
      exact ret_b (by simp only [kwB, h]; simp)
end Go.Proofs.YteejemdibfbccaaGreatDoor

/-
  Contract: names, constants, keywords, labels (program).
-/
namespace Go.Proofs.YteejemdibfbccaaGreatDoor
open Go.AX Go.RowKit Go.Scan
set_option maxRecDepth 20000

def lastDot (l : List Tok) : Bool := match l.getLast? with | some t => t.kind == 7 && (t.text == [46] || t.text == [38, 46]) | none => false
theorem fullS_le (s : List UInt8) (p : Nat) (h : p ≤ s.length) : p + (fullS s p).length ≤ s.length := by
  have hw := wordS_le s p h
  unfold fullS
  simp only
  split
  · rename_i h1
    rw [Bool.and_eq_true, Bool.or_eq_true, beq_iff_eq, beq_iff_eq] at h1
    rw [List.length_append]
    show p + ((wordS s p).length + 1) ≤ s.length
    rcases h1.1 with h2 | h2
    · have := pk_lt h2 (by decide)
      omega
    · have := pk_lt h2 (by decide)
      omega
  · exact hw
/-- The word at a place, and the place behind it. -/
def wordW (s : List UInt8) (p : Nat) : List UInt8 := if sml (pk s p) then fullS s p else wordS s p
def wordsK (s : List UInt8) (p : Nat) (l : List Tok) : Int × Nat :=
  let w := wordW s p
  let q := p + w.length
  if pk s q == 58 && pk s (q + 1) != 58 then (9, q + 1) else (if !sml (pk s p) then 2 else if kwB w && !lastDot l then 8 else 1, q)
set_option maxHeartbeats 2000000 in
theorem words_c (xb : Nat) (s : List UInt8) (p line : Nat) (l : List Tok) (ob : Option Nat) (cap here : Nat) (sp : Bool) (hl : l.length ≤ 900000) (hob : ob = none → l = []) (hs : s.length ≤ 1000000) (hp : p < s.length) :
    SpecH Tryz.prog 63 [.c (.v (.pointer (some ⟨xb, 0, none⟩)))] [scE xb s p line ob l.length cap here sp, toE l ob cap, .fact ScanF]
      (RetG (ι := Nat × Nat) (fun _ => True) (fun _ => .tuple #[]) fun ⟨b, c⟩ => [scE xb s (wordsK s p l).2 line (some b) (l.length + 1) c here false, toE (l ++ [⟨(wordsK s p l).1, wordW s p, sp, line, none, 0, 0⟩]) (some b) c, .fact ScanF]) := by
  refine ownC hm Tryz.func63 (by kernel_rfl) rfl rfl (fun _ _ => okHB_eq rfl) (fun _ _ => Nat.le_refl _) ?_
  have hz := bs_size s
  obtain ⟨c, hc⟩ : ∃ c, s[p]? = some c := ⟨_, List.getElem?_eq_getElem hp⟩
  have hcp : pk s p = c := by unfold pk; rw [hc]; rfl
  (first | refine wX ?_ | exact wZ)
  refine LdN.one (a := some ⟨xb, 0, none⟩) (q := 2) (.int .i64 ((line : Nat) : Int)) rfl (fun w hw => hw.1) rfl ?_
  (first | refine wX ?_ | exact wZ)
  refine LdN.one (a := some ⟨xb, 0, none⟩) (q := 0) (.string (bs s)) rfl (fun w hw => hw.1) rfl ?_
  (first | refine wX ?_ | exact wZ)
  refine LdN.one (a := some ⟨xb, 0, none⟩) (q := 1) (.int .i64 ((p : Nat) : Int)) rfl (fun w hw => hw.1) rfl ?_
  (first | refine wX ?_ | exact wZ)
  rw [Int.toNat_natCast, byteAt_get hc]
  refine callQ (sml_c c _) ?_
  cases hsm : sml c with
  | true =>
    have hwl := fullS_le s p (by omega)
    (first | refine wX ?_ | exact wZ)
    refine callG (full_c xb s p line ob l.length cap here sp hs (by omega)) [0] rfl ⟨rfl, trivial⟩ rfl fun _ _ => ?_
    generalize hq : p + (fullS s p).length = q at *
    -- false: upper, fullS s p: the word
    have hwW : wordW s p = fullS s p := by unfold wordW; rw [hcp]; simp [hsm]
    have hK : wordsK s p l = if pk s q == 58 && pk s (q + 1) != 58 then (9, q + 1) else (if !sml c then 2 else if kwB (fullS s p) && !lastDot l then 8 else 1, q) := by
      unfold wordsK
      simp only [hwW, hq, hcp]
    generalize hW : fullS s p = W at *
    (first | refine wX ?_ | exact wZ)
    refine call1 (peek_c xb s q line ob l.length cap here sp 0 (by omega) (by decide) _ (fun w hw => hw.1)) ?_
    rw [Nat.add_zero]
    have hb0 : (((pk s q).toNat : Int) == 58) = (pk s q == 58) := u8_eq (n := 58) (by decide)
    have hb1 : (((pk s (q + 1)).toNat : Int) == 58) = (pk s (q + 1) == 58) := u8_eq (n := 58) (by decide)
    (first | refine wX ?_ | exact wZ)
    rw [hb0]
    cases e0 : pk s q == 58 with
    | true =>
      (first | refine wX ?_ | exact wZ)
      refine call1 (peek_c xb s q line ob l.length cap here sp 1 (by omega) (by decide) _ (fun w hw => hw.1)) ?_
      (first | refine wX ?_ | exact wZ)
      rw [bne, hb1]
      cases e1 : pk s (q + 1) == 58 with
      | true =>
        have hK2 : wordsK s p l = (if !sml c then 2 else if kwB W && !lastDot l then 8 else 1, q) := by rw [hK]; simp [bne, e1]
        -- false: upper
        rcases Nat.eq_zero_or_pos l.length with hl0 | hl0
        · have hd : lastDot l = false := by rw [List.eq_nil_of_length_eq_zero hl0]; rfl
          (first | refine wX ?_ | exact wZ)
          refine LdN.one (a := some ⟨xb, 0, none⟩) (q := 3) (.slice (at0 ob) l.length cap) rfl (fun w hw => hw.1) rfl ?_
          (first | refine wX ?_ | exact wZ)
          refine brd_dec (fun h => absurd h (by omega)) (fun _ => ?_)
          (first | refine wX ?_ | exact wZ)
          refine call1 (IsKeyword_c W (by omega) _ (fun w hw => hw.2.2.1.1)) ?_
          cases hkw : kwB W with
          | true =>
            -- 8: the kind
            rw [hwW, show wordsK s p l = (8, q) by rw [hK2]; simp [hsm, hd, *]]
            (first | refine wX ?_ | exact wZ)
            refine callG (add_c xb s q line l ob cap here sp 8 W line (by omega) hob) [0, 1] rfl ⟨rfl, rfl, trivial⟩ rfl fun ⟨b1, c1⟩ _ => ?_
            (first | refine wX ?_ | exact wZ)
            exact ⟨(b1, c1), trivial, rfl, wkE_refl _, wkE_refl _, wkE_refl _, wkH_nil _⟩
          | false =>
            -- 1: the kind
            rw [hwW, show wordsK s p l = (1, q) by rw [hK2]; simp [hsm, hd, *]]
            (first | refine wX ?_ | exact wZ)
            refine callG (add_c xb s q line l ob cap here sp 1 W line (by omega) hob) [0, 1] rfl ⟨rfl, rfl, trivial⟩ rfl fun ⟨b1, c1⟩ _ => ?_
            (first | refine wX ?_ | exact wZ)
            exact ⟨(b1, c1), trivial, rfl, wkE_refl _, wkE_refl _, wkE_refl _, wkH_nil _⟩
        · obtain ⟨t, ht⟩ : ∃ t, l[l.length - 1]? = some t := ⟨_, List.getElem?_eq_getElem (by omega)⟩
          have hoa : (at0 ob).isSome = true := by
            cases ob with
            | none => rw [hob rfl] at hl0; simp at hl0
            | some g => rfl
          have hw1 : IntKind.i64.wrap ((l.length : Int) - 1) = ((l.length - 1 : Nat) : Int) := by rw [wrap_i64 (by omega)]; omega
          obtain ⟨tk, tt, ts, tl2, ta, tn, tc⟩ := t
          have hdt : lastDot l = (tk == 7 && (tt == [46] || tt == [38, 46])) := by
            unfold lastDot
            rw [List.getLast?_eq_getElem?, ht]
          (first | refine wX ?_ | exact wZ)
          refine LdN.one (a := some ⟨xb, 0, none⟩) (q := 3) (.slice (at0 ob) l.length cap) rfl (fun w hw => hw.1) rfl ?_
          (first | refine wX ?_ | exact wZ)
          refine brd_dec (fun _ => ?_) (fun h => absurd h (by omega))
          (first | refine wX ?_ | exact wZ)
          -- 0: the field's number, .int .i64 tk: its value
          refine LdN.one (a := some ⟨xb, 0, none⟩) (q := 3) (.slice (at0 ob) l.length cap) rfl (fun w hw => hw.1) rfl ?_
          (first | refine wX ?_ | exact wZ)
          refine LdN.one (a := some ⟨xb, 0, none⟩) (q := 3) (.slice (at0 ob) l.length cap) rfl (fun w hw => hw.1) rfl ?_
          (first | refine wX ?_ | exact wZ)
          try rw [hw1]
          refine Nd.mk ⟨hoa, by omega, by omega⟩ ?_
          (first | refine wX ?_ | exact wZ)
          refine LdN.fld (.int .i64 tk) rfl (fun w hw => hw.2.1) (by rw [Int.toNat_natCast]; exact toksC_get l _ 0 (by decide) ht) ?_
          (first | refine wX ?_ | exact wZ)
          refine brd_eq (fun e7 => ?_) (fun e7 => ?_)
          · by_cases h46 : tt = [46]
            · subst h46
              have hd : lastDot l = true := by rw [hdt]; simp [e7]
              (first | refine wX ?_ | exact wZ)
              -- 1: the field's number, .string (bs [46]): its value
              refine LdN.one (a := some ⟨xb, 0, none⟩) (q := 3) (.slice (at0 ob) l.length cap) rfl (fun w hw => hw.1) rfl ?_
              (first | refine wX ?_ | exact wZ)
              refine LdN.one (a := some ⟨xb, 0, none⟩) (q := 3) (.slice (at0 ob) l.length cap) rfl (fun w hw => hw.1) rfl ?_
              (first | refine wX ?_ | exact wZ)
              try rw [hw1]
              refine Nd.mk ⟨hoa, by omega, by omega⟩ ?_
              (first | refine wX ?_ | exact wZ)
              refine LdN.fld (.string (bs [46])) rfl (fun w hw => hw.2.1) (by rw [Int.toNat_natCast]; exact toksC_get l _ 1 (by decide) ht) ?_
              (first | refine wX ?_ | exact wZ)
              (first | refine wX ?_ | exact wZ)
              refine call1 (IsKeyword_c W (by omega) _ (fun w hw => hw.2.2.1.1)) ?_
              cases hkw : kwB W with
              | true =>
                -- 1: the kind
                rw [hwW, show wordsK s p l = (1, q) by rw [hK2]; simp [hsm, hd, *]]
                (first | refine wX ?_ | exact wZ)
                refine callG (add_c xb s q line l ob cap here sp 1 W line (by omega) hob) [0, 1] rfl ⟨rfl, rfl, trivial⟩ rfl fun ⟨b1, c1⟩ _ => ?_
                (first | refine wX ?_ | exact wZ)
                exact ⟨(b1, c1), trivial, rfl, wkE_refl _, wkE_refl _, wkE_refl _, wkH_nil _⟩
              | false =>
                -- 1: the kind
                rw [hwW, show wordsK s p l = (1, q) by rw [hK2]; simp [hsm, hd, *]]
                (first | refine wX ?_ | exact wZ)
                refine callG (add_c xb s q line l ob cap here sp 1 W line (by omega) hob) [0, 1] rfl ⟨rfl, rfl, trivial⟩ rfl fun ⟨b1, c1⟩ _ => ?_
                (first | refine wX ?_ | exact wZ)
                exact ⟨(b1, c1), trivial, rfl, wkE_refl _, wkE_refl _, wkE_refl _, wkH_nil _⟩
            · (first | refine wX ?_ | exact wZ)
              -- 1: the field's number, .string (bs tt): its value
              refine LdN.one (a := some ⟨xb, 0, none⟩) (q := 3) (.slice (at0 ob) l.length cap) rfl (fun w hw => hw.1) rfl ?_
              (first | refine wX ?_ | exact wZ)
              refine LdN.one (a := some ⟨xb, 0, none⟩) (q := 3) (.slice (at0 ob) l.length cap) rfl (fun w hw => hw.1) rfl ?_
              (first | refine wX ?_ | exact wZ)
              try rw [hw1]
              refine Nd.mk ⟨hoa, by omega, by omega⟩ ?_
              (first | refine wX ?_ | exact wZ)
              refine LdN.fld (.string (bs tt)) rfl (fun w hw => hw.2.1) (by rw [Int.toNat_natCast]; exact toksC_get l _ 1 (by decide) ht) ?_
              (first | refine wX ?_ | exact wZ)
              refine brd_intro (fun h => absurd (eq_of_beq (show (tt == [46]) = true from h)) h46) (fun _ => ?_)
              by_cases h38 : tt = [38, 46]
              · subst h38
                have hd : lastDot l = true := by rw [hdt]; simp [e7]
                (first | refine wX ?_ | exact wZ)
                -- 1: the field's number, .string (bs [38, 46]): its value
                refine LdN.one (a := some ⟨xb, 0, none⟩) (q := 3) (.slice (at0 ob) l.length cap) rfl (fun w hw => hw.1) rfl ?_
                (first | refine wX ?_ | exact wZ)
                refine LdN.one (a := some ⟨xb, 0, none⟩) (q := 3) (.slice (at0 ob) l.length cap) rfl (fun w hw => hw.1) rfl ?_
                (first | refine wX ?_ | exact wZ)
                try rw [hw1]
                refine Nd.mk ⟨hoa, by omega, by omega⟩ ?_
                (first | refine wX ?_ | exact wZ)
                refine LdN.fld (.string (bs [38, 46])) rfl (fun w hw => hw.2.1) (by rw [Int.toNat_natCast]; exact toksC_get l _ 1 (by decide) ht) ?_
                (first | refine wX ?_ | exact wZ)
                (first | refine wX ?_ | exact wZ)
                refine call1 (IsKeyword_c W (by omega) _ (fun w hw => hw.2.2.1.1)) ?_
                cases hkw : kwB W with
                | true =>
                  -- 1: the kind
                  rw [hwW, show wordsK s p l = (1, q) by rw [hK2]; simp [hsm, hd, *]]
                  (first | refine wX ?_ | exact wZ)
                  refine callG (add_c xb s q line l ob cap here sp 1 W line (by omega) hob) [0, 1] rfl ⟨rfl, rfl, trivial⟩ rfl fun ⟨b1, c1⟩ _ => ?_
                  (first | refine wX ?_ | exact wZ)
                  exact ⟨(b1, c1), trivial, rfl, wkE_refl _, wkE_refl _, wkE_refl _, wkH_nil _⟩
                | false =>
                  -- 1: the kind
                  rw [hwW, show wordsK s p l = (1, q) by rw [hK2]; simp [hsm, hd, *]]
                  (first | refine wX ?_ | exact wZ)
                  refine callG (add_c xb s q line l ob cap here sp 1 W line (by omega) hob) [0, 1] rfl ⟨rfl, rfl, trivial⟩ rfl fun ⟨b1, c1⟩ _ => ?_
                  (first | refine wX ?_ | exact wZ)
                  exact ⟨(b1, c1), trivial, rfl, wkE_refl _, wkE_refl _, wkE_refl _, wkH_nil _⟩
              · have hd : lastDot l = false := by rw [hdt]; simp [h46, h38]
                (first | refine wX ?_ | exact wZ)
                -- 1: the field's number, .string (bs tt): its value
                refine LdN.one (a := some ⟨xb, 0, none⟩) (q := 3) (.slice (at0 ob) l.length cap) rfl (fun w hw => hw.1) rfl ?_
                (first | refine wX ?_ | exact wZ)
                refine LdN.one (a := some ⟨xb, 0, none⟩) (q := 3) (.slice (at0 ob) l.length cap) rfl (fun w hw => hw.1) rfl ?_
                (first | refine wX ?_ | exact wZ)
                try rw [hw1]
                refine Nd.mk ⟨hoa, by omega, by omega⟩ ?_
                (first | refine wX ?_ | exact wZ)
                refine LdN.fld (.string (bs tt)) rfl (fun w hw => hw.2.1) (by rw [Int.toNat_natCast]; exact toksC_get l _ 1 (by decide) ht) ?_
                (first | refine wX ?_ | exact wZ)
                (first | refine wX ?_ | exact wZ)
                refine call1 (IsKeyword_c W (by omega) _ (fun w hw => hw.2.2.1.1)) ?_
                cases hkw : kwB W with
                | true =>
                  (first | refine wX ?_ | exact wZ)
                  refine brdT (show (!(tt == [38, 46])) = true by simp [h38]) ?_
                  -- 8: the kind
                  rw [hwW, show wordsK s p l = (8, q) by rw [hK2]; simp [hsm, hd, *]]
                  (first | refine wX ?_ | exact wZ)
                  refine callG (add_c xb s q line l ob cap here sp 8 W line (by omega) hob) [0, 1] rfl ⟨rfl, rfl, trivial⟩ rfl fun ⟨b1, c1⟩ _ => ?_
                  (first | refine wX ?_ | exact wZ)
                  exact ⟨(b1, c1), trivial, rfl, wkE_refl _, wkE_refl _, wkE_refl _, wkH_nil _⟩
                | false =>
                  -- 1: the kind
                  rw [hwW, show wordsK s p l = (1, q) by rw [hK2]; simp [hsm, hd, *]]
                  (first | refine wX ?_ | exact wZ)
                  refine callG (add_c xb s q line l ob cap here sp 1 W line (by omega) hob) [0, 1] rfl ⟨rfl, rfl, trivial⟩ rfl fun ⟨b1, c1⟩ _ => ?_
                  (first | refine wX ?_ | exact wZ)
                  exact ⟨(b1, c1), trivial, rfl, wkE_refl _, wkE_refl _, wkE_refl _, wkH_nil _⟩
          · have hd : lastDot l = false := by rw [hdt]; simp [e7]
            (first | refine wX ?_ | exact wZ)
            refine call1 (IsKeyword_c W (by omega) _ (fun w hw => hw.2.2.1.1)) ?_
            cases hkw : kwB W with
            | true =>
              -- 8: the kind
              rw [hwW, show wordsK s p l = (8, q) by rw [hK2]; simp [hsm, hd, *]]
              (first | refine wX ?_ | exact wZ)
              refine callG (add_c xb s q line l ob cap here sp 8 W line (by omega) hob) [0, 1] rfl ⟨rfl, rfl, trivial⟩ rfl fun ⟨b1, c1⟩ _ => ?_
              (first | refine wX ?_ | exact wZ)
              exact ⟨(b1, c1), trivial, rfl, wkE_refl _, wkE_refl _, wkE_refl _, wkH_nil _⟩
            | false =>
              -- 1: the kind
              rw [hwW, show wordsK s p l = (1, q) by rw [hK2]; simp [hsm, hd, *]]
              (first | refine wX ?_ | exact wZ)
              refine callG (add_c xb s q line l ob cap here sp 1 W line (by omega) hob) [0, 1] rfl ⟨rfl, rfl, trivial⟩ rfl fun ⟨b1, c1⟩ _ => ?_
              (first | refine wX ?_ | exact wZ)
              exact ⟨(b1, c1), trivial, rfl, wkE_refl _, wkE_refl _, wkE_refl _, wkH_nil _⟩
      | false =>
        have hK2 : wordsK s p l = (9, q + 1) := by rw [hK]; simp [bne, e0, e1]
        have hql := pk_lt (show pk s q = 58 by simpa using e0) (by decide)
        rw [hwW, hK2]
        (first | refine wX ?_ | exact wZ)
        refine LdN.one (a := some ⟨xb, 0, none⟩) (q := 1) (.int .i64 ((q : Nat) : Int)) rfl (fun w hw => hw.1) rfl ?_
        (first | refine wX ?_ | exact wZ)
        refine EffW.appTo (i := 0) (q := 1) (ys := [_]) (scC s (q + 1) line ob l.length cap here sp) 6 rfl rfl rfl rfl rfl rfl rfl (Nat.le_of_ble_eq_true rfl) (by
          show [_, Value.int .i64 _, _, _, _, _] = [_, Value.int .i64 _, _, _, _, _]
          rw [wrap_i64 (by omega)]
          rfl) rfl ?_
        (first | refine wX ?_ | exact wZ)
        refine callG (add_c xb s (q + 1) line l ob cap here sp 9 W line (by omega) hob) [0, 1] rfl ⟨rfl, rfl, trivial⟩ rfl fun ⟨b1, c1⟩ _ => ?_
        (first | refine wX ?_ | exact wZ)
        exact ⟨(b1, c1), trivial, rfl, wkE_refl _, wkE_refl _, wkE_refl _, wkH_nil _⟩
    | false =>
      have hK2 : wordsK s p l = (if !sml c then 2 else if kwB W && !lastDot l then 8 else 1, q) := by rw [hK]; simp [e0]
      -- false: upper
      rcases Nat.eq_zero_or_pos l.length with hl0 | hl0
      · have hd : lastDot l = false := by rw [List.eq_nil_of_length_eq_zero hl0]; rfl
        (first | refine wX ?_ | exact wZ)
        refine LdN.one (a := some ⟨xb, 0, none⟩) (q := 3) (.slice (at0 ob) l.length cap) rfl (fun w hw => hw.1) rfl ?_
        (first | refine wX ?_ | exact wZ)
        refine brd_dec (fun h => absurd h (by omega)) (fun _ => ?_)
        (first | refine wX ?_ | exact wZ)
        refine call1 (IsKeyword_c W (by omega) _ (fun w hw => hw.2.2.1.1)) ?_
        cases hkw : kwB W with
        | true =>
          -- 8: the kind
          rw [hwW, show wordsK s p l = (8, q) by rw [hK2]; simp [hsm, hd, *]]
          (first | refine wX ?_ | exact wZ)
          refine callG (add_c xb s q line l ob cap here sp 8 W line (by omega) hob) [0, 1] rfl ⟨rfl, rfl, trivial⟩ rfl fun ⟨b1, c1⟩ _ => ?_
          (first | refine wX ?_ | exact wZ)
          exact ⟨(b1, c1), trivial, rfl, wkE_refl _, wkE_refl _, wkE_refl _, wkH_nil _⟩
        | false =>
          -- 1: the kind
          rw [hwW, show wordsK s p l = (1, q) by rw [hK2]; simp [hsm, hd, *]]
          (first | refine wX ?_ | exact wZ)
          refine callG (add_c xb s q line l ob cap here sp 1 W line (by omega) hob) [0, 1] rfl ⟨rfl, rfl, trivial⟩ rfl fun ⟨b1, c1⟩ _ => ?_
          (first | refine wX ?_ | exact wZ)
          exact ⟨(b1, c1), trivial, rfl, wkE_refl _, wkE_refl _, wkE_refl _, wkH_nil _⟩
      · obtain ⟨t, ht⟩ : ∃ t, l[l.length - 1]? = some t := ⟨_, List.getElem?_eq_getElem (by omega)⟩
        have hoa : (at0 ob).isSome = true := by
          cases ob with
          | none => rw [hob rfl] at hl0; simp at hl0
          | some g => rfl
        have hw1 : IntKind.i64.wrap ((l.length : Int) - 1) = ((l.length - 1 : Nat) : Int) := by rw [wrap_i64 (by omega)]; omega
        obtain ⟨tk, tt, ts, tl2, ta, tn, tc⟩ := t
        have hdt : lastDot l = (tk == 7 && (tt == [46] || tt == [38, 46])) := by
          unfold lastDot
          rw [List.getLast?_eq_getElem?, ht]
        (first | refine wX ?_ | exact wZ)
        refine LdN.one (a := some ⟨xb, 0, none⟩) (q := 3) (.slice (at0 ob) l.length cap) rfl (fun w hw => hw.1) rfl ?_
        (first | refine wX ?_ | exact wZ)
        refine brd_dec (fun _ => ?_) (fun h => absurd h (by omega))
        (first | refine wX ?_ | exact wZ)
        -- 0: the field's number, .int .i64 tk: its value
        refine LdN.one (a := some ⟨xb, 0, none⟩) (q := 3) (.slice (at0 ob) l.length cap) rfl (fun w hw => hw.1) rfl ?_
        (first | refine wX ?_ | exact wZ)
        refine LdN.one (a := some ⟨xb, 0, none⟩) (q := 3) (.slice (at0 ob) l.length cap) rfl (fun w hw => hw.1) rfl ?_
        (first | refine wX ?_ | exact wZ)
        try rw [hw1]
        refine Nd.mk ⟨hoa, by omega, by omega⟩ ?_
        (first | refine wX ?_ | exact wZ)
        refine LdN.fld (.int .i64 tk) rfl (fun w hw => hw.2.1) (by rw [Int.toNat_natCast]; exact toksC_get l _ 0 (by decide) ht) ?_
        (first | refine wX ?_ | exact wZ)
        refine brd_eq (fun e7 => ?_) (fun e7 => ?_)
        · by_cases h46 : tt = [46]
          · subst h46
            have hd : lastDot l = true := by rw [hdt]; simp [e7]
            (first | refine wX ?_ | exact wZ)
            -- 1: the field's number, .string (bs [46]): its value
            refine LdN.one (a := some ⟨xb, 0, none⟩) (q := 3) (.slice (at0 ob) l.length cap) rfl (fun w hw => hw.1) rfl ?_
            (first | refine wX ?_ | exact wZ)
            refine LdN.one (a := some ⟨xb, 0, none⟩) (q := 3) (.slice (at0 ob) l.length cap) rfl (fun w hw => hw.1) rfl ?_
            (first | refine wX ?_ | exact wZ)
            try rw [hw1]
            refine Nd.mk ⟨hoa, by omega, by omega⟩ ?_
            (first | refine wX ?_ | exact wZ)
            refine LdN.fld (.string (bs [46])) rfl (fun w hw => hw.2.1) (by rw [Int.toNat_natCast]; exact toksC_get l _ 1 (by decide) ht) ?_
            (first | refine wX ?_ | exact wZ)
            (first | refine wX ?_ | exact wZ)
            refine call1 (IsKeyword_c W (by omega) _ (fun w hw => hw.2.2.1.1)) ?_
            cases hkw : kwB W with
            | true =>
              -- 1: the kind
              rw [hwW, show wordsK s p l = (1, q) by rw [hK2]; simp [hsm, hd, *]]
              (first | refine wX ?_ | exact wZ)
              refine callG (add_c xb s q line l ob cap here sp 1 W line (by omega) hob) [0, 1] rfl ⟨rfl, rfl, trivial⟩ rfl fun ⟨b1, c1⟩ _ => ?_
              (first | refine wX ?_ | exact wZ)
              exact ⟨(b1, c1), trivial, rfl, wkE_refl _, wkE_refl _, wkE_refl _, wkH_nil _⟩
            | false =>
              -- 1: the kind
              rw [hwW, show wordsK s p l = (1, q) by rw [hK2]; simp [hsm, hd, *]]
              (first | refine wX ?_ | exact wZ)
              refine callG (add_c xb s q line l ob cap here sp 1 W line (by omega) hob) [0, 1] rfl ⟨rfl, rfl, trivial⟩ rfl fun ⟨b1, c1⟩ _ => ?_
              (first | refine wX ?_ | exact wZ)
              exact ⟨(b1, c1), trivial, rfl, wkE_refl _, wkE_refl _, wkE_refl _, wkH_nil _⟩
          · (first | refine wX ?_ | exact wZ)
            -- 1: the field's number, .string (bs tt): its value
            refine LdN.one (a := some ⟨xb, 0, none⟩) (q := 3) (.slice (at0 ob) l.length cap) rfl (fun w hw => hw.1) rfl ?_
            (first | refine wX ?_ | exact wZ)
            refine LdN.one (a := some ⟨xb, 0, none⟩) (q := 3) (.slice (at0 ob) l.length cap) rfl (fun w hw => hw.1) rfl ?_
            (first | refine wX ?_ | exact wZ)
            try rw [hw1]
            refine Nd.mk ⟨hoa, by omega, by omega⟩ ?_
            (first | refine wX ?_ | exact wZ)
            refine LdN.fld (.string (bs tt)) rfl (fun w hw => hw.2.1) (by rw [Int.toNat_natCast]; exact toksC_get l _ 1 (by decide) ht) ?_
            (first | refine wX ?_ | exact wZ)
            refine brd_intro (fun h => absurd (eq_of_beq (show (tt == [46]) = true from h)) h46) (fun _ => ?_)
            by_cases h38 : tt = [38, 46]
            · subst h38
              have hd : lastDot l = true := by rw [hdt]; simp [e7]
              (first | refine wX ?_ | exact wZ)
              -- 1: the field's number, .string (bs [38, 46]): its value
              refine LdN.one (a := some ⟨xb, 0, none⟩) (q := 3) (.slice (at0 ob) l.length cap) rfl (fun w hw => hw.1) rfl ?_
              (first | refine wX ?_ | exact wZ)
              refine LdN.one (a := some ⟨xb, 0, none⟩) (q := 3) (.slice (at0 ob) l.length cap) rfl (fun w hw => hw.1) rfl ?_
              (first | refine wX ?_ | exact wZ)
              try rw [hw1]
              refine Nd.mk ⟨hoa, by omega, by omega⟩ ?_
              (first | refine wX ?_ | exact wZ)
              refine LdN.fld (.string (bs [38, 46])) rfl (fun w hw => hw.2.1) (by rw [Int.toNat_natCast]; exact toksC_get l _ 1 (by decide) ht) ?_
              (first | refine wX ?_ | exact wZ)
              (first | refine wX ?_ | exact wZ)
              refine call1 (IsKeyword_c W (by omega) _ (fun w hw => hw.2.2.1.1)) ?_
              cases hkw : kwB W with
              | true =>
                -- 1: the kind
                rw [hwW, show wordsK s p l = (1, q) by rw [hK2]; simp [hsm, hd, *]]
                (first | refine wX ?_ | exact wZ)
                refine callG (add_c xb s q line l ob cap here sp 1 W line (by omega) hob) [0, 1] rfl ⟨rfl, rfl, trivial⟩ rfl fun ⟨b1, c1⟩ _ => ?_
                (first | refine wX ?_ | exact wZ)
                exact ⟨(b1, c1), trivial, rfl, wkE_refl _, wkE_refl _, wkE_refl _, wkH_nil _⟩
              | false =>
                -- 1: the kind
                rw [hwW, show wordsK s p l = (1, q) by rw [hK2]; simp [hsm, hd, *]]
                (first | refine wX ?_ | exact wZ)
                refine callG (add_c xb s q line l ob cap here sp 1 W line (by omega) hob) [0, 1] rfl ⟨rfl, rfl, trivial⟩ rfl fun ⟨b1, c1⟩ _ => ?_
                (first | refine wX ?_ | exact wZ)
                exact ⟨(b1, c1), trivial, rfl, wkE_refl _, wkE_refl _, wkE_refl _, wkH_nil _⟩
            · have hd : lastDot l = false := by rw [hdt]; simp [h46, h38]
              (first | refine wX ?_ | exact wZ)
              -- 1: the field's number, .string (bs tt): its value
              refine LdN.one (a := some ⟨xb, 0, none⟩) (q := 3) (.slice (at0 ob) l.length cap) rfl (fun w hw => hw.1) rfl ?_
              (first | refine wX ?_ | exact wZ)
              refine LdN.one (a := some ⟨xb, 0, none⟩) (q := 3) (.slice (at0 ob) l.length cap) rfl (fun w hw => hw.1) rfl ?_
              (first | refine wX ?_ | exact wZ)
              try rw [hw1]
              refine Nd.mk ⟨hoa, by omega, by omega⟩ ?_
              (first | refine wX ?_ | exact wZ)
              refine LdN.fld (.string (bs tt)) rfl (fun w hw => hw.2.1) (by rw [Int.toNat_natCast]; exact toksC_get l _ 1 (by decide) ht) ?_
              (first | refine wX ?_ | exact wZ)
              (first | refine wX ?_ | exact wZ)
              refine call1 (IsKeyword_c W (by omega) _ (fun w hw => hw.2.2.1.1)) ?_
              cases hkw : kwB W with
              | true =>
                (first | refine wX ?_ | exact wZ)
                refine brdT (show (!(tt == [38, 46])) = true by simp [h38]) ?_
                -- 8: the kind
                rw [hwW, show wordsK s p l = (8, q) by rw [hK2]; simp [hsm, hd, *]]
                (first | refine wX ?_ | exact wZ)
                refine callG (add_c xb s q line l ob cap here sp 8 W line (by omega) hob) [0, 1] rfl ⟨rfl, rfl, trivial⟩ rfl fun ⟨b1, c1⟩ _ => ?_
                (first | refine wX ?_ | exact wZ)
                exact ⟨(b1, c1), trivial, rfl, wkE_refl _, wkE_refl _, wkE_refl _, wkH_nil _⟩
              | false =>
                -- 1: the kind
                rw [hwW, show wordsK s p l = (1, q) by rw [hK2]; simp [hsm, hd, *]]
                (first | refine wX ?_ | exact wZ)
                refine callG (add_c xb s q line l ob cap here sp 1 W line (by omega) hob) [0, 1] rfl ⟨rfl, rfl, trivial⟩ rfl fun ⟨b1, c1⟩ _ => ?_
                (first | refine wX ?_ | exact wZ)
                exact ⟨(b1, c1), trivial, rfl, wkE_refl _, wkE_refl _, wkE_refl _, wkH_nil _⟩
        · have hd : lastDot l = false := by rw [hdt]; simp [e7]
          (first | refine wX ?_ | exact wZ)
          refine call1 (IsKeyword_c W (by omega) _ (fun w hw => hw.2.2.1.1)) ?_
          cases hkw : kwB W with
          | true =>
            -- 8: the kind
            rw [hwW, show wordsK s p l = (8, q) by rw [hK2]; simp [hsm, hd, *]]
            (first | refine wX ?_ | exact wZ)
            refine callG (add_c xb s q line l ob cap here sp 8 W line (by omega) hob) [0, 1] rfl ⟨rfl, rfl, trivial⟩ rfl fun ⟨b1, c1⟩ _ => ?_
            (first | refine wX ?_ | exact wZ)
            exact ⟨(b1, c1), trivial, rfl, wkE_refl _, wkE_refl _, wkE_refl _, wkH_nil _⟩
          | false =>
            -- 1: the kind
            rw [hwW, show wordsK s p l = (1, q) by rw [hK2]; simp [hsm, hd, *]]
            (first | refine wX ?_ | exact wZ)
            refine callG (add_c xb s q line l ob cap here sp 1 W line (by omega) hob) [0, 1] rfl ⟨rfl, rfl, trivial⟩ rfl fun ⟨b1, c1⟩ _ => ?_
            (first | refine wX ?_ | exact wZ)
            exact ⟨(b1, c1), trivial, rfl, wkE_refl _, wkE_refl _, wkE_refl _, wkH_nil _⟩
  | false =>
    have hwl := wordS_le s p (by omega)
    (first | refine wX ?_ | exact wZ)
    refine callG (word_c xb s p line ob l.length cap here sp hs (by omega)) [0] rfl ⟨rfl, trivial⟩ rfl fun _ _ => ?_
    generalize hq : p + (wordS s p).length = q at *
    -- true: upper, wordS s p: the word
    have hwW : wordW s p = wordS s p := by unfold wordW; rw [hcp]; simp [hsm]
    have hK : wordsK s p l = if pk s q == 58 && pk s (q + 1) != 58 then (9, q + 1) else (if !sml c then 2 else if kwB (wordS s p) && !lastDot l then 8 else 1, q) := by
      unfold wordsK
      simp only [hwW, hq, hcp]
    generalize hW : wordS s p = W at *
    (first | refine wX ?_ | exact wZ)
    refine call1 (peek_c xb s q line ob l.length cap here sp 0 (by omega) (by decide) _ (fun w hw => hw.1)) ?_
    rw [Nat.add_zero]
    have hb0 : (((pk s q).toNat : Int) == 58) = (pk s q == 58) := u8_eq (n := 58) (by decide)
    have hb1 : (((pk s (q + 1)).toNat : Int) == 58) = (pk s (q + 1) == 58) := u8_eq (n := 58) (by decide)
    (first | refine wX ?_ | exact wZ)
    rw [hb0]
    cases e0 : pk s q == 58 with
    | true =>
      (first | refine wX ?_ | exact wZ)
      refine call1 (peek_c xb s q line ob l.length cap here sp 1 (by omega) (by decide) _ (fun w hw => hw.1)) ?_
      (first | refine wX ?_ | exact wZ)
      rw [bne, hb1]
      cases e1 : pk s (q + 1) == 58 with
      | true =>
        have hK2 : wordsK s p l = (if !sml c then 2 else if kwB W && !lastDot l then 8 else 1, q) := by rw [hK]; simp [bne, e1]
        -- true: upper
        rcases Nat.eq_zero_or_pos l.length with hl0 | hl0
        · have hd : lastDot l = false := by rw [List.eq_nil_of_length_eq_zero hl0]; rfl
          (first | refine wX ?_ | exact wZ)
          refine LdN.one (a := some ⟨xb, 0, none⟩) (q := 3) (.slice (at0 ob) l.length cap) rfl (fun w hw => hw.1) rfl ?_
          (first | refine wX ?_ | exact wZ)
          refine brd_dec (fun h => absurd h (by omega)) (fun _ => ?_)
          -- it is upper; false: whether a dot is ahead
          -- 2: the kind
          rw [hwW, show wordsK s p l = (2, q) by rw [hK2]; simp [hsm, hd, *]]
          (first | refine wX ?_ | exact wZ)
          refine callG (add_c xb s q line l ob cap here sp 2 W line (by omega) hob) [0, 1] rfl ⟨rfl, rfl, trivial⟩ rfl fun ⟨b1, c1⟩ _ => ?_
          (first | refine wX ?_ | exact wZ)
          exact ⟨(b1, c1), trivial, rfl, wkE_refl _, wkE_refl _, wkE_refl _, wkH_nil _⟩
        · obtain ⟨t, ht⟩ : ∃ t, l[l.length - 1]? = some t := ⟨_, List.getElem?_eq_getElem (by omega)⟩
          have hoa : (at0 ob).isSome = true := by
            cases ob with
            | none => rw [hob rfl] at hl0; simp at hl0
            | some g => rfl
          have hw1 : IntKind.i64.wrap ((l.length : Int) - 1) = ((l.length - 1 : Nat) : Int) := by rw [wrap_i64 (by omega)]; omega
          obtain ⟨tk, tt, ts, tl2, ta, tn, tc⟩ := t
          have hdt : lastDot l = (tk == 7 && (tt == [46] || tt == [38, 46])) := by
            unfold lastDot
            rw [List.getLast?_eq_getElem?, ht]
          (first | refine wX ?_ | exact wZ)
          refine LdN.one (a := some ⟨xb, 0, none⟩) (q := 3) (.slice (at0 ob) l.length cap) rfl (fun w hw => hw.1) rfl ?_
          (first | refine wX ?_ | exact wZ)
          refine brd_dec (fun _ => ?_) (fun h => absurd h (by omega))
          (first | refine wX ?_ | exact wZ)
          -- 0: the field's number, .int .i64 tk: its value
          refine LdN.one (a := some ⟨xb, 0, none⟩) (q := 3) (.slice (at0 ob) l.length cap) rfl (fun w hw => hw.1) rfl ?_
          (first | refine wX ?_ | exact wZ)
          refine LdN.one (a := some ⟨xb, 0, none⟩) (q := 3) (.slice (at0 ob) l.length cap) rfl (fun w hw => hw.1) rfl ?_
          (first | refine wX ?_ | exact wZ)
          try rw [hw1]
          refine Nd.mk ⟨hoa, by omega, by omega⟩ ?_
          (first | refine wX ?_ | exact wZ)
          refine LdN.fld (.int .i64 tk) rfl (fun w hw => hw.2.1) (by rw [Int.toNat_natCast]; exact toksC_get l _ 0 (by decide) ht) ?_
          (first | refine wX ?_ | exact wZ)
          refine brd_eq (fun e7 => ?_) (fun e7 => ?_)
          · by_cases h46 : tt = [46]
            · subst h46
              have hd : lastDot l = true := by rw [hdt]; simp [e7]
              (first | refine wX ?_ | exact wZ)
              -- 1: the field's number, .string (bs [46]): its value
              refine LdN.one (a := some ⟨xb, 0, none⟩) (q := 3) (.slice (at0 ob) l.length cap) rfl (fun w hw => hw.1) rfl ?_
              (first | refine wX ?_ | exact wZ)
              refine LdN.one (a := some ⟨xb, 0, none⟩) (q := 3) (.slice (at0 ob) l.length cap) rfl (fun w hw => hw.1) rfl ?_
              (first | refine wX ?_ | exact wZ)
              try rw [hw1]
              refine Nd.mk ⟨hoa, by omega, by omega⟩ ?_
              (first | refine wX ?_ | exact wZ)
              refine LdN.fld (.string (bs [46])) rfl (fun w hw => hw.2.1) (by rw [Int.toNat_natCast]; exact toksC_get l _ 1 (by decide) ht) ?_
              (first | refine wX ?_ | exact wZ)
              -- it is upper; true: whether a dot is ahead
              -- 2: the kind
              rw [hwW, show wordsK s p l = (2, q) by rw [hK2]; simp [hsm, hd, *]]
              (first | refine wX ?_ | exact wZ)
              refine callG (add_c xb s q line l ob cap here sp 2 W line (by omega) hob) [0, 1] rfl ⟨rfl, rfl, trivial⟩ rfl fun ⟨b1, c1⟩ _ => ?_
              (first | refine wX ?_ | exact wZ)
              exact ⟨(b1, c1), trivial, rfl, wkE_refl _, wkE_refl _, wkE_refl _, wkH_nil _⟩
            · (first | refine wX ?_ | exact wZ)
              -- 1: the field's number, .string (bs tt): its value
              refine LdN.one (a := some ⟨xb, 0, none⟩) (q := 3) (.slice (at0 ob) l.length cap) rfl (fun w hw => hw.1) rfl ?_
              (first | refine wX ?_ | exact wZ)
              refine LdN.one (a := some ⟨xb, 0, none⟩) (q := 3) (.slice (at0 ob) l.length cap) rfl (fun w hw => hw.1) rfl ?_
              (first | refine wX ?_ | exact wZ)
              try rw [hw1]
              refine Nd.mk ⟨hoa, by omega, by omega⟩ ?_
              (first | refine wX ?_ | exact wZ)
              refine LdN.fld (.string (bs tt)) rfl (fun w hw => hw.2.1) (by rw [Int.toNat_natCast]; exact toksC_get l _ 1 (by decide) ht) ?_
              (first | refine wX ?_ | exact wZ)
              refine brd_intro (fun h => absurd (eq_of_beq (show (tt == [46]) = true from h)) h46) (fun _ => ?_)
              by_cases h38 : tt = [38, 46]
              · subst h38
                have hd : lastDot l = true := by rw [hdt]; simp [e7]
                (first | refine wX ?_ | exact wZ)
                -- 1: the field's number, .string (bs [38, 46]): its value
                refine LdN.one (a := some ⟨xb, 0, none⟩) (q := 3) (.slice (at0 ob) l.length cap) rfl (fun w hw => hw.1) rfl ?_
                (first | refine wX ?_ | exact wZ)
                refine LdN.one (a := some ⟨xb, 0, none⟩) (q := 3) (.slice (at0 ob) l.length cap) rfl (fun w hw => hw.1) rfl ?_
                (first | refine wX ?_ | exact wZ)
                try rw [hw1]
                refine Nd.mk ⟨hoa, by omega, by omega⟩ ?_
                (first | refine wX ?_ | exact wZ)
                refine LdN.fld (.string (bs [38, 46])) rfl (fun w hw => hw.2.1) (by rw [Int.toNat_natCast]; exact toksC_get l _ 1 (by decide) ht) ?_
                (first | refine wX ?_ | exact wZ)
                -- it is upper; true: whether a dot is ahead
                -- 2: the kind
                rw [hwW, show wordsK s p l = (2, q) by rw [hK2]; simp [hsm, hd, *]]
                (first | refine wX ?_ | exact wZ)
                refine callG (add_c xb s q line l ob cap here sp 2 W line (by omega) hob) [0, 1] rfl ⟨rfl, rfl, trivial⟩ rfl fun ⟨b1, c1⟩ _ => ?_
                (first | refine wX ?_ | exact wZ)
                exact ⟨(b1, c1), trivial, rfl, wkE_refl _, wkE_refl _, wkE_refl _, wkH_nil _⟩
              · have hd : lastDot l = false := by rw [hdt]; simp [h46, h38]
                (first | refine wX ?_ | exact wZ)
                -- 1: the field's number, .string (bs tt): its value
                refine LdN.one (a := some ⟨xb, 0, none⟩) (q := 3) (.slice (at0 ob) l.length cap) rfl (fun w hw => hw.1) rfl ?_
                (first | refine wX ?_ | exact wZ)
                refine LdN.one (a := some ⟨xb, 0, none⟩) (q := 3) (.slice (at0 ob) l.length cap) rfl (fun w hw => hw.1) rfl ?_
                (first | refine wX ?_ | exact wZ)
                try rw [hw1]
                refine Nd.mk ⟨hoa, by omega, by omega⟩ ?_
                (first | refine wX ?_ | exact wZ)
                refine LdN.fld (.string (bs tt)) rfl (fun w hw => hw.2.1) (by rw [Int.toNat_natCast]; exact toksC_get l _ 1 (by decide) ht) ?_
                (first | refine wX ?_ | exact wZ)
                -- it is upper; sym: whether a dot is ahead
                -- 2: the kind
                rw [hwW, show wordsK s p l = (2, q) by rw [hK2]; simp [hsm, hd, *]]
                (first | refine wX ?_ | exact wZ)
                refine callG (add_c xb s q line l ob cap here sp 2 W line (by omega) hob) [0, 1] rfl ⟨rfl, rfl, trivial⟩ rfl fun ⟨b1, c1⟩ _ => ?_
                (first | refine wX ?_ | exact wZ)
                exact ⟨(b1, c1), trivial, rfl, wkE_refl _, wkE_refl _, wkE_refl _, wkH_nil _⟩
          · have hd : lastDot l = false := by rw [hdt]; simp [e7]
            -- it is upper; false: whether a dot is ahead
            -- 2: the kind
            rw [hwW, show wordsK s p l = (2, q) by rw [hK2]; simp [hsm, hd, *]]
            (first | refine wX ?_ | exact wZ)
            refine callG (add_c xb s q line l ob cap here sp 2 W line (by omega) hob) [0, 1] rfl ⟨rfl, rfl, trivial⟩ rfl fun ⟨b1, c1⟩ _ => ?_
            (first | refine wX ?_ | exact wZ)
            exact ⟨(b1, c1), trivial, rfl, wkE_refl _, wkE_refl _, wkE_refl _, wkH_nil _⟩
      | false =>
        have hK2 : wordsK s p l = (9, q + 1) := by rw [hK]; simp [bne, e0, e1]
        have hql := pk_lt (show pk s q = 58 by simpa using e0) (by decide)
        rw [hwW, hK2]
        (first | refine wX ?_ | exact wZ)
        refine LdN.one (a := some ⟨xb, 0, none⟩) (q := 1) (.int .i64 ((q : Nat) : Int)) rfl (fun w hw => hw.1) rfl ?_
        (first | refine wX ?_ | exact wZ)
        refine EffW.appTo (i := 0) (q := 1) (ys := [_]) (scC s (q + 1) line ob l.length cap here sp) 6 rfl rfl rfl rfl rfl rfl rfl (Nat.le_of_ble_eq_true rfl) (by
          show [_, Value.int .i64 _, _, _, _, _] = [_, Value.int .i64 _, _, _, _, _]
          rw [wrap_i64 (by omega)]
          rfl) rfl ?_
        (first | refine wX ?_ | exact wZ)
        refine callG (add_c xb s (q + 1) line l ob cap here sp 9 W line (by omega) hob) [0, 1] rfl ⟨rfl, rfl, trivial⟩ rfl fun ⟨b1, c1⟩ _ => ?_
        (first | refine wX ?_ | exact wZ)
        exact ⟨(b1, c1), trivial, rfl, wkE_refl _, wkE_refl _, wkE_refl _, wkH_nil _⟩
    | false =>
      have hK2 : wordsK s p l = (if !sml c then 2 else if kwB W && !lastDot l then 8 else 1, q) := by rw [hK]; simp [e0]
      -- true: upper
      rcases Nat.eq_zero_or_pos l.length with hl0 | hl0
      · have hd : lastDot l = false := by rw [List.eq_nil_of_length_eq_zero hl0]; rfl
        (first | refine wX ?_ | exact wZ)
        refine LdN.one (a := some ⟨xb, 0, none⟩) (q := 3) (.slice (at0 ob) l.length cap) rfl (fun w hw => hw.1) rfl ?_
        (first | refine wX ?_ | exact wZ)
        refine brd_dec (fun h => absurd h (by omega)) (fun _ => ?_)
        -- it is upper; false: whether a dot is ahead
        -- 2: the kind
        rw [hwW, show wordsK s p l = (2, q) by rw [hK2]; simp [hsm, hd, *]]
        (first | refine wX ?_ | exact wZ)
        refine callG (add_c xb s q line l ob cap here sp 2 W line (by omega) hob) [0, 1] rfl ⟨rfl, rfl, trivial⟩ rfl fun ⟨b1, c1⟩ _ => ?_
        (first | refine wX ?_ | exact wZ)
        exact ⟨(b1, c1), trivial, rfl, wkE_refl _, wkE_refl _, wkE_refl _, wkH_nil _⟩
      · obtain ⟨t, ht⟩ : ∃ t, l[l.length - 1]? = some t := ⟨_, List.getElem?_eq_getElem (by omega)⟩
        have hoa : (at0 ob).isSome = true := by
          cases ob with
          | none => rw [hob rfl] at hl0; simp at hl0
          | some g => rfl
        have hw1 : IntKind.i64.wrap ((l.length : Int) - 1) = ((l.length - 1 : Nat) : Int) := by rw [wrap_i64 (by omega)]; omega
        obtain ⟨tk, tt, ts, tl2, ta, tn, tc⟩ := t
        have hdt : lastDot l = (tk == 7 && (tt == [46] || tt == [38, 46])) := by
          unfold lastDot
          rw [List.getLast?_eq_getElem?, ht]
        (first | refine wX ?_ | exact wZ)
        refine LdN.one (a := some ⟨xb, 0, none⟩) (q := 3) (.slice (at0 ob) l.length cap) rfl (fun w hw => hw.1) rfl ?_
        (first | refine wX ?_ | exact wZ)
        refine brd_dec (fun _ => ?_) (fun h => absurd h (by omega))
        (first | refine wX ?_ | exact wZ)
        -- 0: the field's number, .int .i64 tk: its value
        refine LdN.one (a := some ⟨xb, 0, none⟩) (q := 3) (.slice (at0 ob) l.length cap) rfl (fun w hw => hw.1) rfl ?_
        (first | refine wX ?_ | exact wZ)
        refine LdN.one (a := some ⟨xb, 0, none⟩) (q := 3) (.slice (at0 ob) l.length cap) rfl (fun w hw => hw.1) rfl ?_
        (first | refine wX ?_ | exact wZ)
        try rw [hw1]
        refine Nd.mk ⟨hoa, by omega, by omega⟩ ?_
        (first | refine wX ?_ | exact wZ)
        refine LdN.fld (.int .i64 tk) rfl (fun w hw => hw.2.1) (by rw [Int.toNat_natCast]; exact toksC_get l _ 0 (by decide) ht) ?_
        (first | refine wX ?_ | exact wZ)
        refine brd_eq (fun e7 => ?_) (fun e7 => ?_)
        · by_cases h46 : tt = [46]
          · subst h46
            have hd : lastDot l = true := by rw [hdt]; simp [e7]
            (first | refine wX ?_ | exact wZ)
            -- 1: the field's number, .string (bs [46]): its value
            refine LdN.one (a := some ⟨xb, 0, none⟩) (q := 3) (.slice (at0 ob) l.length cap) rfl (fun w hw => hw.1) rfl ?_
            (first | refine wX ?_ | exact wZ)
            refine LdN.one (a := some ⟨xb, 0, none⟩) (q := 3) (.slice (at0 ob) l.length cap) rfl (fun w hw => hw.1) rfl ?_
            (first | refine wX ?_ | exact wZ)
            try rw [hw1]
            refine Nd.mk ⟨hoa, by omega, by omega⟩ ?_
            (first | refine wX ?_ | exact wZ)
            refine LdN.fld (.string (bs [46])) rfl (fun w hw => hw.2.1) (by rw [Int.toNat_natCast]; exact toksC_get l _ 1 (by decide) ht) ?_
            (first | refine wX ?_ | exact wZ)
            -- it is upper; true: whether a dot is ahead
            -- 2: the kind
            rw [hwW, show wordsK s p l = (2, q) by rw [hK2]; simp [hsm, hd, *]]
            (first | refine wX ?_ | exact wZ)
            refine callG (add_c xb s q line l ob cap here sp 2 W line (by omega) hob) [0, 1] rfl ⟨rfl, rfl, trivial⟩ rfl fun ⟨b1, c1⟩ _ => ?_
            (first | refine wX ?_ | exact wZ)
            exact ⟨(b1, c1), trivial, rfl, wkE_refl _, wkE_refl _, wkE_refl _, wkH_nil _⟩
          · (first | refine wX ?_ | exact wZ)
            -- 1: the field's number, .string (bs tt): its value
            refine LdN.one (a := some ⟨xb, 0, none⟩) (q := 3) (.slice (at0 ob) l.length cap) rfl (fun w hw => hw.1) rfl ?_
            (first | refine wX ?_ | exact wZ)
            refine LdN.one (a := some ⟨xb, 0, none⟩) (q := 3) (.slice (at0 ob) l.length cap) rfl (fun w hw => hw.1) rfl ?_
            (first | refine wX ?_ | exact wZ)
            try rw [hw1]
            refine Nd.mk ⟨hoa, by omega, by omega⟩ ?_
            (first | refine wX ?_ | exact wZ)
            refine LdN.fld (.string (bs tt)) rfl (fun w hw => hw.2.1) (by rw [Int.toNat_natCast]; exact toksC_get l _ 1 (by decide) ht) ?_
            (first | refine wX ?_ | exact wZ)
            refine brd_intro (fun h => absurd (eq_of_beq (show (tt == [46]) = true from h)) h46) (fun _ => ?_)
            by_cases h38 : tt = [38, 46]
            · subst h38
              have hd : lastDot l = true := by rw [hdt]; simp [e7]
              (first | refine wX ?_ | exact wZ)
              -- 1: the field's number, .string (bs [38, 46]): its value
              refine LdN.one (a := some ⟨xb, 0, none⟩) (q := 3) (.slice (at0 ob) l.length cap) rfl (fun w hw => hw.1) rfl ?_
              (first | refine wX ?_ | exact wZ)
              refine LdN.one (a := some ⟨xb, 0, none⟩) (q := 3) (.slice (at0 ob) l.length cap) rfl (fun w hw => hw.1) rfl ?_
              (first | refine wX ?_ | exact wZ)
              try rw [hw1]
              refine Nd.mk ⟨hoa, by omega, by omega⟩ ?_
              (first | refine wX ?_ | exact wZ)
              refine LdN.fld (.string (bs [38, 46])) rfl (fun w hw => hw.2.1) (by rw [Int.toNat_natCast]; exact toksC_get l _ 1 (by decide) ht) ?_
              (first | refine wX ?_ | exact wZ)
              -- it is upper; true: whether a dot is ahead
              -- 2: the kind
              rw [hwW, show wordsK s p l = (2, q) by rw [hK2]; simp [hsm, hd, *]]
              (first | refine wX ?_ | exact wZ)
              refine callG (add_c xb s q line l ob cap here sp 2 W line (by omega) hob) [0, 1] rfl ⟨rfl, rfl, trivial⟩ rfl fun ⟨b1, c1⟩ _ => ?_
              (first | refine wX ?_ | exact wZ)
              exact ⟨(b1, c1), trivial, rfl, wkE_refl _, wkE_refl _, wkE_refl _, wkH_nil _⟩
            · have hd : lastDot l = false := by rw [hdt]; simp [h46, h38]
              (first | refine wX ?_ | exact wZ)
              -- 1: the field's number, .string (bs tt): its value
              refine LdN.one (a := some ⟨xb, 0, none⟩) (q := 3) (.slice (at0 ob) l.length cap) rfl (fun w hw => hw.1) rfl ?_
              (first | refine wX ?_ | exact wZ)
              refine LdN.one (a := some ⟨xb, 0, none⟩) (q := 3) (.slice (at0 ob) l.length cap) rfl (fun w hw => hw.1) rfl ?_
              (first | refine wX ?_ | exact wZ)
              try rw [hw1]
              refine Nd.mk ⟨hoa, by omega, by omega⟩ ?_
              (first | refine wX ?_ | exact wZ)
              refine LdN.fld (.string (bs tt)) rfl (fun w hw => hw.2.1) (by rw [Int.toNat_natCast]; exact toksC_get l _ 1 (by decide) ht) ?_
              (first | refine wX ?_ | exact wZ)
              -- it is upper; sym: whether a dot is ahead
              -- 2: the kind
              rw [hwW, show wordsK s p l = (2, q) by rw [hK2]; simp [hsm, hd, *]]
              (first | refine wX ?_ | exact wZ)
              refine callG (add_c xb s q line l ob cap here sp 2 W line (by omega) hob) [0, 1] rfl ⟨rfl, rfl, trivial⟩ rfl fun ⟨b1, c1⟩ _ => ?_
              (first | refine wX ?_ | exact wZ)
              exact ⟨(b1, c1), trivial, rfl, wkE_refl _, wkE_refl _, wkE_refl _, wkH_nil _⟩
        · have hd : lastDot l = false := by rw [hdt]; simp [e7]
          -- it is upper; false: whether a dot is ahead
          -- 2: the kind
          rw [hwW, show wordsK s p l = (2, q) by rw [hK2]; simp [hsm, hd, *]]
          (first | refine wX ?_ | exact wZ)
          refine callG (add_c xb s q line l ob cap here sp 2 W line (by omega) hob) [0, 1] rfl ⟨rfl, rfl, trivial⟩ rfl fun ⟨b1, c1⟩ _ => ?_
          (first | refine wX ?_ | exact wZ)
          exact ⟨(b1, c1), trivial, rfl, wkE_refl _, wkE_refl _, wkE_refl _, wkH_nil _⟩
end Go.Proofs.YteejemdibfbccaaGreatDoor

/-
  Contract: signs (program).
-/
namespace Go.Proofs.YteejemdibfbccaaGreatDoor
open Go.AX Go.RowKit Go.Scan
set_option maxRecDepth 20000

theorem Fields_c (s : List UInt8) (hs : s.length < 4294967281) (ha : ∀ c ∈ s, c.toNat < 128) : SpecF Tryz.prog 28 [.string (bs s)] ScanF fun v G => ∃ b, v = .slice (some ⟨b, 0, none⟩) (Lib.fields s).length (Lib.fields s).length ∧ ∀ w, G w → SlAt (some ⟨b, 0, none⟩) (Lib.fields s).length ((Lib.fields s).map fun l => Value.string (bs l)) w :=
  specF_new (T := 9) (callOk Tryz.func28 (by kernel_rfl) rfl) (by simp) fun w hw => (Tryz.strings_Fields (bs s) w (by rw [bs_size]; exact hs) (fun j b hj => ha b (List.mem_of_getElem? hj)) hw.2).mono fun e w' ⟨he, hw'⟩ => ⟨he, hw'⟩
def bestF (rest : List UInt8) (b f : List UInt8) : List UInt8 := if f.isPrefixOf rest && decide (b.length < f.length) then f else b
def bestS (rest : List UInt8) (fs : List (List UInt8)) : List UInt8 := fs.foldl (bestF rest) []
theorem bestS_snoc (rest : List UInt8) (fs : List (List UInt8)) (f : List UInt8) : bestS rest (fs ++ [f]) = bestF rest (bestS rest fs) f := by simp [bestS]

set_option maxHeartbeats 2000000 in
theorem signs_c (xb : Nat) (s : List UInt8) (p line : Nat) (l : List Tok) (ob : Option Nat) (cap here : Nat) (sp : Bool) (best : List UInt8) (hbest : bestS (s.drop p) (Lib.fields sgs) = best) (hne : best ≠ []) (hl : l.length ≤ 900000) (hob : ob = none → l = []) (hs : s.length ≤ 1000000) (hp : p ≤ s.length) (hbl : best.length ≤ 1000) :
    SpecH Tryz.prog 71 [.c (.v (.pointer (some ⟨xb, 0, none⟩)))] [scE xb s p line ob l.length cap here sp, toE l ob cap, .fact ScanF]
      (RetG (ι := Nat × Nat) (fun _ => True) (fun _ => .tuple #[]) fun ⟨b, c⟩ => [scE xb s (p + best.length) line (some b) (l.length + 1) c here false, toE (l ++ [⟨7, best, sp, line, none, 0, 0⟩]) (some b) c, .fact ScanF]) := by
  refine ownC hm Tryz.func71 (by kernel_rfl) rfl rfl (fun _ _ => okHB_eq rfl) (fun _ _ => Nat.le_refl _) ?_
  have hz := bs_size s
  (first | refine wX ?_ | exact wZ)
  refine SpecF.call (Fields_c sgs (by decide) (by decide +kernel)) (fun w hw => hw.1) fun v G hR => ?_
  obtain ⟨fb, rfl, hG⟩ := hR
  have hfn : (Lib.fields sgs).length ≤ 100 := by decide +kernel
  generalize Lib.fields sgs = fs at *
  (first | refine wX ?_ | exact wZ)
  refine loopS Nat (fun i => i ≤ fs.length) (fun i => mkS Tryz.f71.ntmps 0 [(0, .c (.v (.pointer (some ⟨xb, 0, none⟩)))), (2, .c (.v (.string (bs (bestS (s.drop p) (fs.take i)))))), (5, .c (.v (.slice (some ⟨fb, 0, none⟩) fs.length fs.length))), (6, .c (.v (.int .i64 (fs.length : Int)))), (7, .c (.v (.int .i64 (i : Int))))]) (fun i => fs.length - i) rfl (fun _ => rfl) 0 (Nat.zero_le _) ?_ ?_
  · (repeat' (first | exact trivial | refine And.intro (by with_reducible rfl) ?_ | (with_reducible exact wkC_refl _) | (with_reducible exact wkCs_refl _) | refine And.intro ?_ ?_))
    all_goals rfl
  intro i hi
  (first | refine wX ?_ | exact wZ)
  refine brd_dec (fun h1 => ?_) (fun h1 => ?_)
  · obtain ⟨f, hf⟩ : ∃ f, fs[i]? = some f := ⟨_, List.getElem?_eq_getElem (by omega)⟩
    (first | refine wX ?_ | exact wZ)
    try refine Nd.mk ⟨rfl, by omega, by omega⟩ ?_
    (first | refine wX ?_ | exact wZ)
    refine LdN.one (.string (bs f)) rfl (fun w hw => hG w hw.2.2.2.1) (by show (fs.map _)[Int.toNat _ * 1]? = _; rw [Int.toNat_natCast, Nat.mul_one, List.getElem?_map, hf]; rfl) ?_
    (first | refine wX ?_ | exact wZ)
    have hsn : bestS (s.drop p) (fs.take (i + 1)) = bestF (s.drop p) (bestS (s.drop p) (fs.take i)) f := by rw [List.take_add_one, hf]; exact bestS_snoc _ _ _
    have hbz := bs_size (bestS (s.drop p) (fs.take i))
    have hfz := bs_size f
    generalize bestS (s.drop p) (fs.take i) = bst at *
    refine LdN.one (a := some ⟨xb, 0, none⟩) (q := 0) (.string (bs s)) rfl (fun w hw => hw.1) rfl ?_
    (first | refine wX ?_ | exact wZ)
    refine LdN.one (a := some ⟨xb, 0, none⟩) (q := 1) (.int .i64 ((p : Nat) : Int)) rfl (fun w hw => hw.1) rfl ?_
    (first | refine wX ?_ | exact wZ)
    refine ReadW.sl_l p rfl Tryz.underlying9 rfl rfl ⟨rfl, hp⟩ ?_
    (first | refine wX ?_ | exact wZ)
    refine callQ (HasPrefix_c (s.drop p) f _) ?_
    cases hpf : f.isPrefixOf (s.drop p) with
    | false =>
      have hs2 : bestF (s.drop p) bst f = bst := by unfold bestF; rw [hpf]; rfl
      (first | refine wX ?_ | exact wZ)
      refine ⟨i + 1, by omega, by omega, ?_, by (repeat' (first | exact trivial | exact wkE_refl _ | refine And.intro ?_ ?_))⟩
      rw [hsn, hs2]
      (repeat' (first | exact trivial | refine And.intro (by with_reducible rfl) ?_ | (with_reducible exact wkC_refl _) | (with_reducible exact wkCs_refl _) | refine And.intro ?_ ?_))
      all_goals first | rfl | exact av_int (by rw [wrap_i64 (by omega)]; omega)
    | true =>
      (first | refine wX ?_ | exact wZ)
      rw [hbz, hfz]
      refine brd_dec (fun h2 => ?_) (fun h2 => ?_)
      · have hs2 : bestF (s.drop p) bst f = f := by unfold bestF; rw [hpf, decide_eq_true (by omega)]; rfl
        (first | refine wX ?_ | exact wZ)
        refine ⟨i + 1, by omega, by omega, ?_, by (repeat' (first | exact trivial | exact wkE_refl _ | refine And.intro ?_ ?_))⟩
        rw [hsn, hs2]
        (repeat' (first | exact trivial | refine And.intro (by with_reducible rfl) ?_ | (with_reducible exact wkC_refl _) | (with_reducible exact wkCs_refl _) | refine And.intro ?_ ?_))
        all_goals first | rfl | exact av_int (by rw [wrap_i64 (by omega)]; omega)
      · have hs2 : bestF (s.drop p) bst f = bst := by unfold bestF; rw [hpf, decide_eq_false (by omega)]; rfl
        (first | refine wX ?_ | exact wZ)
        refine ⟨i + 1, by omega, by omega, ?_, by (repeat' (first | exact trivial | exact wkE_refl _ | refine And.intro ?_ ?_))⟩
        rw [hsn, hs2]
        (repeat' (first | exact trivial | refine And.intro (by with_reducible rfl) ?_ | (with_reducible exact wkC_refl _) | (with_reducible exact wkCs_refl _) | refine And.intro ?_ ?_))
        all_goals first | rfl | exact av_int (by rw [wrap_i64 (by omega)]; omega)
  · have hie : i = fs.length := by omega
    subst hie
    rw [List.take_length, hbest]
    have hbz := bs_size best
    obtain ⟨c0, r0, hcr⟩ : ∃ c0 r0, best = c0 :: r0 := by
      cases best with
      | nil => exact absurd rfl hne
      | cons c r => exact ⟨c, r, rfl⟩
    subst hcr
    (first | refine wX ?_ | exact wZ)
    refine LdN.one (a := some ⟨xb, 0, none⟩) (q := 1) (.int .i64 ((p : Nat) : Int)) rfl (fun w hw => hw.1) rfl ?_
    (first | refine wX ?_ | exact wZ)
    refine EffW.appTo (i := 0) (q := 1) (ys := [_]) (scC s (p + (c0 :: r0).length) line ob l.length cap here sp) 6 rfl rfl rfl rfl rfl rfl rfl (Nat.le_of_ble_eq_true rfl) (by
      show [_, Value.int .i64 _, _, _, _, _] = [_, Value.int .i64 _, _, _, _, _]
      rw [hbz, wrap_i64 (by omega)]
      rfl) rfl ?_
    (first | refine wX ?_ | exact wZ)
    refine LdN.one (a := some ⟨xb, 0, none⟩) (q := 2) (.int .i64 ((line : Nat) : Int)) rfl (fun w hw => hw.1) rfl ?_
    (first | refine wX ?_ | exact wZ)
    refine callG (add_c xb s (p + (c0 :: r0).length) line l ob cap here sp 7 (c0 :: r0) line (by omega) hob) [0, 1] rfl ⟨rfl, rfl, trivial⟩ rfl fun ⟨b1, c1⟩ _ => ?_
    (first | refine wX ?_ | exact wZ)
    exact ⟨(b1, c1), trivial, rfl, wkE_refl _, wkE_refl _, wkE_refl _, wkH_nil _⟩
end Go.Proofs.YteejemdibfbccaaGreatDoor

/-
  Contracts: what stands at the present place: a letter, a dot, a blank (program).
-/
namespace Go.Proofs.YteejemdibfbccaaGreatDoor
open Go.AX Go.RowKit Go.Scan
set_option maxRecDepth 20000

set_option maxHeartbeats 1000000 in
theorem next_letter (xb : Nat) (s : List UInt8) (p line : Nat) (l : List Tok) (ob : Option Nat) (cap here : Nat) (sp : Bool) {c : UInt8} (hc : s[p]? = some c) (hlt : ltr c = true) (hl : l.length ≤ 900000) (hob : ob = none → l = []) (hs : s.length ≤ 1000000) :
    SpecH Tryz.prog 44 [.c (.v (.pointer (some ⟨xb, 0, none⟩)))] [scE xb s p line ob l.length cap here sp, toE l ob cap, .fact ScanF]
      (RetG (ι := Nat × Nat) (fun _ => True) (fun _ => .tuple #[]) fun ⟨b, c⟩ => [scE xb s (wordsK s p l).2 line (some b) (l.length + 1) c here false, toE (l ++ [⟨(wordsK s p l).1, wordW s p, sp, line, none, 0, 0⟩]) (some b) c, .fact ScanF]) := by
  have hbl : blk c = false := by
    simp [ltr, sml, grt] at hlt
    simp [blk]
    omega
  have hn : 65 ≤ c.toNat := by
    simp [ltr, sml, grt] at hlt
    omega
  refine ownC hm Tryz.func44 (by kernel_rfl) rfl rfl (fun _ _ => okHB_eq rfl) (fun _ _ => Nat.le_refl _) ?_
  have hz := bs_size s
  have hp : p < s.length := (List.getElem?_eq_some_iff.1 hc).1
  (first | refine wX ?_ | exact wZ)
  refine LdN.one (a := some ⟨xb, 0, none⟩) (q := 0) (.string (bs s)) rfl (fun w hw => hw.1) rfl ?_
  (first | refine wX ?_ | exact wZ)
  refine LdN.one (a := some ⟨xb, 0, none⟩) (q := 1) (.int .i64 ((p : Nat) : Int)) rfl (fun w hw => hw.1) rfl ?_
  (first | refine wX ?_ | exact wZ)
  rw [Int.toNat_natCast, byteAt_get hc]
  (first | refine wX ?_ | exact wZ)
  refine call1 (blk_c c _) ?_
  rw [hbl]
  (first | refine wX ?_ | exact wZ)
  refine brd_eq (fun h => absurd h (by omega)) (fun _ => ?_)
  (first | refine wX ?_ | exact wZ)
  refine brd_eq (fun h => absurd h (by omega)) (fun _ => ?_)
  (first | refine wX ?_ | exact wZ)
  refine brd_eq (fun h => absurd h (by omega)) (fun _ => ?_)
  (first | refine wX ?_ | exact wZ)
  refine call1 (ltr_c c _) ?_
  rw [hlt]
  (first | refine wX ?_ | exact wZ)
  refine callG (words_c xb s p line l ob cap here sp hl hob hs hp) [0, 1, 2] rfl ⟨rfl, rfl, rfl, trivial⟩ rfl fun ⟨b1, c1⟩ _ => ?_
  (first | refine wX ?_ | exact wZ)
  exact ⟨(b1, c1), trivial, rfl, wkE_refl _, wkE_refl _, wkE_refl _, wkH_nil _⟩
theorem next_blank (xb : Nat) (s : List UInt8) (p line : Nat) (ob : Option Nat) (n cap here : Nat) (sp : Bool) {c : UInt8} (hc : s[p]? = some c) (hbl : blk c = true) (hs : s.length ≤ 1000000) :
    SpecH Tryz.prog 44 [.c (.v (.pointer (some ⟨xb, 0, none⟩)))] [scE xb s p line ob n cap here sp]
      (RetG (ι := Unit) (fun _ => True) (fun _ => .tuple #[]) fun _ => [scE xb s (p + 1) line ob n cap here true]) := by
  refine ownC hm Tryz.func44 (by kernel_rfl) rfl rfl (fun _ _ => okHB_eq rfl) (fun _ _ => Nat.le_refl _) ?_
  have hz := bs_size s
  have hp : p < s.length := (List.getElem?_eq_some_iff.1 hc).1
  (first | refine wX ?_ | exact wZ)
  refine LdN.one (a := some ⟨xb, 0, none⟩) (q := 0) (.string (bs s)) rfl (fun w hw => hw.1) rfl ?_
  (first | refine wX ?_ | exact wZ)
  refine LdN.one (a := some ⟨xb, 0, none⟩) (q := 1) (.int .i64 ((p : Nat) : Int)) rfl (fun w hw => hw.1) rfl ?_
  (first | refine wX ?_ | exact wZ)
  rw [Int.toNat_natCast, byteAt_get hc]
  (first | refine wX ?_ | exact wZ)
  refine call1 (blk_c c _) ?_
  rw [hbl]
  (first | refine wX ?_ | exact wZ)
  refine LdN.one (a := some ⟨xb, 0, none⟩) (q := 1) (.int .i64 ((p : Nat) : Int)) rfl (fun w hw => hw.1) rfl ?_
  (first | refine wX ?_ | exact wZ)
  refine EffW.appTo (i := 0) (q := 1) (ys := [_]) (scC s (p + 1) line ob n cap here sp) 6 rfl rfl rfl rfl rfl rfl rfl (Nat.le_of_ble_eq_true rfl) (by
    show [_, Value.int .i64 _, _, _, _, _] = [_, Value.int .i64 _, _, _, _, _]
    rw [wrap_i64 (by omega)]
    rfl) rfl ?_
  (first | refine wX ?_ | exact wZ)
  refine EffW.appTo (i := 0) (q := 5) (ys := [_]) (scC s (p + 1) line ob n cap here true) 6 rfl rfl rfl rfl rfl rfl rfl (Nat.le_of_ble_eq_true rfl) rfl rfl ?_
  (first | refine wX ?_ | exact wZ)
  exact ⟨(), trivial, rfl, wkE_refl _, wkH_nil _⟩
theorem next_dot (xb : Nat) (s : List UInt8) (p line : Nat) (l : List Tok) (ob : Option Nat) (cap here : Nat) (sp : Bool) (hc : s[p]? = some 46) (best : List UInt8) (hbest : bestS (s.drop p) (Lib.fields sgs) = best) (hne : best ≠ []) (hl : l.length ≤ 900000) (hob : ob = none → l = []) (hs : s.length ≤ 1000000) (hbl : best.length ≤ 1000) :
    SpecH Tryz.prog 44 [.c (.v (.pointer (some ⟨xb, 0, none⟩)))] [scE xb s p line ob l.length cap here sp, toE l ob cap, .fact ScanF]
      (RetG (ι := Nat × Nat) (fun _ => True) (fun _ => .tuple #[]) fun ⟨b, c⟩ => [scE xb s (p + best.length) line (some b) (l.length + 1) c here false, toE (l ++ [⟨7, best, sp, line, none, 0, 0⟩]) (some b) c, .fact ScanF]) := by
  refine ownC hm Tryz.func44 (by kernel_rfl) rfl rfl (fun _ _ => okHB_eq rfl) (fun _ _ => Nat.le_refl _) ?_
  have hz := bs_size s
  have hp : p < s.length := (List.getElem?_eq_some_iff.1 hc).1
  (first | refine wX ?_ | exact wZ)
  refine LdN.one (a := some ⟨xb, 0, none⟩) (q := 0) (.string (bs s)) rfl (fun w hw => hw.1) rfl ?_
  (first | refine wX ?_ | exact wZ)
  refine LdN.one (a := some ⟨xb, 0, none⟩) (q := 1) (.int .i64 ((p : Nat) : Int)) rfl (fun w hw => hw.1) rfl ?_
  (first | refine wX ?_ | exact wZ)
  rw [Int.toNat_natCast, byteAt_get hc]
  (first | refine wX ?_ | exact wZ)
  refine call1 (blk_c 46 _) ?_
  (first | refine wX ?_ | exact wZ)
  refine call1 (ltr_c 46 _) ?_
  (first | refine wX ?_ | exact wZ)
  refine call1 (dig_c 46 _) ?_
  (first | refine wX ?_ | exact wZ)
  refine callG (signs_c xb s p line l ob cap here sp best hbest hne hl hob hs (by omega) hbl) [0, 1, 2] rfl ⟨rfl, rfl, rfl, trivial⟩ rfl fun ⟨b1, c1⟩ _ => ?_
  (first | refine wX ?_ | exact wZ)
  exact ⟨(b1, c1), trivial, rfl, wkE_refl _, wkE_refl _, wkE_refl _, wkH_nil _⟩
end Go.Proofs.YteejemdibfbccaaGreatDoor

/-
  Contract: Scan of the chapter's example (program).
-/
namespace Go.Proofs.YteejemdibfbccaaGreatDoor
open Go.AX Go.RowKit Go.Scan
set_option maxRecDepth 20000

/-- a.b c? -/
def exS : List UInt8 := [97, 46, 98, 32, 99, 63]
def exT : List Tok := [⟨1, [97], false, 1, none, 0, 0⟩, ⟨7, [46], false, 1, none, 0, 0⟩, ⟨1, [98], false, 1, none, 0, 0⟩, ⟨1, [99, 63], true, 1, none, 0, 0⟩]
def ExR (v : Value) (G : World → Prop) : Prop := ∃ (b cap : Nat), v = .tuple #[.slice (some ⟨b, 0, none⟩) 4 cap, .int .i64 0, .int .i64 0] ∧ ∀ w, G w → SlAt (some ⟨b, 0, none⟩) 20 (toksC exT) w
def capsOf (t : Array Value) : Array Value := #[t[2]?.getD undef, t[3]?.getD undef, t[4]?.getD undef]
theorem hD_c (id T1 : Nat) (p1 p2 : String) (g1 g2 : _) (t : Array Value) (w : World) (Q : Exit → Act → World → Prop) (ht : 12 < t.size) (h : Q .normal { tmps := t.setIfInBounds 12 (.func (.func 43) #[] (capsOf t)), defers := [⟨.fn (.func 43) (capsOf t), #[]⟩] } w) :
    (Code.region id #[{ dst := some 12, op := .makeFunc (.func 43) #[] #[.tmp 2, .tmp 3, .tmp 4], type := T1, pos := p1, after := g1, guard := none }, { dst := none, op := .defer { callee := .value (.tmp 12), args := #[], argTypes := #[] }, type := 0, pos := p2, after := g2, guard := none }] false).wp Tryz.prog Q { tmps := t, defers := [] } w := by
  refine wp_region_list ?_
  simp [wpList, go_sem, ht]
  exact .inl (.inl h)
def posJ : Nat → Nat | 0 => 0 | 1 => 1 | 2 => 2 | 3 => 3 | 4 => 4 | _ => 6
def tokJ : Nat → List Tok | 0 => [] | 1 => exT.take 1 | 2 => exT.take 2 | 3 => exT.take 3 | 4 => exT.take 3 | _ => exT
def spJ : Nat → Bool | 4 => true | _ => false
theorem ScanEx_c : SpecF Tryz.prog 23 [.string (bs exS)] ScanF ExR := by
  refine specF_of (spec_of_defer (g := 43) (d := 12) (cp := capsOf) hm Tryz.func23 (by kernel_rfl) rfl (fun t w Q ht h => hD_c _ _ _ _ _ _ t w Q ht h) (fun t w => by simp [go_sem, capsOf]) (fun t w => quiet_c _ _ _ w) rfl ?_)
  (conv => whnf)
  refine BoxN.own ?_
  (conv => whnf)
  refine BoxN.own ?_
  (conv => whnf)
  refine BoxN.own ?_
  ((conv => whnf); (repeat ((first | refine RwN.own ?_ | refine VrN.norm (wrap_i64 (by omega)) ?_ | refine VrN.keep ?_ | refine DrawN.calm (by decide +kernel) ?_ | refine Nd.mk (by decide +kernel) ?_ | refine Nd.mk (by omega) ?_ | (refine Nd.mk ?_ ?_; focus ((repeat' (first | exact trivial | exact wkE_refl _ | refine And.intro ?_ ?_)); done)) | refine RdN.intro _ rfl (by rfl) ?_); (conv => whnf))))
  refine BoxN.known [.string (bs exS), .int .i64 0, .int .i64 1, .slice none 0 0, .int .i64 0, .bool false] rfl fun xb => ?_
  (first | refine wX ?_ | exact wZ)
  refine ⟨rfl, ?_⟩
  (first | refine wX ?_ | exact wZ)
  refine LoopN.intro (Nat × Option Nat × Nat) (fun ⟨j, ob, cap⟩ => j ≤ 5 ∧ (ob = none → j = 0)) (fun ⟨_, _, _⟩ => mkS Tryz.f23.ntmps 0 [(2, .c (.lp 1 0)), (3, .c (.lp 2 0)), (4, .c (.lp 3 0)), (5, .c (.v (.pointer (some ⟨xb, 0, none⟩))))])
    (fun ⟨j, ob, cap⟩ => [.fact ScanF, .blk 30 (cellsV (.slice none 0 0)), .blk 3 (cellsV (.int .i64 0)), .blk 31 (cellsV (.int .i64 0)), scE xb exS (posJ j) 1 ob (tokJ j).length cap 0 (spJ j), toE (tokJ j) ob cap]) (fun ⟨j, _, _⟩ => 5 - j) [.app 0 0 [] none 0 0] rfl (fun _ => rfl) (fun _ => rfl) (fun _ _ => okHB_eq rfl) ⟨(0, none, 0), ⟨Nat.zero_le _, fun _ => rfl⟩, ?_, ⟨wkE_refl _, wkE_refl _, wkE_refl _, wkE_refl _, wkE_refl _, wkE_nil, wkH_nil _⟩⟩ ?_
  · (repeat' (first | exact trivial | refine And.intro (by with_reducible rfl) ?_ | (with_reducible exact wkC_refl _) | (with_reducible exact wkCs_refl _) | refine And.intro ?_ ?_))
    all_goals rfl
  rintro ⟨j, ob, cap⟩ ⟨hj, hob⟩
  have hall : j = 0 ∨ j = 1 ∨ j = 2 ∨ j = 3 ∨ j = 4 ∨ j = 5 := by omega
  rcases hall with rfl | rfl | rfl | rfl | rfl | rfl
  · (first | refine wX ?_ | exact wZ)
    refine LdN.one (a := some ⟨xb, 0, none⟩) (q := 1) (.int .i64 ((posJ 0 : Nat) : Int)) rfl (fun w hw => hw.2.1) rfl ?_
    (first | refine wX ?_ | exact wZ)
    refine LdN.one (a := some ⟨xb, 0, none⟩) (q := 0) (.string (bs exS)) rfl (fun w hw => hw.2.1) rfl ?_
    (first | refine wX ?_ | exact wZ)
    refine callG (next_letter xb exS 0 1 [] ob cap 0 false (c := 97) rfl (by decide) (by decide) (fun _ => rfl) (by decide)) [4, 5, 0] rfl ⟨rfl, rfl, rfl, trivial⟩ rfl fun ⟨b1, c1⟩ _ => ?_
    rw [show wordsK exS 0 [] = (1, 1) by decide +kernel, show wordW exS 0 = [97] by decide +kernel]
    (first | refine wX ?_ | exact wZ)
    refine ⟨(1, some b1, c1), ⟨by omega, fun h => by cases h⟩, Nat.le_of_ble_eq_true rfl, ?_, ⟨wkE_refl _, wkE_refl _, wkE_refl _, wkE_refl _, wkE_refl _, wkE_refl _, wkH_nil _⟩⟩
    (repeat' (first | exact trivial | refine And.intro (by with_reducible rfl) ?_ | (with_reducible exact wkC_refl _) | (with_reducible exact wkCs_refl _) | refine And.intro ?_ ?_))
    all_goals rfl
  · (first | refine wX ?_ | exact wZ)
    refine LdN.one (a := some ⟨xb, 0, none⟩) (q := 1) (.int .i64 ((posJ 1 : Nat) : Int)) rfl (fun w hw => hw.2.1) rfl ?_
    (first | refine wX ?_ | exact wZ)
    refine LdN.one (a := some ⟨xb, 0, none⟩) (q := 0) (.string (bs exS)) rfl (fun w hw => hw.2.1) rfl ?_
    (first | refine wX ?_ | exact wZ)
    refine callG (next_dot xb exS 1 1 (tokJ 1) ob cap 0 false rfl [46] (by decide +kernel) (by decide) (by decide) (fun h => absurd (hob h) (by decide)) (by decide) (by decide)) [4, 5, 0] rfl ⟨rfl, rfl, rfl, trivial⟩ rfl fun ⟨b1, c1⟩ _ => ?_
    (first | refine wX ?_ | exact wZ)
    refine ⟨(2, some b1, c1), ⟨by omega, fun h => by cases h⟩, Nat.le_of_ble_eq_true rfl, ?_, ⟨wkE_refl _, wkE_refl _, wkE_refl _, wkE_refl _, wkE_refl _, wkE_refl _, wkH_nil _⟩⟩
    (repeat' (first | exact trivial | refine And.intro (by with_reducible rfl) ?_ | (with_reducible exact wkC_refl _) | (with_reducible exact wkCs_refl _) | refine And.intro ?_ ?_))
    all_goals rfl
  · (first | refine wX ?_ | exact wZ)
    refine LdN.one (a := some ⟨xb, 0, none⟩) (q := 1) (.int .i64 ((posJ 2 : Nat) : Int)) rfl (fun w hw => hw.2.1) rfl ?_
    (first | refine wX ?_ | exact wZ)
    refine LdN.one (a := some ⟨xb, 0, none⟩) (q := 0) (.string (bs exS)) rfl (fun w hw => hw.2.1) rfl ?_
    (first | refine wX ?_ | exact wZ)
    refine callG (next_letter xb exS 2 1 (tokJ 2) ob cap 0 false (c := 98) rfl (by decide) (by decide) (fun h => absurd (hob h) (by decide)) (by decide)) [4, 5, 0] rfl ⟨rfl, rfl, rfl, trivial⟩ rfl fun ⟨b1, c1⟩ _ => ?_
    rw [show wordsK exS 2 (tokJ 2) = (1, 3) by decide +kernel, show wordW exS 2 = [98] by decide +kernel]
    (first | refine wX ?_ | exact wZ)
    refine ⟨(3, some b1, c1), ⟨by omega, fun h => by cases h⟩, Nat.le_of_ble_eq_true rfl, ?_, ⟨wkE_refl _, wkE_refl _, wkE_refl _, wkE_refl _, wkE_refl _, wkE_refl _, wkH_nil _⟩⟩
    (repeat' (first | exact trivial | refine And.intro (by with_reducible rfl) ?_ | (with_reducible exact wkC_refl _) | (with_reducible exact wkCs_refl _) | refine And.intro ?_ ?_))
    all_goals rfl
  · (first | refine wX ?_ | exact wZ)
    refine LdN.one (a := some ⟨xb, 0, none⟩) (q := 1) (.int .i64 ((posJ 3 : Nat) : Int)) rfl (fun w hw => hw.2.1) rfl ?_
    (first | refine wX ?_ | exact wZ)
    refine LdN.one (a := some ⟨xb, 0, none⟩) (q := 0) (.string (bs exS)) rfl (fun w hw => hw.2.1) rfl ?_
    (first | refine wX ?_ | exact wZ)
    refine callG (next_blank xb exS 3 1 ob 3 cap 0 false (c := 32) rfl (by decide) (by decide)) [4] rfl ⟨rfl, trivial⟩ rfl fun _ _ => ?_
    (first | refine wX ?_ | exact wZ)
    refine ⟨(4, ob, cap), ⟨by omega, fun h => absurd (hob h) (by decide)⟩, Nat.le_of_ble_eq_true rfl, ?_, ⟨wkE_refl _, wkE_refl _, wkE_refl _, wkE_refl _, wkE_refl _, wkE_refl _, wkH_nil _⟩⟩
    (repeat' (first | exact trivial | refine And.intro (by with_reducible rfl) ?_ | (with_reducible exact wkC_refl _) | (with_reducible exact wkCs_refl _) | refine And.intro ?_ ?_))
    all_goals rfl
  · (first | refine wX ?_ | exact wZ)
    refine LdN.one (a := some ⟨xb, 0, none⟩) (q := 1) (.int .i64 ((posJ 4 : Nat) : Int)) rfl (fun w hw => hw.2.1) rfl ?_
    (first | refine wX ?_ | exact wZ)
    refine LdN.one (a := some ⟨xb, 0, none⟩) (q := 0) (.string (bs exS)) rfl (fun w hw => hw.2.1) rfl ?_
    (first | refine wX ?_ | exact wZ)
    refine callG (next_letter xb exS 4 1 (tokJ 4) ob cap 0 true (c := 99) rfl (by decide) (by decide) (fun h => absurd (hob h) (by decide)) (by decide)) [4, 5, 0] rfl ⟨rfl, rfl, rfl, trivial⟩ rfl fun ⟨b1, c1⟩ _ => ?_
    rw [show wordsK exS 4 (tokJ 4) = (1, 6) by decide +kernel, show wordW exS 4 = [99, 63] by decide +kernel]
    (first | refine wX ?_ | exact wZ)
    refine ⟨(5, some b1, c1), ⟨by omega, fun h => by cases h⟩, Nat.le_of_ble_eq_true rfl, ?_, ⟨wkE_refl _, wkE_refl _, wkE_refl _, wkE_refl _, wkE_refl _, wkE_refl _, wkH_nil _⟩⟩
    (repeat' (first | exact trivial | refine And.intro (by with_reducible rfl) ?_ | (with_reducible exact wkC_refl _) | (with_reducible exact wkCs_refl _) | refine And.intro ?_ ?_))
    all_goals rfl
  · obtain ⟨g, rfl⟩ : ∃ g, ob = some g := by
      cases ob with
      | none => exact absurd (hob rfl) (by decide)
      | some g => exact ⟨g, rfl⟩
    (first | refine wX ?_ | exact wZ)
    refine LdN.one (a := some ⟨xb, 0, none⟩) (q := 1) (.int .i64 ((posJ 5 : Nat) : Int)) rfl (fun w hw => hw.2.1) rfl ?_
    (first | refine wX ?_ | exact wZ)
    refine LdN.one (a := some ⟨xb, 0, none⟩) (q := 0) (.string (bs exS)) rfl (fun w hw => hw.2.1) rfl ?_
    (first | refine wX ?_ | exact wZ)
    refine loopS Unit (fun _ => True) (fun _ => mkS Tryz.f23.ntmps 0 [(2, .c (.lp 1 0)), (3, .c (.lp 2 0)), (4, .c (.lp 3 0)), (5, .c (.v (.pointer (some ⟨xb, 0, none⟩))))]) (fun _ => 0) rfl (fun _ => rfl) () trivial ?_ ?_
    · (repeat' (first | exact trivial | refine And.intro (by with_reducible rfl) ?_ | (with_reducible exact wkC_refl _) | (with_reducible exact wkCs_refl _) | refine And.intro ?_ ?_))
      all_goals rfl
    intro _ _
    (first | refine wX ?_ | exact wZ)
    refine LdN.one (a := some ⟨xb, 0, none⟩) (q := 3) (.slice (some ⟨g, 0, none⟩) 4 cap) rfl (fun w hw => hw.2.1) rfl ?_
    (first | refine wX ?_ | exact wZ)
    (first | refine wX ?_ | exact wZ)
    refine LdN.one (a := some ⟨xb, 0, none⟩) (q := 3) (.slice (some ⟨g, 0, none⟩) 4 cap) rfl (fun w hw => hw.2.1) rfl ?_
    (first | refine wX ?_ | exact wZ)
    (first | refine wX ?_ | exact wZ)
    refine LdN.one (a := some ⟨xb, 0, none⟩) (q := 3) (.slice (some ⟨g, 0, none⟩) 4 cap) rfl (fun w hw => hw.2.1) rfl ?_
    (first | refine wX ?_ | exact wZ)
    rw [show IntKind.i64.wrap (((4 : Nat) : Int) - 1) = ((3 : Nat) : Int) by decide]
    refine Nd.mk ⟨rfl, by decide, by decide⟩ ?_
    (first | refine wX ?_ | exact wZ)
    refine LdN.fld (.int .i64 1) rfl (fun w hw => hw.2.2.1) (by rfl) ?_
    (first | refine wX ?_ | exact wZ)
    (first | refine wX ?_ | exact wZ)
    refine LdN.one (a := some ⟨xb, 0, none⟩) (q := 3) (.slice (some ⟨g, 0, none⟩) 4 cap) rfl (fun w hw => hw.2.1) rfl ?_
    (first | refine wX ?_ | exact wZ)
    refine fin_p (fun w => SlAt (some ⟨g, 0, none⟩) 20 (toksC exT) w) ⟨g, cap, rfl, fun w hw => hw⟩ (fun w hw => hw.2.2.1)
end Go.Proofs.YteejemdibfbccaaGreatDoor

/-
  Contracts: the chapter's example (law); lists that have a text; Starts (program, document).
-/
namespace Go.Proofs.YteejemdibfbccaaGreatDoor
open Go.AX Go.RowKit Go.Scan
set_option maxRecDepth 20000

theorem sane_c : ∀ H, (∀ w, Facts H w → ScanF w) → SpecH Tryz.prog 7 (pvs []) H (Ret (.bool true) H) := by
  refine factC hm Tryz.func7 (by kernel_rfl) rfl rfl ?_
  (first | refine wX ?_ | exact wZ)
  refine SpecF.call ScanEx_c (fun w hw => hw.1) fun v G hR => ?_
  obtain ⟨b, cap, rfl, hG⟩ := hR
  (first | refine wX ?_ | exact wZ)
  refine Nd.mk ⟨rfl, by decide, by decide⟩ ?_
  (first | refine wX ?_ | exact wZ)
  refine LdN.fld (.string (bs [99, 63])) rfl (fun w hw => hG w hw.2.1) (by rfl) ?_
  (first | refine wX ?_ | exact wZ)
  refine Nd.mk ⟨rfl, by decide, by decide⟩ ?_
  (first | refine wX ?_ | exact wZ)
  refine LdN.fld (.bool true) rfl (fun w hw => hG w hw.2.1) (by rfl) ?_
  (first | refine wX ?_ | exact wZ)
end Go.Proofs.YteejemdibfbccaaGreatDoor

/-
  What the rows list, and what it gives; a token as it is read (argument).
-/
namespace Go.Proofs.YteejemdibfbccaaGreatDoor
open Go.ChangeShapes Go.WideShapes Go.ChangeAt Go.RowKit Go.AX
set_option maxRecDepth 100000

/-- What the rows list. -/
def laid3 : List (String × DataW Unit) := [("unicode/utf8.acceptRanges", Rows.laid_unicode_utf8_acceptRanges), ("unicode.White_Space", Rows.laid_unicode_White_Space), ("strings.asciiSpace", Rows.laid_strings_asciiSpace), ("unicode/utf8.first", Rows.laid_unicode_utf8_first)]
theorem door_met (os : Os) (args : Array Value) : laidMetH Tryz.prog laid3 ((World.laidAll Tryz.prog os laid3).forCall (fun _ _ => 0) ⟨#[], args, []⟩).memory := by
  rw [MakeChecks.laidMetH_plain _ _ _ (by kernel_rfl)]; exact laidMet_laidAll _ (by kernel_rfl) (by kernel_rfl)
theorem space_of {W : World} (h : laidMetH Tryz.prog laid3 W) : Lib.TabIs Tryz.prog W "strings.asciiSpace" .u8 Lib.asciiSpaceTab := by
  rw [MakeChecks.laidMetH_plain _ _ _ (by kernel_rfl)] at h
  exact Lib.tabIs_of_head (g := 0) (t := 67) (e := 5) (n := 256) (by kernel_rfl) (by kernel_rfl) (by kernel_rfl) (by kernel_rfl) (by kernel_rfl) (by kernel_rfl) (laid_tail (laid_tail h))
theorem scan_of {W : World} (h : W.ShapedOpen Tryz.prog) (hL : laidMetH Tryz.prog laid3 W) : ScanF W := ⟨max_of h, space_of hL⟩
theorem scan_imm {W : World} (h : ScanF W) : Imm (fun b => b < W.heap.size) W ScanF := (max_imm h.1).and (tab_imm h.2)
theorem known_scan {W : World} (h : W.ShapedOpen Tryz.prog) (hL : laidMetH Tryz.prog laid3 W) : ∀ e ∈ [Ent.fact ScanF], ∃ F, e = .fact F ∧ Imm (fun b => b < W.heap.size) W F := fun _ he => ⟨_, List.mem_singleton.1 he, scan_imm (scan_of h hL)⟩
end Go.Proofs.YteejemdibfbccaaGreatDoor

/-
  Contract: Quote of the document.
-/
namespace Go.Proofs.YteejemdibfbccaaGreatDoor
open Go.AX Go.RowKit Go.Scan
set_option maxRecDepth 20000

theorem flat_le {f : UInt8 → List UInt8} {m : Nat} (h : ∀ c, (f c).length ≤ m) (s : List UInt8) : (s.flatMap f).length ≤ m * s.length := by
  induction s with
  | nil => simp
  | cons c r ih =>
    have := h c
    rw [List.flatMap_cons, List.length_append, List.length_cons, Nat.mul_add, Nat.mul_one]
    omega
/-- A byte as the language writes it. -/
def qt (c : UInt8) : List UInt8 := if c == 92 then [92, 92] else if c == 34 then [92, 34] else if c == 35 then [92, 35] else if c == 10 then [92, 110] else if c == 0 then [92, 48] else [c]
theorem qt_2 (c : UInt8) : (qt c).length ≤ 2 := by
  unfold qt
  repeat' split
  all_goals first | decide | exact Nat.le_of_ble_eq_true rfl
set_option maxHeartbeats 1000000 in
theorem RQuote_c (s : List UInt8) (hs : s.length ≤ 100000) : ∀ H, SpecH Tryz.prog 24 (pvs [.string (bs s)]) H (Ret (.string (bs (s.flatMap qt))) H) := by
  refine pureC hm Tryz.func24 (by kernel_rfl) rfl rfl ?_
  have hz := bs_size s
  (first | refine wX ?_ | exact wZ)
  refine loopS Nat (fun i => i ≤ s.length) (fun i => mkS Tryz.f24.ntmps 0 [(0, .c (.v (.string (bs s)))), (3, .c (.v (.string (bs ((s.take i).flatMap qt))))), (4, .c (.v (.int .i64 (i : Int))))]) (fun i => s.length - i) rfl (fun _ => rfl) 0 (Nat.zero_le _) ?_ fun i hi => ?_
  · (repeat' (first | exact trivial | refine And.intro (by with_reducible rfl) ?_ | (with_reducible exact wkC_refl _) | (with_reducible exact wkCs_refl _) | refine And.intro ?_ ?_))
    all_goals rfl
  (first | refine wX ?_ | exact wZ)
  rw [hz]
  refine brd_dec (fun h1 => ?_) (fun h1 => ?_)
  · obtain ⟨c, hc⟩ : ∃ c, s[i]? = some c := ⟨_, List.getElem?_eq_getElem (by omega)⟩
    have hnext : (s.take (i + 1)).flatMap qt = (s.take i).flatMap qt ++ qt c := by rw [take_snoc hc, List.flatMap_append]; simp
    have hle := flat_le qt_2 (s.take i)
    have hsl : (s.take (i + 1)).drop i = [c] := by rw [take_snoc hc, List.drop_left' (by simp; omega)]
    rw [List.length_take] at hle
    generalize (s.take i).flatMap qt = P at *
    (first | refine wX ?_ | exact wZ)
    rw [Int.toNat_natCast, byteAt_get hc]
    by_cases h92 : c = 92
    · subst h92
      have hq : qt 92 = [92, 92] := rfl
      (first | refine wX ?_ | exact wZ)
      refine ReadW.sl_lh i (i + 1) rfl Tryz.underlying9 rfl rfl rfl ⟨rfl, by rw [wrap_i64 (by omega)]; rfl, by omega, by omega⟩ ?_
      rw [hsl]
      (first | refine wX ?_ | exact wZ)
      rw [show (⟨#[92]⟩ : ByteArray) = bs [92] from rfl, bs_app]
      refine Nd.mk (by first | (rw [bs_size, bs_size]; show _ < _; simp; omega) | (rw [bs_size]; show _ < _; simp; omega)) ?_
      rw [bs_app]
      (first | refine wX ?_ | exact wZ)
      refine ⟨i + 1, by omega, by omega, ?_, by (repeat' (first | exact trivial | exact wkE_refl _ | refine And.intro ?_ ?_))⟩
      (repeat' (first | exact trivial | refine And.intro (by with_reducible rfl) ?_ | (with_reducible exact wkC_refl _) | (with_reducible exact wkCs_refl _) | refine And.intro ?_ ?_))
      · rw [hnext]; first | rfl | (rw [hq])
      · exact av_int (by omega)
    by_cases h34 : c = 34
    · subst h34
      have hq : qt 34 = [92, 34] := rfl
      (first | refine wX ?_ | exact wZ)
      refine ReadW.sl_lh i (i + 1) rfl Tryz.underlying9 rfl rfl rfl ⟨rfl, by rw [wrap_i64 (by omega)]; rfl, by omega, by omega⟩ ?_
      rw [hsl]
      (first | refine wX ?_ | exact wZ)
      rw [show (⟨#[92]⟩ : ByteArray) = bs [92] from rfl, bs_app]
      refine Nd.mk (by first | (rw [bs_size, bs_size]; show _ < _; simp; omega) | (rw [bs_size]; show _ < _; simp; omega)) ?_
      rw [bs_app]
      (first | refine wX ?_ | exact wZ)
      refine ⟨i + 1, by omega, by omega, ?_, by (repeat' (first | exact trivial | exact wkE_refl _ | refine And.intro ?_ ?_))⟩
      (repeat' (first | exact trivial | refine And.intro (by with_reducible rfl) ?_ | (with_reducible exact wkC_refl _) | (with_reducible exact wkCs_refl _) | refine And.intro ?_ ?_))
      · rw [hnext]; first | rfl | (rw [hq])
      · exact av_int (by omega)
    by_cases h35 : c = 35
    · subst h35
      have hq : qt 35 = [92, 35] := rfl
      (first | refine wX ?_ | exact wZ)
      refine ReadW.sl_lh i (i + 1) rfl Tryz.underlying9 rfl rfl rfl ⟨rfl, by rw [wrap_i64 (by omega)]; rfl, by omega, by omega⟩ ?_
      rw [hsl]
      (first | refine wX ?_ | exact wZ)
      rw [show (⟨#[92]⟩ : ByteArray) = bs [92] from rfl, bs_app]
      refine Nd.mk (by first | (rw [bs_size, bs_size]; show _ < _; simp; omega) | (rw [bs_size]; show _ < _; simp; omega)) ?_
      rw [bs_app]
      (first | refine wX ?_ | exact wZ)
      refine ⟨i + 1, by omega, by omega, ?_, by (repeat' (first | exact trivial | exact wkE_refl _ | refine And.intro ?_ ?_))⟩
      (repeat' (first | exact trivial | refine And.intro (by with_reducible rfl) ?_ | (with_reducible exact wkC_refl _) | (with_reducible exact wkCs_refl _) | refine And.intro ?_ ?_))
      · rw [hnext]; first | rfl | (rw [hq])
      · exact av_int (by omega)
    by_cases h10 : c = 10
    · subst h10
      have hq : qt 10 = [92, 110] := rfl
      (first | refine wX ?_ | exact wZ)
      rw [show (⟨#[92, 110]⟩ : ByteArray) = bs [92, 110] from rfl]
      refine Nd.mk (by first | (rw [bs_size, bs_size]; show _ < _; simp; omega) | (rw [bs_size]; show _ < _; simp; omega)) ?_
      rw [bs_app]
      (first | refine wX ?_ | exact wZ)
      refine ⟨i + 1, by omega, by omega, ?_, by (repeat' (first | exact trivial | exact wkE_refl _ | refine And.intro ?_ ?_))⟩
      (repeat' (first | exact trivial | refine And.intro (by with_reducible rfl) ?_ | (with_reducible exact wkC_refl _) | (with_reducible exact wkCs_refl _) | refine And.intro ?_ ?_))
      · rw [hnext]; first | rfl | (rw [hq])
      · exact av_int (by omega)
    by_cases h0 : c = 0
    · subst h0
      have hq : qt 0 = [92, 48] := rfl
      (first | refine wX ?_ | exact wZ)
      rw [show (⟨#[92, 48]⟩ : ByteArray) = bs [92, 48] from rfl]
      refine Nd.mk (by first | (rw [bs_size, bs_size]; show _ < _; simp; omega) | (rw [bs_size]; show _ < _; simp; omega)) ?_
      rw [bs_app]
      (first | refine wX ?_ | exact wZ)
      refine ⟨i + 1, by omega, by omega, ?_, by (repeat' (first | exact trivial | exact wkE_refl _ | refine And.intro ?_ ?_))⟩
      (repeat' (first | exact trivial | refine And.intro (by with_reducible rfl) ?_ | (with_reducible exact wkC_refl _) | (with_reducible exact wkCs_refl _) | refine And.intro ?_ ?_))
      · rw [hnext]; first | rfl | (rw [hq])
      · exact av_int (by omega)
    have e92 : ((c.toNat : Int) == 92) = false := (u8_eq (n := 92) (by decide)).trans (by simpa using h92)
    have e34 : ((c.toNat : Int) == 34) = false := (u8_eq (n := 34) (by decide)).trans (by simpa using h34)
    have e35 : ((c.toNat : Int) == 35) = false := (u8_eq (n := 35) (by decide)).trans (by simpa using h35)
    have e10 : ((c.toNat : Int) == 10) = false := (u8_eq (n := 10) (by decide)).trans (by simpa using h10)
    have e0 : ((c.toNat : Int) == 0) = false := (u8_eq (n := 0) (by decide)).trans (by simpa using h0)
    have hq : qt c = [c] := by unfold qt; simp [h92, h34, h35, h10, h0]
    (first | refine wX ?_ | exact wZ)
    rw [e92]
    (first | refine wX ?_ | exact wZ)
    rw [e34]
    (first | refine wX ?_ | exact wZ)
    rw [e35]
    (first | refine wX ?_ | exact wZ)
    rw [e10]
    (first | refine wX ?_ | exact wZ)
    rw [e0]
    (first | refine wX ?_ | exact wZ)
    refine ReadW.sl_lh i (i + 1) rfl Tryz.underlying9 rfl rfl rfl ⟨rfl, by rw [wrap_i64 (by omega)]; rfl, by omega, by omega⟩ ?_
    rw [hsl]
    (first | refine wX ?_ | exact wZ)
    refine Nd.mk (by first | (rw [bs_size, bs_size]; show _ < _; simp; omega) | (rw [bs_size]; show _ < _; simp; omega)) ?_
    rw [bs_app]
    (first | refine wX ?_ | exact wZ)
    refine ⟨i + 1, by omega, by omega, ?_, by (repeat' (first | exact trivial | exact wkE_refl _ | refine And.intro ?_ ?_))⟩
    (repeat' (first | exact trivial | refine And.intro (by with_reducible rfl) ?_ | (with_reducible exact wkC_refl _) | (with_reducible exact wkCs_refl _) | refine And.intro ?_ ?_))
    · rw [hnext]; first | rfl | (rw [hq])
    · exact av_int (by omega)
  · have hil : i = s.length := by omega
    subst hil
    rw [List.take_length]
    (first | refine wX ?_ | exact wZ)
end Go.Proofs.YteejemdibfbccaaGreatDoor

/-
  Contract: fail panics (program).
-/
namespace Go.Proofs.YteejemdibfbccaaGreatDoor
open Go.AX Go.RowKit Go.Scan
set_option maxRecDepth 20000

end Go.Proofs.YteejemdibfbccaaGreatDoor

/-
  Contract: Scan of a text that is one token (program).
-/
namespace Go.Proofs.YteejemdibfbccaaGreatDoor
open Go.AX Go.RowKit Go.Scan
set_option maxRecDepth 20000

def posN (s : List UInt8) : Nat → Nat | 0 => 0 | _ => s.length
def tokN (T : Tok) : Nat → List Tok | 0 => [] | _ => [T]
end Go.Proofs.YteejemdibfbccaaGreatDoor

/-
  Contracts: the parts of a string: flush, done; piece at a byte, at an escape (program).
-/
namespace Go.Scan
/-- A part of a string. -/
structure Part where
  code : Bool
  text : List UInt8
/-- What an escape stands for. -/
def escB (e : UInt8) : Option UInt8 := if e == 110 then some 10 else if e == 116 then some 9 else if e == 48 then some 0 else if e == 92 then some 92 else if e == 34 then some 34 else if e == 35 then some 35 else none
/-- What was gathered, with the text behind it. -/
def flushS (l : List Part) (t : List UInt8) : List Part := if t = [] then l else l ++ [⟨false, t⟩]
/-- The parts of a string that is over. -/
def doneS (l : List Part) (t : List UInt8) : List Part := if flushS l t = [] then [⟨false, []⟩] else flushS l t
end Go.Scan
namespace Go.Proofs.YteejemdibfbccaaGreatDoor
open Go.AX Go.RowKit Go.Scan
set_option maxRecDepth 20000

def partC (q : Part) : List Value := [.bool q.code, .string (bs q.text)]
def partsC (l : List Part) : List Value := l.flatMap partC
theorem partsC_snoc (l : List Part) (t : Part) : partsC l ++ partC t = partsC (l ++ [t]) := by simp [partsC]
def paE (pb : Nat) (lb : Option Nat) (ln lc : Nat) (tb : Option Nat) (tn tc : Nat) : Ent := .app 110 2 [.slice (at0 lb) ln lc, .slice (at0 tb) tn tc] (some ⟨pb, 0, none⟩) 1 1
def plE (l : List Part) (lb : Option Nat) (lc : Nat) : Ent := .app 38 2 (partsC l) (at0 lb) l.length lc
def txE (t : List UInt8) (tb : Option Nat) (tc : Nat) : Ent := .app 5 1 (u8s t) (at0 tb) t.length tc
def lnS (c : UInt8) (line : Nat) : Nat := if c = 10 then line + 1 else line
theorem u8s_snoc (l : List UInt8) (c : UInt8) : u8s l ++ [.int .u8 (c.toNat : Int)] = u8s (l ++ [c]) := by simp [u8s]
set_option maxHeartbeats 1000000 in
theorem piece_chr (xb : Nat) (s : List UInt8) (p line : Nat) (ob : Option Nat) (n cap here : Nat) (sp : Bool) (pb : Nat) (lb : Option Nat) (ln lc : Nat) (tx : List UInt8) (tb : Option Nat) (tc : Nat) (l0 : Int) (one : Bool) (c : UInt8) (hc : s[p]? = some c) (h92 : ¬ c = 92) (h35 : ¬ (c = 35 ∧ pk s (p + 1) = 123)) (hs : s.length ≤ 1000000) (hl : line ≤ 1000000) (ht : tx.length ≤ 1000000) :
    SpecH Tryz.prog 90 [.c (.v (.pointer (some ⟨xb, 0, none⟩))), .c (.v (.pointer (some ⟨pb, 0, none⟩))), .c (.v (.int .i64 l0)), .c (.v (.bool one))] [scE xb s p line ob n cap here sp, paE pb lb ln lc tb tx.length tc, txE tx tb tc]
      (RetG (ι := Nat × Nat) (fun _ => True) (fun _ => .tuple #[]) fun ⟨b, k⟩ => [scE xb s (p + 1) (lnS c line) ob n cap here sp, paE pb lb ln lc (some b) (tx.length + 1) k, txE (tx ++ [c]) (some b) k]) := by
  refine ownC hm Tryz.func90 (by kernel_rfl) rfl rfl (fun _ _ => okHB_eq rfl) (fun _ _ => Nat.le_refl _) ?_
  have hz := bs_size s
  have hp : p < s.length := (List.getElem?_eq_some_iff.1 hc).1
  have e92 : ((c.toNat : Int) == 92) = false := (u8_eq (n := 92) (by decide)).trans (by simpa using h92)
  (first | refine wX ?_ | exact wZ)
  refine LdN.one (a := some ⟨xb, 0, none⟩) (q := 0) (.string (bs s)) rfl (fun w hw => hw.1) rfl ?_
  (first | refine wX ?_ | exact wZ)
  refine LdN.one (a := some ⟨xb, 0, none⟩) (q := 1) (.int .i64 ((p : Nat) : Int)) rfl (fun w hw => hw.1) rfl ?_
  (first | refine wX ?_ | exact wZ)
  rw [Int.toNat_natCast, byteAt_get hc]
  (first | refine wX ?_ | exact wZ)
  rw [e92]
  by_cases h3 : c = 35
  · subst h3
    have hp1 : ¬ pk s (p + 1) = 123 := fun h => h35 ⟨rfl, h⟩
    have e123 : (((pk s (p + 1)).toNat : Int) == 123) = false := (u8_eq (n := 123) (by decide)).trans (by simpa using hp1)
    (first | refine wX ?_ | exact wZ)
    refine call1 (peek_c xb s p line ob n cap here sp 1 (by omega) (by decide) _ (fun w hw => hw.1)) ?_
    (first | refine wX ?_ | exact wZ)
    rw [e123]
    -- 35: the byte as a number, 35: the byte, line: the line
    (first | refine wX ?_ | exact wZ)
    refine LdN.one (a := some ⟨pb, 0, none⟩) (q := 1) (.slice (at0 tb) tx.length tc) rfl (fun w hw => hw.2.1) rfl ?_
    (first | refine wX ?_ | exact wZ)
    -- 35: the byte
    try refine Nd.mk ⟨Nat.le_refl 1, rfl, rfl⟩ ?_
    (conv => whnf)
    refine AppN.grow 2 (u8s tx) [.int .u8 (35 : Int)] rfl rfl ⟨Nat.le_refl 1, ⟨by show (tx.length + 1) * 1 ≤ _; omega, by omega⟩, Nat.one_ne_zero⟩ fun b1 c1 h11 h12 => ?_
    (first | refine wX ?_ | exact wZ)
    refine EffW.appTo (i := 1) (q := 1) (ys := [_]) [.slice (at0 lb) ln lc, .slice (at0 (some b1)) (tx.length + 1) c1] 2 rfl rfl rfl rfl rfl rfl rfl (Nat.le_of_ble_eq_true rfl) rfl rfl ?_
    (first | refine wX ?_ | exact wZ)
    refine LdN.one (a := some ⟨xb, 0, none⟩) (q := 1) (.int .i64 ((p : Nat) : Int)) rfl (fun w hw => hw.1) rfl ?_
    (first | refine wX ?_ | exact wZ)
    -- p + 1: the next place, line: the line
    refine EffW.appTo (i := 0) (q := 1) (ys := [_]) (scC s (p + 1) (line) ob n cap here sp) 6 rfl rfl rfl rfl rfl rfl rfl (Nat.le_of_ble_eq_true rfl) (by
      first | rfl | (show [_, Value.int .i64 _, _, _, _, _] = [_, Value.int .i64 _, _, _, _, _]; rw [wrap_i64 (by omega)]; rfl) | (show [_, _, Value.int .i64 _, _, _, _] = [_, _, Value.int .i64 _, _, _, _]; rw [wrap_i64 (by omega)]; rfl)) rfl ?_
    (first | refine wX ?_ | exact wZ)
    exact ⟨(b1, c1), trivial, rfl, wkE_refl _, wkE_refl _, .inl ⟨rfl, rfl, u8s_snoc tx 35, rfl, by simp, rfl⟩, wkH_nil _⟩
  have e35 : ((c.toNat : Int) == 35) = false := (u8_eq (n := 35) (by decide)).trans (by simpa using h3)
  by_cases h10 : c = 10
  · subst h10
    (first | refine wX ?_ | exact wZ)
    refine LdN.one (a := some ⟨xb, 0, none⟩) (q := 2) (.int .i64 ((line : Nat) : Int)) rfl (fun w hw => hw.1) rfl ?_
    (first | refine wX ?_ | exact wZ)
    -- p: the next place, line + 1: the line
    refine EffW.appTo (i := 0) (q := 2) (ys := [_]) (scC s (p) (line + 1) ob n cap here sp) 6 rfl rfl rfl rfl rfl rfl rfl (Nat.le_of_ble_eq_true rfl) (by
      first | rfl | (show [_, Value.int .i64 _, _, _, _, _] = [_, Value.int .i64 _, _, _, _, _]; rw [wrap_i64 (by omega)]; rfl) | (show [_, _, Value.int .i64 _, _, _, _] = [_, _, Value.int .i64 _, _, _, _]; rw [wrap_i64 (by omega)]; rfl)) rfl ?_
    -- 10: the byte as a number, 10: the byte, line + 1: the line
    (first | refine wX ?_ | exact wZ)
    refine LdN.one (a := some ⟨pb, 0, none⟩) (q := 1) (.slice (at0 tb) tx.length tc) rfl (fun w hw => hw.2.1) rfl ?_
    (first | refine wX ?_ | exact wZ)
    -- 10: the byte
    try refine Nd.mk ⟨Nat.le_refl 1, rfl, rfl⟩ ?_
    (conv => whnf)
    refine AppN.grow 2 (u8s tx) [.int .u8 (10 : Int)] rfl rfl ⟨Nat.le_refl 1, ⟨by show (tx.length + 1) * 1 ≤ _; omega, by omega⟩, Nat.one_ne_zero⟩ fun b1 c1 h11 h12 => ?_
    (first | refine wX ?_ | exact wZ)
    refine EffW.appTo (i := 1) (q := 1) (ys := [_]) [.slice (at0 lb) ln lc, .slice (at0 (some b1)) (tx.length + 1) c1] 2 rfl rfl rfl rfl rfl rfl rfl (Nat.le_of_ble_eq_true rfl) rfl rfl ?_
    (first | refine wX ?_ | exact wZ)
    refine LdN.one (a := some ⟨xb, 0, none⟩) (q := 1) (.int .i64 ((p : Nat) : Int)) rfl (fun w hw => hw.1) rfl ?_
    (first | refine wX ?_ | exact wZ)
    -- p + 1: the next place, line + 1: the line
    refine EffW.appTo (i := 0) (q := 1) (ys := [_]) (scC s (p + 1) (line + 1) ob n cap here sp) 6 rfl rfl rfl rfl rfl rfl rfl (Nat.le_of_ble_eq_true rfl) (by
      first | rfl | (show [_, Value.int .i64 _, _, _, _, _] = [_, Value.int .i64 _, _, _, _, _]; rw [wrap_i64 (by omega)]; rfl) | (show [_, _, Value.int .i64 _, _, _, _] = [_, _, Value.int .i64 _, _, _, _]; rw [wrap_i64 (by omega)]; rfl)) rfl ?_
    (first | refine wX ?_ | exact wZ)
    exact ⟨(b1, c1), trivial, rfl, wkE_refl _, wkE_refl _, .inl ⟨rfl, rfl, u8s_snoc tx 10, rfl, by simp, rfl⟩, wkH_nil _⟩
  have e10 : ((c.toNat : Int) == 10) = false := (u8_eq (n := 10) (by decide)).trans (by simpa using h10)
  have hln : lnS c line = line := if_neg h10
  (first | refine wX ?_ | exact wZ)
  rw [e35]
  (first | refine wX ?_ | exact wZ)
  rw [e10]
  rw [hln]
  -- c.toNat: the byte as a number, c: the byte, line: the line
  (first | refine wX ?_ | exact wZ)
  refine LdN.one (a := some ⟨pb, 0, none⟩) (q := 1) (.slice (at0 tb) tx.length tc) rfl (fun w hw => hw.2.1) rfl ?_
  (first | refine wX ?_ | exact wZ)
  -- c.toNat: the byte
  try refine Nd.mk ⟨Nat.le_refl 1, rfl, rfl⟩ ?_
  (conv => whnf)
  refine AppN.grow 2 (u8s tx) [.int .u8 (c.toNat : Int)] rfl rfl ⟨Nat.le_refl 1, ⟨by show (tx.length + 1) * 1 ≤ _; omega, by omega⟩, Nat.one_ne_zero⟩ fun b1 c1 h11 h12 => ?_
  (first | refine wX ?_ | exact wZ)
  refine EffW.appTo (i := 1) (q := 1) (ys := [_]) [.slice (at0 lb) ln lc, .slice (at0 (some b1)) (tx.length + 1) c1] 2 rfl rfl rfl rfl rfl rfl rfl (Nat.le_of_ble_eq_true rfl) rfl rfl ?_
  (first | refine wX ?_ | exact wZ)
  refine LdN.one (a := some ⟨xb, 0, none⟩) (q := 1) (.int .i64 ((p : Nat) : Int)) rfl (fun w hw => hw.1) rfl ?_
  (first | refine wX ?_ | exact wZ)
  -- p + 1: the next place, line: the line
  refine EffW.appTo (i := 0) (q := 1) (ys := [_]) (scC s (p + 1) (line) ob n cap here sp) 6 rfl rfl rfl rfl rfl rfl rfl (Nat.le_of_ble_eq_true rfl) (by
    first | rfl | (show [_, Value.int .i64 _, _, _, _, _] = [_, Value.int .i64 _, _, _, _, _]; rw [wrap_i64 (by omega)]; rfl) | (show [_, _, Value.int .i64 _, _, _, _] = [_, _, Value.int .i64 _, _, _, _]; rw [wrap_i64 (by omega)]; rfl)) rfl ?_
  (first | refine wX ?_ | exact wZ)
  exact ⟨(b1, c1), trivial, rfl, wkE_refl _, wkE_refl _, .inl ⟨rfl, rfl, u8s_snoc tx c, rfl, by simp, rfl⟩, wkH_nil _⟩
set_option maxHeartbeats 1000000 in
theorem piece_esc (xb : Nat) (s : List UInt8) (p line : Nat) (ob : Option Nat) (n cap here : Nat) (sp : Bool) (pb : Nat) (lb : Option Nat) (ln lc : Nat) (tx : List UInt8) (tb : Option Nat) (tc : Nat) (l0 : Int) (one : Bool) (c : UInt8) (hc : s[p]? = some 92) (hv : escB (pk s (p + 1)) = some c) (hp1 : p + 1 < s.length) (hs : s.length ≤ 1000000) (ht : tx.length ≤ 1000000) :
    SpecH Tryz.prog 90 [.c (.v (.pointer (some ⟨xb, 0, none⟩))), .c (.v (.pointer (some ⟨pb, 0, none⟩))), .c (.v (.int .i64 l0)), .c (.v (.bool one))] [scE xb s p line ob n cap here sp, paE pb lb ln lc tb tx.length tc, txE tx tb tc]
      (RetG (ι := Nat × Nat) (fun _ => True) (fun _ => .tuple #[]) fun ⟨b, k⟩ => [scE xb s (p + 2) line ob n cap here sp, paE pb lb ln lc (some b) (tx.length + 1) k, txE (tx ++ [c]) (some b) k]) := by
  refine ownC hm Tryz.func90 (by kernel_rfl) rfl rfl (fun _ _ => okHB_eq rfl) (fun _ _ => Nat.le_refl _) ?_
  have hz := bs_size s
  (first | refine wX ?_ | exact wZ)
  refine LdN.one (a := some ⟨xb, 0, none⟩) (q := 0) (.string (bs s)) rfl (fun w hw => hw.1) rfl ?_
  (first | refine wX ?_ | exact wZ)
  refine LdN.one (a := some ⟨xb, 0, none⟩) (q := 1) (.int .i64 ((p : Nat) : Int)) rfl (fun w hw => hw.1) rfl ?_
  (first | refine wX ?_ | exact wZ)
  rw [Int.toNat_natCast, byteAt_get hc]
  (first | refine wX ?_ | exact wZ)
  refine call1 (peek_c xb s p line ob n cap here sp 1 (by omega) (by decide) _ (fun w hw => hw.1)) ?_
  rw [show (⟨#[110, 116, 48, 92, 34, 35]⟩ : ByteArray) = bs [110, 116, 48, 92, 34, 35] from rfl]
  (first | refine wX ?_ | exact wZ)
  refine call1 (IndexByte_c [110, 116, 48, 92, 34, 35] (pk s (p + 1)) _) ?_
  generalize pk s (p + 1) = e at *
  have hall : (e = 110 ∧ c = 10) ∨ (e = 116 ∧ c = 9) ∨ (e = 48 ∧ c = 0) ∨ (e = 92 ∧ c = 92) ∨ (e = 34 ∧ c = 34) ∨ (e = 35 ∧ c = 35) := by
    unfold escB at hv
    repeat' split at hv
    all_goals simp_all
  rcases hall with ⟨rfl, rfl⟩ | ⟨rfl, rfl⟩ | ⟨rfl, rfl⟩ | ⟨rfl, rfl⟩ | ⟨rfl, rfl⟩ | ⟨rfl, rfl⟩
  · -- 110: the letter, 0: its place, 10: the byte
    (first | refine wX ?_ | exact wZ)
    refine LdN.one (a := some ⟨xb, 0, none⟩) (q := 1) (.int .i64 ((p : Nat) : Int)) rfl (fun w hw => hw.1) rfl ?_
    (first | refine wX ?_ | exact wZ)
    refine LdN.one (a := some ⟨xb, 0, none⟩) (q := 0) (.string (bs s)) rfl (fun w hw => hw.1) rfl ?_
    (first | refine wX ?_ | exact wZ)
    rw [hz]
    refine brdF (by rw [wrap_i64 (by omega)]; simp; omega) ?_
    (first | refine wX ?_ | exact wZ)
    refine DrawN.plan [0, 1, 5] [(2, 1), (3, 1), (4, 1), (6, 1), (7, 0)] [(8, 0), (9, 0), (10, 0), (11, 0)] (by decide +kernel) ?_
    (first | refine wX ?_ | exact wZ)
    refine LdN.one (a := some ⟨pb, 0, none⟩) (q := 1) (.slice (at0 tb) tx.length tc) rfl (fun w hw => hw.2.1) rfl ?_
    (first | refine wX ?_ | exact wZ)
    -- 10: the byte
    try refine Nd.mk ⟨Nat.le_refl 1, rfl, rfl⟩ ?_
    (conv => whnf)
    refine AppN.grow 2 (u8s tx) [.int .u8 (10 : Int)] rfl rfl ⟨Nat.le_refl 1, ⟨by show (tx.length + 1) * 1 ≤ _; omega, by omega⟩, Nat.one_ne_zero⟩ fun b1 c1 h11 h12 => ?_
    (first | refine wX ?_ | exact wZ)
    refine EffW.appTo (i := 1) (q := 1) (ys := [_]) [.slice (at0 lb) ln lc, .slice (at0 (some b1)) (tx.length + 1) c1] 2 rfl rfl rfl rfl rfl rfl rfl (Nat.le_of_ble_eq_true rfl) rfl rfl ?_
    (first | refine wX ?_ | exact wZ)
    refine LdN.one (a := some ⟨xb, 0, none⟩) (q := 1) (.int .i64 ((p : Nat) : Int)) rfl (fun w hw => hw.1) rfl ?_
    (first | refine wX ?_ | exact wZ)
    -- p + 2: the next place, line: the line
    refine EffW.appTo (i := 0) (q := 1) (ys := [_]) (scC s (p + 2) (line) ob n cap here sp) 6 rfl rfl rfl rfl rfl rfl rfl (Nat.le_of_ble_eq_true rfl) (by
      first | rfl | (show [_, Value.int .i64 _, _, _, _, _] = [_, Value.int .i64 _, _, _, _, _]; rw [wrap_i64 (by omega)]; rfl) | (show [_, _, Value.int .i64 _, _, _, _] = [_, _, Value.int .i64 _, _, _, _]; rw [wrap_i64 (by omega)]; rfl)) rfl ?_
    (first | refine wX ?_ | exact wZ)
    exact ⟨(b1, c1), trivial, rfl, wkE_refl _, wkE_refl _, .inl ⟨rfl, rfl, u8s_snoc tx 10, rfl, by simp, rfl⟩, wkH_nil _⟩
  · -- 116: the letter, 1: its place, 9: the byte
    (first | refine wX ?_ | exact wZ)
    refine LdN.one (a := some ⟨xb, 0, none⟩) (q := 1) (.int .i64 ((p : Nat) : Int)) rfl (fun w hw => hw.1) rfl ?_
    (first | refine wX ?_ | exact wZ)
    refine LdN.one (a := some ⟨xb, 0, none⟩) (q := 0) (.string (bs s)) rfl (fun w hw => hw.1) rfl ?_
    (first | refine wX ?_ | exact wZ)
    rw [hz]
    refine brdF (by rw [wrap_i64 (by omega)]; simp; omega) ?_
    (first | refine wX ?_ | exact wZ)
    refine DrawN.plan [0, 1, 5] [(2, 1), (3, 1), (4, 1), (6, 1), (7, 0)] [(8, 0), (9, 0), (10, 0), (11, 0)] (by decide +kernel) ?_
    (first | refine wX ?_ | exact wZ)
    refine LdN.one (a := some ⟨pb, 0, none⟩) (q := 1) (.slice (at0 tb) tx.length tc) rfl (fun w hw => hw.2.1) rfl ?_
    (first | refine wX ?_ | exact wZ)
    -- 9: the byte
    try refine Nd.mk ⟨Nat.le_refl 1, rfl, rfl⟩ ?_
    (conv => whnf)
    refine AppN.grow 2 (u8s tx) [.int .u8 (9 : Int)] rfl rfl ⟨Nat.le_refl 1, ⟨by show (tx.length + 1) * 1 ≤ _; omega, by omega⟩, Nat.one_ne_zero⟩ fun b1 c1 h11 h12 => ?_
    (first | refine wX ?_ | exact wZ)
    refine EffW.appTo (i := 1) (q := 1) (ys := [_]) [.slice (at0 lb) ln lc, .slice (at0 (some b1)) (tx.length + 1) c1] 2 rfl rfl rfl rfl rfl rfl rfl (Nat.le_of_ble_eq_true rfl) rfl rfl ?_
    (first | refine wX ?_ | exact wZ)
    refine LdN.one (a := some ⟨xb, 0, none⟩) (q := 1) (.int .i64 ((p : Nat) : Int)) rfl (fun w hw => hw.1) rfl ?_
    (first | refine wX ?_ | exact wZ)
    -- p + 2: the next place, line: the line
    refine EffW.appTo (i := 0) (q := 1) (ys := [_]) (scC s (p + 2) (line) ob n cap here sp) 6 rfl rfl rfl rfl rfl rfl rfl (Nat.le_of_ble_eq_true rfl) (by
      first | rfl | (show [_, Value.int .i64 _, _, _, _, _] = [_, Value.int .i64 _, _, _, _, _]; rw [wrap_i64 (by omega)]; rfl) | (show [_, _, Value.int .i64 _, _, _, _] = [_, _, Value.int .i64 _, _, _, _]; rw [wrap_i64 (by omega)]; rfl)) rfl ?_
    (first | refine wX ?_ | exact wZ)
    exact ⟨(b1, c1), trivial, rfl, wkE_refl _, wkE_refl _, .inl ⟨rfl, rfl, u8s_snoc tx 9, rfl, by simp, rfl⟩, wkH_nil _⟩
  · -- 48: the letter, 2: its place, 0: the byte
    (first | refine wX ?_ | exact wZ)
    refine LdN.one (a := some ⟨xb, 0, none⟩) (q := 1) (.int .i64 ((p : Nat) : Int)) rfl (fun w hw => hw.1) rfl ?_
    (first | refine wX ?_ | exact wZ)
    refine LdN.one (a := some ⟨xb, 0, none⟩) (q := 0) (.string (bs s)) rfl (fun w hw => hw.1) rfl ?_
    (first | refine wX ?_ | exact wZ)
    rw [hz]
    refine brdF (by rw [wrap_i64 (by omega)]; simp; omega) ?_
    (first | refine wX ?_ | exact wZ)
    refine DrawN.plan [0, 1, 5] [(2, 1), (3, 1), (4, 1), (6, 1), (7, 0)] [(8, 0), (9, 0), (10, 0), (11, 0)] (by decide +kernel) ?_
    (first | refine wX ?_ | exact wZ)
    refine LdN.one (a := some ⟨pb, 0, none⟩) (q := 1) (.slice (at0 tb) tx.length tc) rfl (fun w hw => hw.2.1) rfl ?_
    (first | refine wX ?_ | exact wZ)
    -- 0: the byte
    try refine Nd.mk ⟨Nat.le_refl 1, rfl, rfl⟩ ?_
    (conv => whnf)
    refine AppN.grow 2 (u8s tx) [.int .u8 (0 : Int)] rfl rfl ⟨Nat.le_refl 1, ⟨by show (tx.length + 1) * 1 ≤ _; omega, by omega⟩, Nat.one_ne_zero⟩ fun b1 c1 h11 h12 => ?_
    (first | refine wX ?_ | exact wZ)
    refine EffW.appTo (i := 1) (q := 1) (ys := [_]) [.slice (at0 lb) ln lc, .slice (at0 (some b1)) (tx.length + 1) c1] 2 rfl rfl rfl rfl rfl rfl rfl (Nat.le_of_ble_eq_true rfl) rfl rfl ?_
    (first | refine wX ?_ | exact wZ)
    refine LdN.one (a := some ⟨xb, 0, none⟩) (q := 1) (.int .i64 ((p : Nat) : Int)) rfl (fun w hw => hw.1) rfl ?_
    (first | refine wX ?_ | exact wZ)
    -- p + 2: the next place, line: the line
    refine EffW.appTo (i := 0) (q := 1) (ys := [_]) (scC s (p + 2) (line) ob n cap here sp) 6 rfl rfl rfl rfl rfl rfl rfl (Nat.le_of_ble_eq_true rfl) (by
      first | rfl | (show [_, Value.int .i64 _, _, _, _, _] = [_, Value.int .i64 _, _, _, _, _]; rw [wrap_i64 (by omega)]; rfl) | (show [_, _, Value.int .i64 _, _, _, _] = [_, _, Value.int .i64 _, _, _, _]; rw [wrap_i64 (by omega)]; rfl)) rfl ?_
    (first | refine wX ?_ | exact wZ)
    exact ⟨(b1, c1), trivial, rfl, wkE_refl _, wkE_refl _, .inl ⟨rfl, rfl, u8s_snoc tx 0, rfl, by simp, rfl⟩, wkH_nil _⟩
  · -- 92: the letter, 3: its place, 92: the byte
    (first | refine wX ?_ | exact wZ)
    refine LdN.one (a := some ⟨xb, 0, none⟩) (q := 1) (.int .i64 ((p : Nat) : Int)) rfl (fun w hw => hw.1) rfl ?_
    (first | refine wX ?_ | exact wZ)
    refine LdN.one (a := some ⟨xb, 0, none⟩) (q := 0) (.string (bs s)) rfl (fun w hw => hw.1) rfl ?_
    (first | refine wX ?_ | exact wZ)
    rw [hz]
    refine brdF (by rw [wrap_i64 (by omega)]; simp; omega) ?_
    (first | refine wX ?_ | exact wZ)
    refine DrawN.plan [0, 1, 5] [(2, 1), (3, 1), (4, 1), (6, 1), (7, 0)] [(8, 0), (9, 0), (10, 0), (11, 0)] (by decide +kernel) ?_
    (first | refine wX ?_ | exact wZ)
    refine LdN.one (a := some ⟨pb, 0, none⟩) (q := 1) (.slice (at0 tb) tx.length tc) rfl (fun w hw => hw.2.1) rfl ?_
    (first | refine wX ?_ | exact wZ)
    -- 92: the byte
    try refine Nd.mk ⟨Nat.le_refl 1, rfl, rfl⟩ ?_
    (conv => whnf)
    refine AppN.grow 2 (u8s tx) [.int .u8 (92 : Int)] rfl rfl ⟨Nat.le_refl 1, ⟨by show (tx.length + 1) * 1 ≤ _; omega, by omega⟩, Nat.one_ne_zero⟩ fun b1 c1 h11 h12 => ?_
    (first | refine wX ?_ | exact wZ)
    refine EffW.appTo (i := 1) (q := 1) (ys := [_]) [.slice (at0 lb) ln lc, .slice (at0 (some b1)) (tx.length + 1) c1] 2 rfl rfl rfl rfl rfl rfl rfl (Nat.le_of_ble_eq_true rfl) rfl rfl ?_
    (first | refine wX ?_ | exact wZ)
    refine LdN.one (a := some ⟨xb, 0, none⟩) (q := 1) (.int .i64 ((p : Nat) : Int)) rfl (fun w hw => hw.1) rfl ?_
    (first | refine wX ?_ | exact wZ)
    -- p + 2: the next place, line: the line
    refine EffW.appTo (i := 0) (q := 1) (ys := [_]) (scC s (p + 2) (line) ob n cap here sp) 6 rfl rfl rfl rfl rfl rfl rfl (Nat.le_of_ble_eq_true rfl) (by
      first | rfl | (show [_, Value.int .i64 _, _, _, _, _] = [_, Value.int .i64 _, _, _, _, _]; rw [wrap_i64 (by omega)]; rfl) | (show [_, _, Value.int .i64 _, _, _, _] = [_, _, Value.int .i64 _, _, _, _]; rw [wrap_i64 (by omega)]; rfl)) rfl ?_
    (first | refine wX ?_ | exact wZ)
    exact ⟨(b1, c1), trivial, rfl, wkE_refl _, wkE_refl _, .inl ⟨rfl, rfl, u8s_snoc tx 92, rfl, by simp, rfl⟩, wkH_nil _⟩
  · -- 34: the letter, 4: its place, 34: the byte
    (first | refine wX ?_ | exact wZ)
    refine LdN.one (a := some ⟨xb, 0, none⟩) (q := 1) (.int .i64 ((p : Nat) : Int)) rfl (fun w hw => hw.1) rfl ?_
    (first | refine wX ?_ | exact wZ)
    refine LdN.one (a := some ⟨xb, 0, none⟩) (q := 0) (.string (bs s)) rfl (fun w hw => hw.1) rfl ?_
    (first | refine wX ?_ | exact wZ)
    rw [hz]
    refine brdF (by rw [wrap_i64 (by omega)]; simp; omega) ?_
    (first | refine wX ?_ | exact wZ)
    refine DrawN.plan [0, 1, 5] [(2, 1), (3, 1), (4, 1), (6, 1), (7, 0)] [(8, 0), (9, 0), (10, 0), (11, 0)] (by decide +kernel) ?_
    (first | refine wX ?_ | exact wZ)
    refine LdN.one (a := some ⟨pb, 0, none⟩) (q := 1) (.slice (at0 tb) tx.length tc) rfl (fun w hw => hw.2.1) rfl ?_
    (first | refine wX ?_ | exact wZ)
    -- 34: the byte
    try refine Nd.mk ⟨Nat.le_refl 1, rfl, rfl⟩ ?_
    (conv => whnf)
    refine AppN.grow 2 (u8s tx) [.int .u8 (34 : Int)] rfl rfl ⟨Nat.le_refl 1, ⟨by show (tx.length + 1) * 1 ≤ _; omega, by omega⟩, Nat.one_ne_zero⟩ fun b1 c1 h11 h12 => ?_
    (first | refine wX ?_ | exact wZ)
    refine EffW.appTo (i := 1) (q := 1) (ys := [_]) [.slice (at0 lb) ln lc, .slice (at0 (some b1)) (tx.length + 1) c1] 2 rfl rfl rfl rfl rfl rfl rfl (Nat.le_of_ble_eq_true rfl) rfl rfl ?_
    (first | refine wX ?_ | exact wZ)
    refine LdN.one (a := some ⟨xb, 0, none⟩) (q := 1) (.int .i64 ((p : Nat) : Int)) rfl (fun w hw => hw.1) rfl ?_
    (first | refine wX ?_ | exact wZ)
    -- p + 2: the next place, line: the line
    refine EffW.appTo (i := 0) (q := 1) (ys := [_]) (scC s (p + 2) (line) ob n cap here sp) 6 rfl rfl rfl rfl rfl rfl rfl (Nat.le_of_ble_eq_true rfl) (by
      first | rfl | (show [_, Value.int .i64 _, _, _, _, _] = [_, Value.int .i64 _, _, _, _, _]; rw [wrap_i64 (by omega)]; rfl) | (show [_, _, Value.int .i64 _, _, _, _] = [_, _, Value.int .i64 _, _, _, _]; rw [wrap_i64 (by omega)]; rfl)) rfl ?_
    (first | refine wX ?_ | exact wZ)
    exact ⟨(b1, c1), trivial, rfl, wkE_refl _, wkE_refl _, .inl ⟨rfl, rfl, u8s_snoc tx 34, rfl, by simp, rfl⟩, wkH_nil _⟩
  · -- 35: the letter, 5: its place, 35: the byte
    (first | refine wX ?_ | exact wZ)
    refine LdN.one (a := some ⟨xb, 0, none⟩) (q := 1) (.int .i64 ((p : Nat) : Int)) rfl (fun w hw => hw.1) rfl ?_
    (first | refine wX ?_ | exact wZ)
    refine LdN.one (a := some ⟨xb, 0, none⟩) (q := 0) (.string (bs s)) rfl (fun w hw => hw.1) rfl ?_
    (first | refine wX ?_ | exact wZ)
    rw [hz]
    refine brdF (by rw [wrap_i64 (by omega)]; simp; omega) ?_
    (first | refine wX ?_ | exact wZ)
    refine DrawN.plan [0, 1, 5] [(2, 1), (3, 1), (4, 1), (6, 1), (7, 0)] [(8, 0), (9, 0), (10, 0), (11, 0)] (by decide +kernel) ?_
    (first | refine wX ?_ | exact wZ)
    refine LdN.one (a := some ⟨pb, 0, none⟩) (q := 1) (.slice (at0 tb) tx.length tc) rfl (fun w hw => hw.2.1) rfl ?_
    (first | refine wX ?_ | exact wZ)
    -- 35: the byte
    try refine Nd.mk ⟨Nat.le_refl 1, rfl, rfl⟩ ?_
    (conv => whnf)
    refine AppN.grow 2 (u8s tx) [.int .u8 (35 : Int)] rfl rfl ⟨Nat.le_refl 1, ⟨by show (tx.length + 1) * 1 ≤ _; omega, by omega⟩, Nat.one_ne_zero⟩ fun b1 c1 h11 h12 => ?_
    (first | refine wX ?_ | exact wZ)
    refine EffW.appTo (i := 1) (q := 1) (ys := [_]) [.slice (at0 lb) ln lc, .slice (at0 (some b1)) (tx.length + 1) c1] 2 rfl rfl rfl rfl rfl rfl rfl (Nat.le_of_ble_eq_true rfl) rfl rfl ?_
    (first | refine wX ?_ | exact wZ)
    refine LdN.one (a := some ⟨xb, 0, none⟩) (q := 1) (.int .i64 ((p : Nat) : Int)) rfl (fun w hw => hw.1) rfl ?_
    (first | refine wX ?_ | exact wZ)
    -- p + 2: the next place, line: the line
    refine EffW.appTo (i := 0) (q := 1) (ys := [_]) (scC s (p + 2) (line) ob n cap here sp) 6 rfl rfl rfl rfl rfl rfl rfl (Nat.le_of_ble_eq_true rfl) (by
      first | rfl | (show [_, Value.int .i64 _, _, _, _, _] = [_, Value.int .i64 _, _, _, _, _]; rw [wrap_i64 (by omega)]; rfl) | (show [_, _, Value.int .i64 _, _, _, _] = [_, _, Value.int .i64 _, _, _, _]; rw [wrap_i64 (by omega)]; rfl)) rfl ?_
    (first | refine wX ?_ | exact wZ)
    exact ⟨(b1, c1), trivial, rfl, wkE_refl _, wkE_refl _, .inl ⟨rfl, rfl, u8s_snoc tx 35, rfl, by simp, rfl⟩, wkH_nil _⟩
end Go.Proofs.YteejemdibfbccaaGreatDoor

/-
  AX, thirty-ninth text: some of one's own entries are over: what they say becomes facts; the others stay.
-/
namespace Go.AX

/-- What is over: what stands where nothing stays. -/
def restL : List Ent → List Ent → List Ent
  | [], _ => []
  | h :: H, [] => h :: restL H []
  | h :: H, .fact _ :: G => h :: restL H G
  | h :: H, .dead :: G => h :: restL H G
  | .fact F :: H, _ :: G => .fact F :: restL H G
  | _ :: H, _ :: G => .dead :: restL H G
theorem restL_len : ∀ H G : List Ent, (restL H G).length = H.length
  | [], _ => rfl
  | _ :: H, [] => by simp [restL, restL_len H []]
  | h :: H, g :: G => by cases g <;> cases h <;> simp [restL, restL_len H G]
theorem restL_get : ∀ (H G : List Ent) (i : Nat) (e : Ent), (restL H G)[i]? = some e → H[i]? = some e ∨ e = .dead
  | [], _, _, _, h => by cases h
  | h :: H, [], 0, e, he => .inl he
  | h :: H, [], i + 1, e, he => restL_get H [] i e he
  | h :: H, g :: G, 0, e, he => by cases g <;> cases h <;> first | exact .inl he | exact .inr (Option.some.inj he).symm
  | h :: H, g :: G, i + 1, e, he => restL_get H G i e (by cases g <;> cases h <;> exact he)
theorem restL_app : ∀ (H G : List Ent) (i : Nat) (e f : Ent), e.isApp = true → f.isApp = true → G[i]? = some e → (restL H G)[i]? = some f → False
  | [], _, _, _, _, _, _, _, h => by cases h
  | h :: H, [], _, _, _, _, _, h1, _ => by cases h1
  | h :: H, g :: G, 0, e, f, he, hf, h1, h2 => by
    obtain rfl := Option.some.inj h1
    cases g <;> cases he <;> cases h <;> (obtain rfl := Option.some.inj h2; cases hf)
  | h :: H, g :: G, i + 1, e, f, he, hf, h1, h2 => restL_app H G i e f he hf h1 (by cases g <;> cases h <;> exact h2)
/-- A list of entries after what is over was sealed. -/
def SealOk (H G : List Ent) : Prop := G.length ≤ H.length ∧ ∀ (i : Nat) (e : Ent), G[i]? = some e → e = .dead ∨ (∃ T sz xs a n cap, e = .app T sz xs a n cap ∧ H[i]? = some e) ∨ ∃ Γ, e = .fact Γ ∧ ∀ w, Facts (restL H G) w → Γ w
theorem appB_get {H : List Ent} {b : Nat} (h : appB H b) : ∃ (i : Nat) (e : Ent), H[i]? = some e ∧ e.isApp = true ∧ ∀ ρ j, entB ρ j e = some b := by
  rcases h with ⟨T, sz, xs, a, n, cap, h1, h2⟩ | ⟨es, c, h1⟩
  · obtain ⟨i, hi⟩ := List.getElem?_of_mem h1
    exact ⟨i, _, hi, rfl, fun _ _ => h2⟩
  · obtain ⟨i, hi⟩ := List.getElem?_of_mem h1
    exact ⟨i, _, hi, rfl, fun _ _ => rfl⟩
theorem Sat.dull {ρ : List Loc} {S : Nat → Prop} {H G : List Ent} {w : World} (h : Sat ρ S H w) (hl : G.length = H.length) (hg : ∀ (i : Nat) (e : Ent), G[i]? = some e → H[i]? = some e ∨ e = .dead) : Sat ρ S G w := by
  have hb : ∀ (i : Nat) (e : Ent) (b : Nat), G[i]? = some e → entB ρ i e = some b → H[i]? = some e := fun i e b he hb => by
    rcases hg i e he with h1 | rfl
    · exact h1
    · cases hb
  refine ⟨by rw [h.len, hl], fun i e he => ?_, fun i j e f b he hf h1 h2 => h.inj i j e f b (hb i e b he h1) (hb j f b hf h2) h1 h2, fun b ⟨i, e, he, h1⟩ => h.out b ⟨i, e, hb i e b he h1, h1⟩, h.low⟩
  rcases hg i e he with h1 | rfl
  · exact h.ent i e h1
  · trivial
theorem Sat.sealP {ρ : List Loc} {S : Nat → Prop} {H G : List Ent} {w : World} (h : Sat ρ S H w) (hG : SealOk H G) :
    Sat (ρ.take G.length) (fun b => S b ∨ appB (restL H G) b) G w ∧ (∀ ρ' b, mb ρ' G b → mb ρ H b) := by
  obtain ⟨hl, hG⟩ := hG
  have h1 := h.dull (restL_len H G) (restL_get H G)
  have hno : ∀ (ρ' : List Loc) (i : Nat) (e : Ent) (b : Nat), G[i]? = some e → entB ρ' i e = some b → H[i]? = some e ∧ entB ρ i e = some b ∧ ∃ T sz xs a n cap, e = .app T sz xs a n cap := fun ρ' i e b he hb => by
    rcases hG i e he with rfl | ⟨T, sz, xs, a, n, cap, rfl, h2⟩ | ⟨Γ, rfl, _⟩
    · cases hb
    · exact ⟨h2, hb, T, sz, xs, a, n, cap, rfl⟩
    · cases hb
  refine ⟨⟨by rw [List.length_take, h.len]; omega, fun i e he => ?_, fun i j e f b he hf hb hc => ?_, fun b ⟨i, e, he, hb⟩ hS => ?_, fun b hb => ?_⟩, fun ρ' b ⟨i, e, he, hb⟩ => ?_⟩
  · rcases hG i e he with rfl | ⟨T, sz, xs, a, n, cap, rfl, h2⟩ | ⟨Γ, rfl, hΓ⟩
    · trivial
    · exact h.ent i _ h2
    · exact h1.imm.mono hΓ
  · obtain ⟨a1, a2, _⟩ := hno _ i e b he hb
    obtain ⟨b1, b2, _⟩ := hno _ j f b hf hc
    exact h.inj i j e f b a1 b1 a2 b2
  · obtain ⟨a1, a2, T, sz, xs, a, n, cap, rfl⟩ := hno _ i e b he hb
    rcases hS with hS | hS
    · exact h.out b ⟨i, _, a1, a2⟩ hS
    · obtain ⟨j, f, hf, hfa, hfb⟩ := appB_get hS
      rcases restL_get H G j f hf with hH | rfl
      · obtain rfl := h.inj i j _ f b a1 hH a2 (hfb ρ j)
        exact restL_app H G i _ f rfl hfa he hf
      · cases hfa
  · rcases hb with hb | hb
    · exact h.low b hb
    · obtain ⟨i, e, he, heb⟩ := appB_mb (ρ := ρ) hb
      exact h1.blk_lt he heb
  · obtain ⟨a1, a2, _⟩ := hno _ i e b he hb
    exact ⟨i, e, a1, a2⟩
/-- A call at whose end some entries are over. -/
theorem SpecH.sealP {P : Program} {f : FuncId} {args : List AV} {H : List Ent} {K : Out → List Ent → Prop} (h : SpecH P f args H fun out H' => ∃ G, H.length ≤ G.length ∧ SealOk H' G ∧ (∃ v, out = .val (.c (.v v))) ∧ K out G) : SpecH P f args H K := by
  refine ⟨h.ok, fun ρ S w vs hs hr => (h.run ρ S w vs hs hr).mono fun e w' ⟨ρ', S', H', out, hs', hev, hout, G, hl, hG, ⟨v, hx⟩, hK⟩ => ?_⟩
  subst hx
  obtain ⟨h1, h2⟩ := hs'.sealP hG
  refine ⟨ρ'.take G.length, _, G, .val (.c (.v v)), h1, ⟨?_, hev.os, hev.tape, hev.output, hev.size, hev.keep, fun b hb => ?_, fun b hb => hev.own b (h2 _ b hb)⟩, hout, hK⟩
  · obtain ⟨t, ht⟩ := hev.pre
    refine ⟨t.take (G.length - ρ.length), ?_⟩
    rw [ht, List.take_append, List.take_of_length_le (by rw [hs.len]; exact hl)]
  · rcases hb with hb | hb
    · exact hev.imm b hb
    · obtain ⟨j, f, hf, hfa, hfb⟩ := appB_get hb
      rcases restL_get H' G j f hf with hH | rfl
      · rcases hev.own b ⟨j, f, hH, hfb _ _⟩ with h3 | h3
        · exact .inr (.inl h3)
        · exact .inr (.inr h3)
      · cases hfa
end Go.AX

/-
  Contracts: the parts of a string: flush, done (program).
-/
namespace Go.Proofs.YteejemdibfbccaaGreatDoor
open Go.AX Go.RowKit Go.Scan
set_option maxRecDepth 20000

theorem flush_nil (pb : Nat) (l : List Part) (lb : Option Nat) (lc : Nat) : SpecH Tryz.prog 120 [.c (.v (.pointer (some ⟨pb, 0, none⟩)))] [paE pb lb l.length lc none 0 0, plE l lb lc, txE [] none 0]
    (RetG (ι := Unit) (fun _ => True) (fun _ => .tuple #[]) fun _ => [paE pb lb l.length lc none 0 0, plE l lb lc, txE [] none 0]) := by
  refine ownC hm Tryz.func120 (by kernel_rfl) rfl rfl (fun _ _ => okHB_eq rfl) (fun _ _ => Nat.le_refl _) ?_
  (first | refine wX ?_ | exact wZ)
  refine LdN.one (a := some ⟨pb, 0, none⟩) (q := 1) (.slice (at0 none) 0 0) rfl (fun w hw => hw.1) rfl ?_
  (first | refine wX ?_ | exact wZ)
  exact ⟨(), trivial, rfl, wkE_refl _, wkE_refl _, wkE_refl _, wkH_nil _⟩
set_option maxHeartbeats 1000000 in
theorem flush_some (pb : Nat) (l : List Part) (lb : Option Nat) (lc : Nat) (tx : List UInt8) (tb tc : Nat) (hl : l.length ≤ 1000000) (ht : tx.length ≤ 1000000) (h0 : tx ≠ []) :
    SpecH Tryz.prog 120 [.c (.v (.pointer (some ⟨pb, 0, none⟩)))] [paE pb lb l.length lc (some tb) tx.length tc, plE l lb lc, txE tx (some tb) tc]
      (RetG (ι := Nat × Nat) (fun _ => True) (fun _ => .tuple #[]) fun ⟨b, k⟩ => [paE pb (some b) (l.length + 1) k none 0 0, plE (l ++ [⟨false, tx⟩]) (some b) k, txE [] none 0]) := by
  refine ownC hm Tryz.func120 (by kernel_rfl) rfl rfl (fun _ _ => okHB_eq rfl) (fun _ _ => Nat.le_refl _) ?_
  have hpos : 1 ≤ tx.length := by cases tx with
    | nil => exact absurd rfl h0
    | cons _ _ => simp
  (first | refine wX ?_ | exact wZ)
  refine LdN.one (a := some ⟨pb, 0, none⟩) (q := 1) (.slice (at0 (some tb)) tx.length tc) rfl (fun w hw => hw.1) rfl ?_
  (first | refine wX ?_ | exact wZ)
  refine brdT (by simp; omega) ?_
  (first | refine wX ?_ | exact wZ)
  refine DrawN.plan [0, 1, 5] [(2, 1), (3, 1), (4, 1), (6, 1), (7, 1), (8, 1), (9, 1), (10, 1), (11, 0)] [(12, 0), (13, 0), (14, 0), (15, 0)] (by decide +kernel) ?_
  (first | refine wX ?_ | exact wZ)
  refine LdN.one (a := some ⟨pb, 0, none⟩) (q := 0) (.slice (at0 lb) l.length lc) rfl (fun w hw => hw.1) rfl ?_
  (first | refine wX ?_ | exact wZ)
  refine LdN.one (a := some ⟨pb, 0, none⟩) (q := 1) (.slice (at0 (some tb)) tx.length tc) rfl (fun w hw => hw.1) rfl ?_
  (first | refine wX ?_ | exact wZ)
  refine ReadW.bytes tx rfl rfl Tryz.underlying108 Tryz.underlying5 Tryz.underlying9 rfl (fun w hw => by have := hw.2.2.1; rwa [Nat.mul_one] at this) ?_
  (first | refine wX ?_ | exact wZ)
  try refine Nd.mk ⟨Nat.le_refl 1, rfl, rfl⟩ ?_
  (conv => whnf)
  refine AppN.grow 1 (partsC l) (partC ⟨false, tx⟩) rfl rfl ⟨Nat.le_refl 1, ⟨by show (l.length + 1) * 24 ≤ _; omega, by omega⟩, by show 2 ≠ 0; omega⟩ fun b1 c1 h11 h12 => ?_
  (first | refine wX ?_ | exact wZ)
  refine EffW.appTo (i := 0) (q := 0) (ys := [_]) [.slice (at0 (some b1)) (l.length + 1) c1, .slice (at0 (some tb)) tx.length tc] 2 rfl rfl rfl rfl rfl rfl rfl (Nat.le_of_ble_eq_true rfl) rfl rfl ?_
  (first | refine wX ?_ | exact wZ)
  refine EffW.appTo (i := 0) (q := 1) (ys := [_]) [.slice (at0 (some b1)) (l.length + 1) c1, .slice (at0 none) 0 0] 2 rfl rfl rfl rfl rfl rfl rfl (Nat.le_of_ble_eq_true rfl) rfl rfl ?_
  (first | refine wX ?_ | exact wZ)
  exact ⟨(b1, c1), trivial, rfl, wkE_refl _, .inl ⟨rfl, rfl, partsC_snoc l _, rfl, by simp, rfl⟩, .inr (.inl ⟨rfl, rfl, rfl, rfl⟩), wkH_nil _⟩
/-- The parts lie there. -/
def PaF (b : Nat) (l : List Part) (w : World) : Prop := SlAt (some ⟨b, 0, none⟩) (l.length * 2) (partsC l) w
theorem seal_done {H : List Ent} {Γ : World → Prop} (hl : 3 ≤ H.length) (h : ∀ w, Facts (restL H [.dead, .dead, .fact Γ]) w → Γ w) : SealOk H [.dead, .dead, .fact Γ] := by
  refine ⟨hl, fun i e he => ?_⟩
  rcases i with _ | _ | _ | i
  · exact .inl (Option.some.inj he).symm
  · exact .inl (Option.some.inj he).symm
  · exact .inr (.inr ⟨Γ, (Option.some.inj he).symm, h⟩)
  · cases he
set_option maxHeartbeats 1000000 in
theorem done_c (pb : Nat) (l : List Part) (lb : Option Nat) (lc : Nat) (tx : List UInt8) (tb : Option Nat) (tc : Nat) (hl : l.length ≤ 1000000) (ht : tx.length ≤ 1000000) (hlb : lb = none → l = []) (htb : tb = none → tx = []) (htb2 : tx = [] → tb = none ∧ tc = 0) :
    SpecH Tryz.prog 89 [.c (.v (.pointer (some ⟨pb, 0, none⟩)))] [paE pb lb l.length lc tb tx.length tc, plE l lb lc, txE tx tb tc]
      (RetG (ι := Nat × Nat) (fun _ => True) (fun i => .slice (some ⟨i.1, 0, none⟩) (doneS l tx).length i.2) fun i => [.dead, .dead, .fact (PaF i.1 (doneS l tx))]) := by
  refine SpecH.sealP ?_
  refine spec_of_exec hm Tryz.func89 (by kernel_rfl) rfl rfl ?_
  (first | refine wX ?_ | exact wZ)
  by_cases h0 : tx = []
  · subst h0
    obtain ⟨rfl, rfl⟩ := htb2 rfl
    refine callG (flush_nil pb l lb lc) [0, 1, 2] rfl ⟨rfl, rfl, rfl, trivial⟩ rfl fun _ _ => ?_
    (first | refine wX ?_ | exact wZ)
    refine LdN.one (a := some ⟨pb, 0, none⟩) (q := 0) (.slice (at0 lb) l.length lc) rfl (fun w hw => hw.1) rfl ?_
    (first | refine wX ?_ | exact wZ)
    by_cases h1 : l = []
    · subst h1
      (conv => whnf)
      refine RwN.known [_, _] rfl fun b => ?_
      (conv => whnf)
      have hd : doneS [] [] = [⟨false, []⟩] := rfl
      refine ⟨[.dead, .dead, .fact (PaF b (doneS [] []))], Nat.le_refl _, seal_done (Nat.le_of_ble_eq_true rfl) fun w hw => ?_, ⟨_, rfl⟩, ⟨(b, 1), trivial, rfl, rfl⟩⟩
      exact hw.2.2.2.1
    · have hd : doneS l [] = l := by simp [doneS, flushS, h1]
      obtain ⟨g, rfl⟩ : ∃ g, lb = some g := by
        cases lb with
        | none => exact absurd (hlb rfl) h1
        | some g => exact ⟨g, rfl⟩
      have hpos : 1 ≤ l.length := by cases l with
        | nil => exact absurd rfl h1
        | cons _ _ => simp
      refine brdF (beq_false_of_ne (by omega)) ?_
      (first | refine wX ?_ | exact wZ)
      refine LdN.one (a := some ⟨pb, 0, none⟩) (q := 0) (.slice (at0 (some g)) l.length lc) rfl (fun w hw => hw.1) rfl ?_
      (first | refine wX ?_ | exact wZ)
      rw [hd]
      refine ⟨[.dead, .dead, .fact (PaF g l)], Nat.le_refl _, seal_done (Nat.le_of_ble_eq_true rfl) fun w hw => ?_, ⟨_, rfl⟩, ⟨(g, lc), trivial, rfl, rfl⟩⟩
      exact hw.2.1
  · obtain ⟨g, rfl⟩ : ∃ g, tb = some g := by
      cases tb with
      | none => exact absurd (htb rfl) h0
      | some g => exact ⟨g, rfl⟩
    have hd : doneS l tx = l ++ [⟨false, tx⟩] := by simp [doneS, flushS, h0]
    refine callG (flush_some pb l lb lc tx g tc hl ht h0) [0, 1, 2] rfl ⟨rfl, rfl, rfl, trivial⟩ rfl fun ⟨b, k⟩ _ => ?_
    (first | refine wX ?_ | exact wZ)
    refine LdN.one (a := some ⟨pb, 0, none⟩) (q := 0) (.slice (at0 (some b)) (l.length + 1) k) rfl (fun w hw => hw.1) rfl ?_
    (first | refine wX ?_ | exact wZ)
    refine LdN.one (a := some ⟨pb, 0, none⟩) (q := 0) (.slice (at0 (some b)) (l.length + 1) k) rfl (fun w hw => hw.1) rfl ?_
    (first | refine wX ?_ | exact wZ)
    rw [hd]
    refine ⟨[.dead, .dead, .fact (PaF b (l ++ [⟨false, tx⟩]))], Nat.le_refl _, seal_done (Nat.le_of_ble_eq_true rfl) fun w hw => ?_, ⟨_, rfl⟩, ⟨(b, k), trivial, by rw [List.length_append]; rfl, rfl⟩⟩
    exact hw.2.1
end Go.Proofs.YteejemdibfbccaaGreatDoor

/-
  Plain: the text that Quote writes, between two quotes.
-/
namespace Go.Proofs.YteejemdibfbccaaGreatDoor
open Go.AX Go.RowKit Go.Scan

/-- The text between quotes. -/
def quS (t : List UInt8) : List UInt8 := 34 :: (t.flatMap qt ++ [34])
/-- Where the i-th byte is written. -/
def quP (t : List UInt8) (i : Nat) : Nat := 1 + ((t.take i).flatMap qt).length
theorem qt_cases (c : UInt8) : (∃ e, qt c = [92, e] ∧ escB e = some c) ∨ (qt c = [c] ∧ c ≠ 92 ∧ c ≠ 34 ∧ c ≠ 35 ∧ c ≠ 10) := by
  by_cases h1 : c = 92
  · subst h1; exact .inl ⟨92, rfl, rfl⟩
  by_cases h2 : c = 34
  · subst h2; exact .inl ⟨34, rfl, rfl⟩
  by_cases h3 : c = 35
  · subst h3; exact .inl ⟨35, rfl, rfl⟩
  by_cases h4 : c = 10
  · subst h4; exact .inl ⟨110, rfl, rfl⟩
  by_cases h5 : c = 0
  · subst h5; exact .inl ⟨48, rfl, rfl⟩
  refine .inr ⟨?_, h1, h2, h3, h4⟩
  unfold qt
  simp [h1, h2, h3, h4, h5]
theorem flat_ge (s : List UInt8) : s.length ≤ (s.flatMap qt).length := by
  induction s with
  | nil => simp
  | cons c r ih =>
    have h1 : 1 ≤ (qt c).length := by
      rcases qt_cases c with ⟨e, h, _⟩ | ⟨h, _⟩ <;> rw [h] <;> simp
    rw [List.flatMap_cons, List.length_append, List.length_cons]
    omega
theorem quS_len (t : List UInt8) : (quS t).length = 2 + (t.flatMap qt).length := by simp [quS]; omega
theorem quP_end (t : List UInt8) : quP t t.length + 1 = (quS t).length := by rw [quS_len, quP, List.take_length]; omega
theorem quS_end (t : List UInt8) : (quS t)[quP t t.length]? = some 34 := by
  rw [quS, quP, List.take_length, Nat.add_comm, List.getElem?_cons_succ, List.getElem?_append_right (Nat.le_refl _), Nat.sub_self]
  rfl
theorem quP_next {t : List UInt8} {i : Nat} {c : UInt8} (h : t[i]? = some c) : quP t (i + 1) = quP t i + (qt c).length := by
  rw [quP, quP, take_snoc h, List.flatMap_append, List.length_append]
  simp only [List.flatMap_cons, List.flatMap_nil, List.append_nil]
  omega
theorem quS_at {t : List UInt8} {i : Nat} {c : UInt8} (h : t[i]? = some c) (k : Nat) (hk : k < (qt c).length) : (quS t)[quP t i + k]? = (qt c)[k]? := by
  obtain ⟨hlt, hx⟩ := List.getElem?_eq_some_iff.1 h
  have e : t.flatMap qt = (t.take i).flatMap qt ++ (qt c ++ (t.drop (i + 1)).flatMap qt) := by
    conv => lhs; rw [← List.take_append_drop i t, List.drop_eq_getElem_cons hlt, hx]
    rw [List.flatMap_append, List.flatMap_cons]
  rw [quS, quP, e, show 1 + ((t.take i).flatMap qt).length + k = ((t.take i).flatMap qt).length + k + 1 by omega, List.getElem?_cons_succ, List.append_assoc, List.getElem?_append_right (by omega), List.append_assoc, List.getElem?_append_left (by omega)]
  rw [Nat.add_sub_cancel_left]
theorem quP_le {t : List UInt8} {i : Nat} (_ : i ≤ t.length) : quP t i ≤ quP t t.length := by
  unfold quP
  rw [List.take_length]
  conv => rhs; rw [← List.take_append_drop i t, List.flatMap_append, List.length_append]
  omega
end Go.Proofs.YteejemdibfbccaaGreatDoor

/-
  AX, fortieth text: the address of an element, in a drawing region.
-/
namespace Go.AX
/-- The address of an element of a slice at a known block. -/
theorem ReadC.idx {P : Program} {C : World → Prop} {o : Oper} {s : List AV} {K : AV → Prop} {T e : TypeId} {inf : TypeInfo} {x i : Operand} {b n cap sz : Nat} {kk : IntKind} (k : Nat) (ho : o.op = .indexAddr T x i) (hu : P.underlying T = some (.slice e)) (hi : P.info? e = some inf) (hsz : inf.size = sz)
    (hx : opv s x = .c (.v (.slice (some ⟨b, 0, none⟩) n cap))) (hy : opv s i = .c (.v (.int kk (k : Int)))) (hk : k < n) (next : K (.c (.v (.pointer (some ⟨b, k * sz, none⟩))))) : ∃ x, ReadC P C o s K x :=
  ⟨.pointer (some ⟨b, k * sz, none⟩), fun cs b e => (by rw [ho] at e; cases e), by rw [ho]; show allPlain s [x, i] = true; simp [allPlain, hx, hy], fun w _ => by
    have hx2 : plainEv s x = .slice (some ⟨b, 0, none⟩) n cap := by unfold plainEv; rw [hx]
    have hy2 : plainEv s i = .int kk (k : Int) := by unfold plainEv; rw [hy]
    have h := run_indexAt (P := P) hu hi w ⟨b, 0, none⟩ n cap kk (k : Int) ⟨by omega, by omega⟩
    rw [Int.toNat_natCast, hsz, add_lit0] at h
    exact execOp_indexAddr ho (by rw [hx2, hy2]; exact h), next⟩
/-- The address of a field of a struct at a known block. -/
theorem ReadC.field {P : Program} {C : World → Prop} {o : Oper} {s : List AV} {K : AV → Prop} {T : TypeId} {x : Operand} {b q f : Nat} (fo : Nat) (ho : o.op = .fieldAddr T x f) (hx : opv s x = .c (.v (.pointer (some ⟨b, q, none⟩)))) (hf : fieldOff P T f = some fo) (next : K (.c (.v (.pointer (some ⟨b, q + fo, none⟩))))) : ∃ x, ReadC P C o s K x :=
  ⟨.pointer (some ⟨b, q + fo, none⟩), fun cs b e => (by rw [ho] at e; cases e), by rw [ho]; show allPlain s [x] = true; simp [allPlain, hx], fun w _ => by
    have hx2 : plainEv s x = .pointer (some ⟨b, q, none⟩) := by unfold plainEv; rw [hx]
    have h := fieldOff_spec (P := P) hf w ⟨b, q, none⟩
    rw [add_lit] at h
    unfold execOp
    simp only [ho, hx2, Sem.run_bind, h, Result.andThen_ok, Sem.run_pure], next⟩
end Go.AX

/-
  Contract: a string that Quote wrote (program).
-/
namespace Go.Proofs.YteejemdibfbccaaGreatDoor
open Go.AX Go.RowKit Go.Scan
set_option maxRecDepth 20000

theorem toksC_len (l : List Tok) : (toksC l).length = l.length * 5 := by
  induction l with
  | nil => rfl
  | cons a r ih => rw [toksC, List.flatMap_cons, List.length_append, List.length_cons, ← toksC, ih]; show 5 + _ = _; omega
theorem set_parts (l : List Tok) (k : Int) (t : List UInt8) (sp : Bool) (line : Nat) (a : Option Addr) (n c : Nat) : (toksC (l ++ [⟨k, t, sp, line, none, 0, 0⟩])).take (l.length * 5 + 4) ++ [.slice a n c] ++ (toksC (l ++ [⟨k, t, sp, line, none, 0, 0⟩])).drop (l.length * 5 + 4 + [Value.slice a n c].length) = toksC (l ++ [⟨k, t, sp, line, a, n, c⟩]) := by
  rw [← toksC_snoc, ← toksC_snoc, ← toksC_len l, List.take_append, List.drop_append, List.take_of_length_le (l := toksC l) (by omega), List.drop_of_length_le (l := toksC l) (by simp; omega), show (toksC l).length + 4 - (toksC l).length = 4 by omega, show (toksC l).length + 4 + [Value.slice a n c].length - (toksC l).length = 5 by simp; omega]
  simp [tokC]
/-- The room of a list that is nil yet. -/
def capO : Option Nat → Nat → Nat | none, _ => 0 | some _, k => k
set_option maxHeartbeats 2000000 in
theorem quoted_q (xb : Nat) (t : List UInt8) (line : Nat) (l : List Tok) (ob : Option Nat) (cap here : Nat) (sp : Bool) (s : List UInt8) (hsq : s = quS t) (hs : s.length ≤ 1000000) (hl : l.length ≤ 900000) (hob : ob = none → l = []) (hln : line ≤ 1000000) :
    SpecH Tryz.prog 65 [.c (.v (.pointer (some ⟨xb, 0, none⟩))), .c (.v (.int .u8 34))] [scE xb s 0 line ob l.length cap here sp, toE l ob cap, .fact ScanF]
      (RetG (ι := (Nat × Nat) × Nat × Nat) (fun _ => True) (fun _ => .tuple #[]) fun i => [scE xb s s.length line (some i.1.1) (l.length + 1) i.1.2 here false, toE (l ++ [⟨5, [], sp, line, some ⟨i.2.1, 0, none⟩, 1, i.2.2⟩]) (some i.1.1) i.1.2, .fact fun w => ScanF w ∧ PaF i.2.1 [⟨false, t⟩] w]) := by
  refine SpecH.sealP ?_
  refine spec_of_exec hm Tryz.func65 (by kernel_rfl) rfl rfl ?_
  have hz := bs_size s
  have hlen := quS_len t
  rw [← hsq] at hlen
  have hend := quP_end t
  have htl := flat_ge t
  rw [← hsq] at hend
  (first | refine wX ?_ | exact wZ)
  refine LdN.one (a := some ⟨xb, 0, none⟩) (q := 2) (.int .i64 (line : Int)) rfl (fun w hw => hw.1) rfl ?_
  (first | refine wX ?_ | exact wZ)
  refine callG (add_c xb s 0 line l ob cap here sp 5 [] line (by omega) hob) [0, 1] rfl ⟨rfl, rfl, trivial⟩ rfl fun ⟨b, c⟩ _ => ?_
  (first | refine wX ?_ | exact wZ)
  refine LdN.one (a := some ⟨xb, 0, none⟩) (q := 3) (.slice (at0 (some b)) (l.length + 1) c) rfl (fun w hw => hw.1) rfl ?_
  (first | refine wX ?_ | exact wZ)
  refine LdN.one (a := some ⟨xb, 0, none⟩) (q := 1) (.int .i64 ((0 : Nat) : Int)) rfl (fun w hw => hw.1) rfl ?_
  (first | refine wX ?_ | exact wZ)
  -- 1: the next place
  refine EffW.appTo (i := 0) (q := 1) (ys := [_]) (scC s (1) line (some b) (l.length + 1) c here false) 6 rfl rfl rfl rfl rfl rfl rfl (Nat.le_of_ble_eq_true rfl) (by
    first | rfl | (show [_, Value.int .i64 _, _, _, _, _] = [_, Value.int .i64 _, _, _, _, _]; rw [wrap_i64 (by omega)]; rfl)) rfl ?_
  (conv => whnf)
  refine BoxN.known [.slice none 0 0, .slice none 0 0] rfl fun pb => ?_
  (first | refine wX ?_ | exact wZ)
  refine LoopN.intro (Nat × Option Nat × Nat) (fun ⟨i, tb, _⟩ => i ≤ t.length ∧ (tb = none → i = 0) ∧ (i = 0 → tb = none)) (fun _ => mkS Tryz.f65.ntmps 0 [(0, .c (.v (.pointer (some ⟨xb, 0, none⟩)))), (1, .c (.v (.int .u8 34))), (4, .c (.v (.int .i64 (line : Int)))), (5, .c (.v (.int .i64 (l.length : Int)))), (6, .c (.v (.pointer (some ⟨pb, 0, none⟩))))])
    (fun ⟨i, tb, tc⟩ => [scE xb s (quP t i) line (some b) (l.length + 1) c here false, toE (l ++ [⟨5, [], sp, line, none, 0, 0⟩]) (some b) c, .fact ScanF, paE pb none 0 0 tb (t.take i).length (capO tb tc), plE [] none 0, txE (t.take i) tb (capO tb tc)]) (fun ⟨i, _, _⟩ => t.length - i) [.app 0 0 [] none 0 0, .app 0 0 [] none 0 0] rfl (fun _ => rfl) (fun _ => rfl) (fun _ _ => okHB_eq rfl) ⟨(0, none, 0), ⟨Nat.zero_le _, fun _ => rfl, fun _ => rfl⟩, ?_, ⟨wkE_refl _, wkE_refl _, wkE_refl _, wkE_refl _, wkE_nil, wkE_nil, wkH_nil _⟩⟩ ?_
  · (repeat' (first | exact trivial | refine And.intro (by with_reducible rfl) ?_ | (with_reducible exact wkC_refl _) | (with_reducible exact wkCs_refl _) | refine And.intro ?_ ?_))
    all_goals first | rfl | exact av_int (by omega)
  rintro ⟨i, tb, tc⟩ ⟨hi, htb, htb2⟩
  have hple := quP_le hi
  (first | refine wX ?_ | exact wZ)
  refine LdN.one (a := some ⟨xb, 0, none⟩) (q := 1) (.int .i64 ((quP t i : Nat) : Int)) rfl (fun w hw => hw.1) rfl ?_
  (first | refine wX ?_ | exact wZ)
  refine LdN.one (a := some ⟨xb, 0, none⟩) (q := 0) (.string (bs s)) rfl (fun w hw => hw.1) rfl ?_
  (first | refine wX ?_ | exact wZ)
  rw [hz]
  refine brdF (by simp; omega) ?_
  (first | refine wX ?_ | exact wZ)
  refine LdN.one (a := some ⟨xb, 0, none⟩) (q := 0) (.string (bs s)) rfl (fun w hw => hw.1) rfl ?_
  (first | refine wX ?_ | exact wZ)
  refine LdN.one (a := some ⟨xb, 0, none⟩) (q := 1) (.int .i64 ((quP t i : Nat) : Int)) rfl (fun w hw => hw.1) rfl ?_
  (first | refine wX ?_ | exact wZ)
  by_cases hlt : i < t.length
  · obtain ⟨e0, he0⟩ : ∃ e, t[i]? = some e := ⟨_, List.getElem?_eq_getElem hlt⟩
    have hnx := quP_next he0
    have hle2 := quP_le (show i + 1 ≤ t.length from hlt)
    have htk : (t.take i).length = i := by rw [List.length_take]; omega
    have hsn := take_snoc he0
    rcases qt_cases e0 with ⟨e, hq, hv⟩ | ⟨hq, h92, h34, h35, h10⟩
    · have h1 := quS_at he0 0 (by rw [hq]; simp)
      have h2 := quS_at he0 1 (by rw [hq]; simp)
      rw [hq, ← hsq] at h1 h2
      rw [hq] at hnx
      have hpk : pk s (quP t i + 1) = e := by unfold pk; rw [h2]; rfl
      rw [Int.toNat_natCast, byteAt_get (show s[quP t i]? = some 92 from h1)]
      (first | refine wX ?_ | exact wZ)
      refine callG (piece_esc xb s (quP t i) line (some b) (l.length + 1) c here false pb none 0 0 (t.take i) tb (capO tb tc) (line : Int) false e0 h1 (by rw [hpk]; exact hv) (by simp at hnx; omega) hs (by omega)) [0, 3, 5] rfl ⟨rfl, rfl, rfl, trivial⟩ rfl fun ⟨b2, c2⟩ _ => ?_
      (first | refine wX ?_ | exact wZ)
      refine ⟨(i + 1, some b2, c2), ⟨hlt, (fun h => by cases h), (fun h => by cases h)⟩, by show t.length - (i + 1) < t.length - i; omega, ?_, ⟨by rw [hnx]; exact wkE_refl _, wkE_refl _, wkE_refl _, by rw [hsn, List.length_append]; exact wkE_refl _, wkE_refl _, by rw [hsn]; exact wkE_refl _, wkH_nil _⟩⟩
      (repeat' (first | exact trivial | refine And.intro (by with_reducible rfl) ?_ | (with_reducible exact wkC_refl _) | (with_reducible exact wkCs_refl _) | refine And.intro ?_ ?_))
      all_goals rfl
    · have h1 := quS_at he0 0 (by rw [hq]; simp)
      rw [hq, ← hsq] at h1
      rw [hq] at hnx
      have e34 : ((e0.toNat : Int) == 34) = false := (u8_eq (n := 34) (by decide)).trans (by simpa using h34)
      rw [Int.toNat_natCast, byteAt_get (show s[quP t i]? = some e0 from h1)]
      (first | refine wX ?_ | exact wZ)
      rw [e34]
      (first | refine wX ?_ | exact wZ)
      refine callG (piece_chr xb s (quP t i) line (some b) (l.length + 1) c here false pb none 0 0 (t.take i) tb (capO tb tc) (line : Int) false e0 h1 h92 (fun h => h35 h.1) hs hln (by omega)) [0, 3, 5] rfl ⟨rfl, rfl, rfl, trivial⟩ rfl fun ⟨b2, c2⟩ _ => ?_
      rw [show lnS e0 line = line from if_neg h10]
      (first | refine wX ?_ | exact wZ)
      refine ⟨(i + 1, some b2, c2), ⟨hlt, (fun h => by cases h), (fun h => by cases h)⟩, by show t.length - (i + 1) < t.length - i; omega, ?_, ⟨by rw [hnx]; exact wkE_refl _, wkE_refl _, wkE_refl _, by rw [hsn, List.length_append]; exact wkE_refl _, wkE_refl _, by rw [hsn]; exact wkE_refl _, wkH_nil _⟩⟩
      (repeat' (first | exact trivial | refine And.intro (by with_reducible rfl) ?_ | (with_reducible exact wkC_refl _) | (with_reducible exact wkCs_refl _) | refine And.intro ?_ ?_))
      all_goals rfl
  · obtain rfl : i = t.length := by omega
    have h1 := quS_end t
    rw [← hsq] at h1
    rw [Int.toNat_natCast, byteAt_get h1]
    (first | refine wX ?_ | exact wZ)
    refine LdN.one (a := some ⟨xb, 0, none⟩) (q := 1) (.int .i64 ((quP t t.length : Nat) : Int)) rfl (fun w hw => hw.1) rfl ?_
    (first | refine wX ?_ | exact wZ)
    -- quP t t.length + 1: the next place
    refine EffW.appTo (i := 0) (q := 1) (ys := [_]) (scC s (quP t t.length + 1) line (some b) (l.length + 1) c here false) 6 rfl rfl rfl rfl rfl rfl rfl (Nat.le_of_ble_eq_true rfl) (by
      first | rfl | (show [_, Value.int .i64 _, _, _, _, _] = [_, Value.int .i64 _, _, _, _, _]; rw [wrap_i64 (by omega)]; rfl)) rfl ?_
    (conv => whnf)
    refine DrawN.planC (fun w => w.cell? ⟨xb, 3, none⟩ = some (.slice (some ⟨b, 0, none⟩) (l.length + 1) c)) [0, 4] [(1, 2), (2, 2), (3, 1), (5, 0), (6, 1), (7, 1)] [(8, 0)] (by decide +kernel) (fun w hw => (show SlAt _ _ (scC s (quP t t.length + 1) line (some b) (l.length + 1) c here false) w from hw.1).cell (q := 3) rfl) ?_
    (first | refine wX ?_ | exact wZ)
    refine ReadC.load (.slice (some ⟨b, 0, none⟩) (l.length + 1) c) rfl rfl (fun w hw => loadVar_cell rfl hw) ?_
    (conv => whnf)
    have htt := List.take_length (l := t)
    rw [htt]
    have hd : doneS [] t = [⟨false, t⟩] := by
      unfold doneS flushS
      by_cases h0 : t = []
      · simp [h0]
      · simp [h0]
    have hdn := done_c pb [] none 0 t tb (capO tb tc) (by simp) (by omega) (fun _ => rfl) (fun h => List.eq_nil_of_length_eq_zero (htb h)) (fun h => have := htb2 (by rw [h]; rfl); ⟨this, by rw [this]; rfl⟩)
    simp only [hd] at hdn
    refine callG hdn [3, 4, 5] rfl ⟨rfl, rfl, rfl, trivial⟩ rfl fun ⟨g, k⟩ _ => ?_
    (conv => whnf)
    refine Nd.mk (fun w hw => (show SlAt _ _ (scC s (quP t t.length + 1) line (some b) (l.length + 1) c here false) w from hw.1).cell (q := 3) rfl) ?_
    (first | refine wX ?_ | exact wZ)
    refine ReadC.idx (sz := 5) l.length rfl Tryz.underlying30 rfl rfl rfl rfl (by omega) ?_
    (first | refine wX ?_ | exact wZ)
    refine ReadC.field 4 rfl rfl rfl ?_
    (first | refine wX ?_ | exact wZ)
    refine EffW.appTo (i := 1) (q := l.length * 5 + 4) (ys := [_]) (toksC (l ++ [⟨5, [], sp, line, some ⟨g, 0, none⟩, 1, k⟩])) 5 rfl rfl rfl rfl rfl rfl rfl (by show l.length * 5 + 4 + 1 ≤ (l ++ [_]).length * 5; simp; omega) ?_ rfl ?_
    · exact set_parts l ..
    (first | refine wX ?_ | exact wZ)
    refine ⟨[scE xb s s.length line (some b) (l.length + 1) c here false, toE (l ++ [⟨5, [], sp, line, some ⟨g, 0, none⟩, 1, k⟩]) (some b) c, .fact fun w => ScanF w ∧ PaF g [⟨false, t⟩] w], Nat.le_refl _, ⟨Nat.le_of_ble_eq_true rfl, fun j e he => ?_⟩, ⟨_, rfl⟩, ⟨((b, c), g, k), trivial, rfl, rfl⟩⟩
    rcases j with _ | _ | _ | j
    · obtain rfl := Option.some.inj he
      refine .inr (.inl ⟨_, _, _, _, _, _, rfl, ?_⟩)
      rw [← hend]
      rfl
    · obtain rfl := Option.some.inj he
      exact .inr (.inl ⟨_, _, _, _, _, _, rfl, by simp [toE]; rfl⟩)
    · obtain rfl := Option.some.inj he
      exact .inr (.inr ⟨_, rfl, fun w hw => ⟨hw.1, hw.2.1⟩⟩)
    · cases he
end Go.Proofs.YteejemdibfbccaaGreatDoor

/-
  Plain Lean: keywords, names, constants: what the program tells is what the document tells.
-/
namespace Go.Scan
set_option maxRecDepth 20000

def ops : List UInt8 := [43, 32, 45, 32, 42, 32, 47, 32, 37, 32, 61, 61, 32, 60, 32, 60, 61, 32, 62, 32, 62, 61, 32, 60, 61, 62, 32, 61, 61, 61, 32, 60, 60, 32, 91, 93, 32, 91, 93, 61, 32, 46, 46]
end Go.Scan

/-
  Plain Lean: names, constants, variables, methods' names: what the program tells is what the document tells.
-/
namespace Go.Scan
set_option maxRecDepth 20000

def hd (s : List UInt8) : UInt8 := s.headD 0
end Go.Scan

/-
  Contract: what stands at an @ (program).
-/
namespace Go.Proofs.YteejemdibfbccaaGreatDoor
open Go.AX Go.RowKit Go.Scan
set_option maxRecDepth 20000

end Go.Proofs.YteejemdibfbccaaGreatDoor

/-
  Contracts: what stands at a quote; Scan of a text that is one string (program).
-/
namespace Go.Proofs.YteejemdibfbccaaGreatDoor
open Go.AX Go.RowKit Go.Scan
set_option maxRecDepth 20000

/-- The token of the text between quotes. -/
def quT (i : Nat × Nat) : Tok := ⟨5, [], false, 1, some ⟨i.1, 0, none⟩, 1, i.2⟩
theorem next_quote (xb : Nat) (t : List UInt8) (ob : Option Nat) (cap : Nat) (s : List UInt8) (hsq : s = quS t) (hs : s.length ≤ 1000000) :
    SpecH Tryz.prog 44 [.c (.v (.pointer (some ⟨xb, 0, none⟩)))] [scE xb s 0 1 ob 0 cap 0 false, toE [] ob cap, .fact ScanF]
      (RetG (ι := (Nat × Nat) × Nat × Nat) (fun _ => True) (fun _ => .tuple #[]) fun i => [scE xb s s.length 1 (some i.1.1) 1 i.1.2 0 false, toE [quT i.2] (some i.1.1) i.1.2, .fact fun w => ScanF w ∧ PaF i.2.1 [⟨false, t⟩] w]) := by
  have hc : s[0]? = some 34 := by rw [hsq]; rfl
  refine ownC hm Tryz.func44 (by kernel_rfl) rfl rfl (fun _ _ => okHB_eq rfl) (fun _ _ => Nat.le_refl _) ?_
  have hz := bs_size s
  have hp : 0 < s.length := (List.getElem?_eq_some_iff.1 hc).1
  (first | refine wX ?_ | exact wZ)
  refine LdN.one (a := some ⟨xb, 0, none⟩) (q := 0) (.string (bs s)) rfl (fun w hw => hw.1) rfl ?_
  (first | refine wX ?_ | exact wZ)
  refine LdN.one (a := some ⟨xb, 0, none⟩) (q := 1) (.int .i64 ((0 : Nat) : Int)) rfl (fun w hw => hw.1) rfl ?_
  (first | refine wX ?_ | exact wZ)
  rw [show byteAt (bs s) (Int.toNat ((0 : Nat) : Int)) = 34 from byteAt_get hc]
  (first | refine wX ?_ | exact wZ)
  refine call1 (blk_c 34 _) ?_
  (first | refine wX ?_ | exact wZ)
  refine call1 (ltr_c 34 _) ?_
  (first | refine wX ?_ | exact wZ)
  refine call1 (dig_c 34 _) ?_
  (first | refine wX ?_ | exact wZ)
  refine callG (quoted_q xb t 1 [] ob cap 0 false s hsq hs (by simp) (fun _ => rfl) (by simp)) [0, 1, 2] rfl ⟨rfl, rfl, rfl, trivial⟩ rfl fun i _ => ?_
  (first | refine wX ?_ | exact wZ)
  exact ⟨i, trivial, rfl, wkE_refl _, wkE_refl _, wkE_refl _, wkH_nil _⟩
end Go.Proofs.YteejemdibfbccaaGreatDoor
