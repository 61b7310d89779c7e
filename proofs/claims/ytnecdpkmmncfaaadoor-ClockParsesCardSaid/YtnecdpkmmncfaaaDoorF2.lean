/-
  The text of a date in plain Lean: what both readers read; there and back.
-/
import Derived.Test.YtnecdpkmmncfaaaDoorF1
namespace Go.Proofs.YtnecdpkmmncfaaaDoor
open Go.AX Go.RowKit

theorem sh_dig {c : UInt8} : sh c = 48 ↔ 48 ≤ c.toNat ∧ c.toNat ≤ 57 := by
  unfold sh isD
  split
  · rename_i h; simpa using h
  · rename_i h
    constructor
    · rintro rfl; exact absurd (by decide) h
    · intro h2; exact absurd (by simpa using h2) h
theorem sh_sep {c f : UInt8} (hf : isD f = false) : sh c = f ↔ c = f := by
  unfold sh
  split
  · rename_i h
    constructor
    · rintro rfl; exact absurd hf (by decide)
    · rintro rfl; rw [h] at hf; cases hf
  · exact Iff.rfl
def dg (c : UInt8) : Prop := 48 ≤ c.toNat ∧ c.toNat ≤ 57
theorem fits_iff {t : List UInt8} (h : t.map sh = form) : ∃ c0 c1 c2 c3 c4 c5 c6 c7 c8 c9 c10 c11 c12 c13 c14 c15 c16 c17 c18, t = [c0, c1, c2, c3, c4, c5, c6, c7, c8, c9, c10, c11, c12, c13, c14, c15, c16, c17, c18] ∧ dg c0 ∧ dg c1 ∧ dg c2 ∧ dg c3 ∧ dg c5 ∧ dg c6 ∧ dg c8 ∧ dg c9 ∧ dg c11 ∧ dg c12 ∧ dg c14 ∧ dg c15 ∧ dg c17 ∧ dg c18 ∧ c4 = 45 ∧ c7 = 45 ∧ c10 = 32 ∧ c13 = 58 ∧ c16 = 58 := by
  unfold form at h
  obtain ⟨c0, t, rfl, h0, h⟩ := List.map_eq_cons_iff.1 h
  obtain ⟨c1, t, rfl, h1, h⟩ := List.map_eq_cons_iff.1 h
  obtain ⟨c2, t, rfl, h2, h⟩ := List.map_eq_cons_iff.1 h
  obtain ⟨c3, t, rfl, h3, h⟩ := List.map_eq_cons_iff.1 h
  obtain ⟨c4, t, rfl, h4, h⟩ := List.map_eq_cons_iff.1 h
  obtain ⟨c5, t, rfl, h5, h⟩ := List.map_eq_cons_iff.1 h
  obtain ⟨c6, t, rfl, h6, h⟩ := List.map_eq_cons_iff.1 h
  obtain ⟨c7, t, rfl, h7, h⟩ := List.map_eq_cons_iff.1 h
  obtain ⟨c8, t, rfl, h8, h⟩ := List.map_eq_cons_iff.1 h
  obtain ⟨c9, t, rfl, h9, h⟩ := List.map_eq_cons_iff.1 h
  obtain ⟨c10, t, rfl, h10, h⟩ := List.map_eq_cons_iff.1 h
  obtain ⟨c11, t, rfl, h11, h⟩ := List.map_eq_cons_iff.1 h
  obtain ⟨c12, t, rfl, h12, h⟩ := List.map_eq_cons_iff.1 h
  obtain ⟨c13, t, rfl, h13, h⟩ := List.map_eq_cons_iff.1 h
  obtain ⟨c14, t, rfl, h14, h⟩ := List.map_eq_cons_iff.1 h
  obtain ⟨c15, t, rfl, h15, h⟩ := List.map_eq_cons_iff.1 h
  obtain ⟨c16, t, rfl, h16, h⟩ := List.map_eq_cons_iff.1 h
  obtain ⟨c17, t, rfl, h17, h⟩ := List.map_eq_cons_iff.1 h
  obtain ⟨c18, t, rfl, h18, h⟩ := List.map_eq_cons_iff.1 h
  have ht : t = [] := by simpa using h
  subst ht
  exact ⟨c0, c1, c2, c3, c4, c5, c6, c7, c8, c9, c10, c11, c12, c13, c14, c15, c16, c17, c18, rfl, sh_dig.1 h0, sh_dig.1 h1, sh_dig.1 h2, sh_dig.1 h3, sh_dig.1 h5, sh_dig.1 h6, sh_dig.1 h8, sh_dig.1 h9, sh_dig.1 h11, sh_dig.1 h12, sh_dig.1 h14, sh_dig.1 h15, sh_dig.1 h17, sh_dig.1 h18, (sh_sep (by decide)).1 h4, (sh_sep (by decide)).1 h7, (sh_sep (by decide)).1 h10, (sh_sep (by decide)).1 h13, (sh_sep (by decide)).1 h16⟩

def neg (s : List UInt8) : Bool := [45].isPrefixOf s
def bareL (s : List UInt8) : List UInt8 := if neg s then s.drop 1 else s
theorem neg_split (s : List UInt8) : s = (if neg s then [45] else []) ++ bareL s := by
  unfold bareL neg
  cases s with
  | nil => rfl
  | cons c s =>
    by_cases h : c = 45
    · subst h; simp [List.isPrefixOf]
    · have : [45].isPrefixOf (c :: s) = false := by simp [List.isPrefixOf]; exact fun e => h e.symm
      simp [this]
def fld (t : List UInt8) (i n : Nat) : Int := num ((t.drop i).take n)
def yr (s : List UInt8) : Int := if neg s then 0 - fld (bareL s) 0 4 else fld (bareL s) 0 4
def dtS (s : List UInt8) : Value := dt (yr s) (fld (bareL s) 5 2) (fld (bareL s) 8 2) (fld (bareL s) 11 2) (fld (bareL s) 14 2) (fld (bareL s) 17 2)
def okS (s : List UInt8) : Prop := (bareL s).map sh = form ∧ ¬ (neg s = true ∧ fld (bareL s) 0 4 = 0)
def valS (s : List UInt8) : Bool := Cal.validB (yr s) (fld (bareL s) 5 2) (fld (bareL s) 8 2) (fld (bareL s) 11 2) (fld (bareL s) 14 2) (fld (bareL s) 17 2)
instance (s : List UInt8) : Decidable (okS s) := by unfold okS; exact inferInstance
/-- What both readers give. -/
def prs (s : List UInt8) : Value := if okS s then (if valS s then de (dtS s) 0 else de dt0 1) else de dt0 4

def sgn (y : Int) : List UInt8 := if y < 0 then [45] else []
def body (p q r u v w : List UInt8) : List UInt8 := p ++ ([45] ++ (q ++ ([45] ++ (r ++ ([32] ++ (u ++ ([58] ++ (v ++ ([58] ++ w)))))))))
def txtL (y m d h i s : Int) : List UInt8 := sgn y ++ body (padL 4 (Lib.itoa (if y < 0 then 0 - y else y))) (padL 2 (Lib.itoa m)) (padL 2 (Lib.itoa d)) (padL 2 (Lib.itoa h)) (padL 2 (Lib.itoa i)) (padL 2 (Lib.itoa s))
theorem txt_list (y m d h i s : Int) : (txt y m d h i s).data.toList = txtL y m d h i s := by
  unfold txt txtL body sgn
  by_cases hy : y < 0
  · simp [hy, ByteArray.data_append, bs]
  · simp [hy, ByteArray.data_append, bs]
theorem len4 {l : List UInt8} (h : l.length = 4) : ∃ a b c d, l = [a, b, c, d] := by
  match l, h with
  | [a, b, c, d], _ => exact ⟨a, b, c, d, rfl⟩
theorem len2 {l : List UInt8} (h : l.length = 2) : ∃ a b, l = [a, b] := by
  match l, h with
  | [a, b], _ => exact ⟨a, b, rfl⟩
theorem dg_mem {l : List UInt8} (h : digits l) {c : UInt8} (hc : c ∈ l) : sh c = 48 := sh_dig.2 (h c hc)

/-- What is written is read. -/
theorem prs_txt {y m d h i s : Int} (hv : Cal.validP y m d h i s) : prs (txtL y m d h i s) = de (dt y m d h i s) 0 := by
  have hv0 := hv
  have hmd := Cal.mlen_pos y m
  unfold Cal.validP at hv
  have ha : 0 ≤ (if y < 0 then 0 - y else y) ∧ (if y < 0 then 0 - y else y) < 10 ^ (3 + 1) := by
    rw [show (10 : Int) ^ (3 + 1) = 10000 by decide]; split <;> omega
  have hy : (if y < 0 then 0 - (if y < 0 then 0 - y else y) else (if y < 0 then 0 - y else y)) = y := by split <;> omega
  have hy0 : y < 0 → (if y < 0 then 0 - y else y) ≠ 0 := fun h => by rw [if_pos h]; omega
  obtain ⟨d1, n1, l1⟩ := pad_spec 3 _ ha
  obtain ⟨d2, n2, l2⟩ := pad_spec 1 m (by rw [show (10 : Int) ^ (1 + 1) = 100 by decide]; omega)
  obtain ⟨d3, n3, l3⟩ := pad_spec 1 d (by rw [show (10 : Int) ^ (1 + 1) = 100 by decide]; omega)
  obtain ⟨d4, n4, l4⟩ := pad_spec 1 h (by rw [show (10 : Int) ^ (1 + 1) = 100 by decide]; omega)
  obtain ⟨d5, n5, l5⟩ := pad_spec 1 i (by rw [show (10 : Int) ^ (1 + 1) = 100 by decide]; omega)
  obtain ⟨d6, n6, l6⟩ := pad_spec 1 s (by rw [show (10 : Int) ^ (1 + 1) = 100 by decide]; omega)
  unfold txtL
  generalize (if y < 0 then 0 - y else y) = Y at *
  simp only [Nat.reduceAdd] at d1 n1 l1 d2 n2 l2 d3 n3 l3 d4 n4 l4 d5 n5 l5 d6 n6 l6
  generalize padL 4 (Lib.itoa Y) = p1 at *
  generalize padL 2 (Lib.itoa m) = p2 at *
  generalize padL 2 (Lib.itoa d) = p3 at *
  generalize padL 2 (Lib.itoa h) = p4 at *
  generalize padL 2 (Lib.itoa i) = p5 at *
  generalize padL 2 (Lib.itoa s) = p6 at *
  obtain ⟨a1, a2, a3, a4, rfl⟩ := len4 l1
  obtain ⟨b1, b2, rfl⟩ := len2 l2
  obtain ⟨e1, e2, rfl⟩ := len2 l3
  obtain ⟨f1, f2, rfl⟩ := len2 l4
  obtain ⟨g1, g2, rfl⟩ := len2 l5
  obtain ⟨k1, k2, rfl⟩ := len2 l6
  have hb : ∀ t, bareL (sgn y ++ (a1 :: t)) = a1 :: t ∧ neg (sgn y ++ (a1 :: t)) = decide (y < 0) := fun t => by
    have ha1 := d1 a1 (by simp)
    have hne : (45 : UInt8) ≠ a1 := fun e => by rw [← e] at ha1; exact absurd ha1.1 (by decide)
    unfold sgn bareL neg
    by_cases hyn : y < 0
    · simp [hyn, List.isPrefixOf]
    · simp [hyn, List.isPrefixOf, hne]
  have hbd := hb ([a2, a3, a4] ++ ([45] ++ ([b1, b2] ++ ([45] ++ ([e1, e2] ++ ([32] ++ ([f1, f2] ++ ([58] ++ ([g1, g2] ++ ([58] ++ [k1, k2]))))))))))
  have hE : sgn y ++ body [a1, a2, a3, a4] [b1, b2] [e1, e2] [f1, f2] [g1, g2] [k1, k2] = sgn y ++ (a1 :: ([a2, a3, a4] ++ ([45] ++ ([b1, b2] ++ ([45] ++ ([e1, e2] ++ ([32] ++ ([f1, f2] ++ ([58] ++ ([g1, g2] ++ ([58] ++ [k1, k2])))))))))))  := rfl
  rw [hE]
  generalize hT : (a1 :: ([a2, a3, a4] ++ ([45] ++ ([b1, b2] ++ ([45] ++ ([e1, e2] ++ ([32] ++ ([f1, f2] ++ ([58] ++ ([g1, g2] ++ ([58] ++ [k1, k2]))))))))))) = T at hbd ⊢
  have r1 : fld T 0 4 = Y := by rw [← hT]; exact n1
  have r2 : fld T 5 2 = m := by rw [← hT]; exact n2
  have r3 : fld T 8 2 = d := by rw [← hT]; exact n3
  have r4 : fld T 11 2 = h := by rw [← hT]; exact n4
  have r5 : fld T 14 2 = i := by rw [← hT]; exact n5
  have r6 : fld T 17 2 = s := by rw [← hT]; exact n6
  have hyr : yr (sgn y ++ T) = y := by
    unfold yr
    rw [hbd.1, hbd.2, r1]
    simpa using hy
  have hok : okS (sgn y ++ T) := by
    unfold okS
    rw [hbd.1, hbd.2, r1]
    refine ⟨?_, fun hn => hy0 (by simpa using hn.1) hn.2⟩
    rw [← hT]
    simp only [List.map_cons, List.map_append, List.map_nil, dg_mem d1 (c := a1) (by simp), dg_mem d1 (c := a2) (by simp), dg_mem d1 (c := a3) (by simp), dg_mem d1 (c := a4) (by simp),
      dg_mem d2 (c := b1) (by simp), dg_mem d2 (c := b2) (by simp), dg_mem d3 (c := e1) (by simp), dg_mem d3 (c := e2) (by simp), dg_mem d4 (c := f1) (by simp), dg_mem d4 (c := f2) (by simp),
      dg_mem d5 (c := g1) (by simp), dg_mem d5 (c := g2) (by simp), dg_mem d6 (c := k1) (by simp), dg_mem d6 (c := k2) (by simp)]
    decide
  have hval : valS (sgn y ++ T) = true := by
    unfold valS
    rw [hyr, hbd.1, r2, r3, r4, r5, r6, Cal.validB]
    exact decide_eq_true hv0
  rw [prs, if_pos hok, if_pos hval, dtS, hyr, hbd.1, r2, r3, r4, r5, r6]

/-- What is read is written. -/
theorem txt_prs {s : List UInt8} (h : okS s) : txtL (yr s) (fld (bareL s) 5 2) (fld (bareL s) 8 2) (fld (bareL s) 11 2) (fld (bareL s) 14 2) (fld (bareL s) 17 2) = s := by
  obtain ⟨hf, hz⟩ := h
  have hs := neg_split s
  unfold yr
  generalize bareL s = t at *
  generalize neg s = b at *
  obtain ⟨c0, c1, c2, c3, c4, c5, c6, c7, c8, c9, c10, c11, c12, c13, c14, c15, c16, c17, c18, rfl, h0, h1, h2, h3, h5, h6, h8, h9, h11, h12, h14, h15, h17, h18, rfl, rfl, rfl, rfl, rfl⟩ := fits_iff hf
  have p4 : ∀ {a b c d : UInt8}, dg a → dg b → dg c → dg d → padL 4 (Lib.itoa (num [a, b, c, d])) = [a, b, c, d] ∧ 0 ≤ num [a, b, c, d] := fun {a b c d} h1 h2 h3 h4 => by
    have hd : digits [a, b, c, d] := fun x hx => by simp at hx; rcases hx with rfl | rfl | rfl | rfl <;> assumption
    exact ⟨pad_num 3 _ rfl hd, (num_bd 4 _ rfl hd).1⟩
  have p2 : ∀ {a b : UInt8}, dg a → dg b → padL 2 (Lib.itoa (num [a, b])) = [a, b] := fun {a b} h1 h2 => by
    have hd : digits [a, b] := fun x hx => by simp at hx; rcases hx with rfl | rfl <;> assumption
    exact pad_num 1 _ rfl hd
  obtain ⟨q, hq⟩ := p4 h0 h1 h2 h3
  simp only [fld, List.drop_succ_cons, List.drop_zero, List.take_succ_cons, List.take_zero] at hz ⊢
  generalize num [c0, c1, c2, c3] = Y at *
  have key : ∀ Z : Int, (if Z < 0 then 0 - Z else Z) = Y → sgn Z = (if b = true then [45] else []) → txtL Z (num [c5, c6]) (num [c8, c9]) (num [c11, c12]) (num [c14, c15]) (num [c17, c18]) = s := fun Z h1 h2 => by
    rw [hs, txtL, h1, h2, q, p2 h5 h6, p2 h8 h9, p2 h11 h12, p2 h14 h15, p2 h17 h18]
    rfl
  cases b with
  | true =>
    have hY : Y ≠ 0 := fun e => hz ⟨rfl, e⟩
    exact key (0 - Y) (by rw [if_pos (by omega)]; omega) (by unfold sgn; rw [if_pos (by omega)]; rfl)
  | false => exact key Y (by rw [if_neg (by omega)]) (by unfold sgn; rw [if_neg (by omega)]; rfl)
end Go.Proofs.YtnecdpkmmncfaaaDoor
