/-
  Lemmas (MC5 MC7 MC20 MD1 MD2 MD3 MA1 MP17 Ax54 D2).
-/
import Derived.Test.YtgogonnnojcioaaGreatDoorMsh8
set_option linter.unusedVariables false
set_option linter.unusedSimpArgs false
/-
 Contract: the writer writes a cell (marshal).
-/
namespace Go.Marshal
open Go.Core
structure Lim (w : Wr) : Prop where
 o : w.out.length ≤ 90000000000
 s : w.ss.length ≤ 90000000000
 c : w.cells.length ≤ 90000000000
theorem Gone.lim {w w' : Wr} (h : Gone w w') (k : Lim w') : Lim w := by
 obtain ⟨b, cs, ts, rfl⟩ := h
 have h1 := k.o
 have h2 := k.s
 have h3 := k.c
 simp only [List.length_append] at h1 h2 h3
 exact ⟨by omega, by omega, by omega⟩
theorem fold_lim {α : Type} {f : Wr → α → Wr} (hf : ∀ w x, Gone w (f w x)) {l : List α} {w : Wr} (h : Lim (l.foldl f w)) (k : Nat) : Lim ((l.take k).foldl f w) := by
 have e : l.foldl f w = (l.drop k).foldl f ((l.take k).foldl f w) := by rw [← List.foldl_append, List.take_append_drop]
 rw [e] at h
 exact (gone_fold hf _ _).lim h
theorem writeC_met {f : Wr → Int → Wr} {c : Cell} {w : Wr} {a : Int} (hk : c.kind = 4 ∨ 6 ≤ c.kind) (hm : a ∈ w.cells) : writeC f c w a = putW w (64 :: num (w.cells.idxOf a)) := by
 unfold writeC
 rw [if_neg (by omega), if_neg (by omega), if_neg (by omega), if_neg (by omega), if_neg (by omega), if_pos hm]
theorem writeC_new {f : Wr → Int → Wr} {c : Cell} {w : Wr} {a : Int} (hk : c.kind = 4 ∨ 6 ≤ c.kind) (hm : a ∉ w.cells) : writeC f c w a = if c.kind = 4 then putW { w with cells := w.cells ++ [a] } (34 :: (num c.text.length ++ c.text))
   else if c.kind = 6 then c.items.foldl f (putW { w with cells := w.cells ++ [a] } (91 :: num c.items.length))
   else if c.kind = 7 then c.items.foldl f (putW { w with cells := w.cells ++ [a] } (123 :: num (c.items.length / 2)))
   else (c.names.zip c.items).foldl (fun w p => f (symW w p.1) p.2) (putW (symW (putW { w with cells := w.cells ++ [a] } [111]) c.text) (num c.names.length)) := by
 unfold writeC
 rw [if_neg (by omega), if_neg (by omega), if_neg (by omega), if_neg (by omega), if_neg (by omega), if_neg hm]
theorem put_out (w : Wr) (b : B) : (putW w b).out = w.out ++ b := rfl
theorem fold_next {α β : Type} {f : β → α → β} {l : List α} {k : Nat} {x : α} {b : β} (h : l[k]? = some x) : (l.take (k + 1)).foldl f b = f ((l.take k).foldl f b) x := by
 rw [List.take_add_one, h, List.foldl_append]
 rfl
end Go.Marshal
namespace Go.Proofs.YtgogonnnojcioaaGreatDoor
open Go.AX Go.RowKit Go.Core Go.Marshal
set_option maxRecDepth 20000

set_option maxHeartbeats 4000000 in
theorem cell_m {a : Option Addr} (ca : Nat) {l : List CellP} (ha : a = none → l = []) (hok : ∀ p ∈ l, CellOk p) (hg : InG (l.map (·.c))) {K : Nat} (hc : ∀ i, InI (l.map (·.c)) i → CellW K (at_ (l.map (·.c)) i)) (hl2 : l.length ≤ 2000) (mb sb : Nat) :
  ∀ (n : Nat) (w : Wr) (i : BSt) (q : MapP) (u : Nat), u < l.length → freeN (l.map (·.c)) w.cells < n → WOk w (i, q) → Lim (writeF (l.map (·.c)) n w (u : Int)) →
  SpecH Tryz.prog 35 [.c (.lp 0 0), .c (.v (.int .i64 (u : Int)))] (wM (.slice a l.length ca) (GrF a l) true w.out i mb sb q) (wOut (.slice a l.length ca) (GrF a l) mb sb (writeF (l.map (·.c)) n w (u : Int))) := by
 intro n
 induction n with
 | zero => intro w i q u _ h; omega
 | succ n ih =>
  intro w i q u hu hn ho hlim
  obtain ⟨p, hp⟩ : ∃ p, l[u]? = some p := ⟨_, List.getElem?_eq_getElem hu⟩
  have hpm := List.mem_of_getElem? hp
  have hpo := hok p hpm
  have hin : InI (l.map (·.c)) (u : Int) := ⟨by omega, by simp; omega⟩
  have hcw := hc (u : Int) hin
  have hat : at_ (l.map (·.c)) (u : Int) = p.c := at_map hp
  rw [hat] at hcw
  have hlw := (gone_write (l.map (·.c)) (n + 1) w (u : Int)).lim hlim
  have hlo := hlw.o
  have hls := hlw.s
  have hlc := hlw.c
  have hsa : a.isSome = true := by
   cases a with
   | none => rw [ha rfl] at hu; exact absurd hu (Nat.not_lt_zero _)
   | some b => rfl
  have houts : ∀ x ∈ p.c.items, InI (l.map (·.c)) x := fun x hx => outs_in hg hin (by unfold outs; rw [hat]; exact hx)
  have hkk := hcw.kind
  have htx := hcw.text
  obtain ⟨⟨kind, num0, text, names, items⟩, na, nc, ia, ic⟩ := p
  simp only at hkk htx hat hcw hpo houts
  obtain ⟨gv, hgv⟩ : ∃ gv, gv = Value.slice a l.length ca := ⟨_, rfl⟩
  obtain ⟨F, hF⟩ : ∃ F, F = GrF a l := ⟨_, rfl⟩
  rw [writeF_eq, hat] at hlim
  obtain rfl | rfl | rfl | rfl | rfl | rfl | rfl | rfl | rfl : kind = 0 ∨ kind = 1 ∨ kind = 2 ∨ kind = 3 ∨ kind = 4 ∨ kind = 5 ∨ kind = 6 ∨ kind = 7 ∨ kind = 8 := by omega
  ·-- 0: the kind, 48: the byte
   rw [writeF_eq, hat]
   refine ownC hm Tryz.func35 (by kernel_rfl) rfl rfl (fun _ _ => wM_ok _ _ _ _ _ _ _ _) (fun _ _ => Nat.le_refl _) ?_
   (first | refine wXD ?_ | exact wZD)
   refine Nd.mk ⟨hsa, by omega, by omega⟩ ?_
   (first | refine wXD ?_ | exact wZD)
   refine LdN.agg [.int .i64 0, .int .i64 num0, .string (bs text), .slice na names.length nc, .slice ia items.length ic] rfl (fun w hw => hw.2.2.2.1.1) rfl (fun k hk => by rw [Int.toNat_natCast]; exact grC_get l u k hk hp) ?_
   (first | refine wXD ?_ | exact wZD)
   refine DrawN.planQ [0, 3] [1, 2, 4, 5] [(6, 0)] (by decide +kernel) ?_
   (first | refine wXD ?_ | exact wZD)
   refine callG (WriteByte_m (.slice a l.length ca) (GrF a l) mb sb q true w.out 48 i (by omega)) [0, 1, 2, 3, 4] rfl ⟨rfl, rfl, rfl, rfl, rfl, trivial⟩ rfl fun i2 hi2 => ?_
   (first | refine wXD ?_ | exact wZD)
   exact ⟨(i2, q), ⟨hi2, ho.c, ho.s⟩, rfl, wkE_refl _, wkE_refl _, wkE_refl _, wkE_refl _, wkE_refl _, trivial⟩
  ·-- 1: the kind, 84: the byte
   rw [writeF_eq, hat]
   refine ownC hm Tryz.func35 (by kernel_rfl) rfl rfl (fun _ _ => wM_ok _ _ _ _ _ _ _ _) (fun _ _ => Nat.le_refl _) ?_
   (first | refine wXD ?_ | exact wZD)
   refine Nd.mk ⟨hsa, by omega, by omega⟩ ?_
   (first | refine wXD ?_ | exact wZD)
   refine LdN.agg [.int .i64 1, .int .i64 num0, .string (bs text), .slice na names.length nc, .slice ia items.length ic] rfl (fun w hw => hw.2.2.2.1.1) rfl (fun k hk => by rw [Int.toNat_natCast]; exact grC_get l u k hk hp) ?_
   (first | refine wXD ?_ | exact wZD)
   refine DrawN.planQ [0, 3] [1, 2, 4, 5] [(6, 0)] (by decide +kernel) ?_
   (first | refine wXD ?_ | exact wZD)
   refine callG (WriteByte_m (.slice a l.length ca) (GrF a l) mb sb q true w.out 84 i (by omega)) [0, 1, 2, 3, 4] rfl ⟨rfl, rfl, rfl, rfl, rfl, trivial⟩ rfl fun i2 hi2 => ?_
   (first | refine wXD ?_ | exact wZD)
   exact ⟨(i2, q), ⟨hi2, ho.c, ho.s⟩, rfl, wkE_refl _, wkE_refl _, wkE_refl _, wkE_refl _, wkE_refl _, trivial⟩
  ·-- 2: the kind, 70: the byte
   rw [writeF_eq, hat]
   refine ownC hm Tryz.func35 (by kernel_rfl) rfl rfl (fun _ _ => wM_ok _ _ _ _ _ _ _ _) (fun _ _ => Nat.le_refl _) ?_
   (first | refine wXD ?_ | exact wZD)
   refine Nd.mk ⟨hsa, by omega, by omega⟩ ?_
   (first | refine wXD ?_ | exact wZD)
   refine LdN.agg [.int .i64 2, .int .i64 num0, .string (bs text), .slice na names.length nc, .slice ia items.length ic] rfl (fun w hw => hw.2.2.2.1.1) rfl (fun k hk => by rw [Int.toNat_natCast]; exact grC_get l u k hk hp) ?_
   (first | refine wXD ?_ | exact wZD)
   refine DrawN.planQ [0, 3] [1, 2, 4, 5] [(6, 0)] (by decide +kernel) ?_
   (first | refine wXD ?_ | exact wZD)
   refine callG (WriteByte_m (.slice a l.length ca) (GrF a l) mb sb q true w.out 70 i (by omega)) [0, 1, 2, 3, 4] rfl ⟨rfl, rfl, rfl, rfl, rfl, trivial⟩ rfl fun i2 hi2 => ?_
   (first | refine wXD ?_ | exact wZD)
   exact ⟨(i2, q), ⟨hi2, ho.c, ho.s⟩, rfl, wkE_refl _, wkE_refl _, wkE_refl _, wkE_refl _, wkE_refl _, trivial⟩
  ·have hnb := hcw.num rfl
   have hmx : maxN = 1000000000000000 := rfl
   simp only at hnb
   rw [writeF_eq, hat]
   refine ownC hm Tryz.func35 (by kernel_rfl) rfl rfl (fun _ _ => wM_ok _ _ _ _ _ _ _ _) (fun _ _ => Nat.le_refl _) ?_
   (first | refine wXD ?_ | exact wZD)
   refine Nd.mk ⟨hsa, by omega, by omega⟩ ?_
   (first | refine wXD ?_ | exact wZD)
   refine LdN.agg [.int .i64 3, .int .i64 num0, .string (bs text), .slice na names.length nc, .slice ia items.length ic] rfl (fun w hw => hw.2.2.2.1.1) rfl (fun k hk => by rw [Int.toNat_natCast]; exact grC_get l u k hk hp) ?_
   (first | refine wXD ?_ | exact wZD)
   refine brd_dec (fun h => ?_) (fun h => ?_)
   ·have hs : ((Marshal.sgn num0 : Nat) : Int) = -2 * num0 - 1 := by unfold Marshal.sgn; rw [if_pos h]; omega
    have hsl : Marshal.sgn num0 ≤ 2000000000000000 := by unfold Marshal.sgn; split <;> omega
    (first | refine wXD ?_ | exact wZD)
    try rw [show IntKind.i64.wrap (IntKind.i64.wrap (-2 * num0) - 1) = ((Marshal.sgn num0 : Nat) : Int) by first | exact hs.symm | (rw [hs, wrap_i64 (x := -2 * num0) (by omega), wrap_i64 (by omega)])]
    generalize hk : Marshal.sgn num0 = k at hs hsl ⊢
    refine DrawN.planQ [0, 3] [1, 2, 4, 5] [(6, 0)] (by decide +kernel) ?_
    (first | refine wXD ?_ | exact wZD)
    have hnl := num_len (n := k) (by omega)
    refine callQ (wide_c (k) (by omega) _) ?_
    (first | refine wXD ?_ | exact wZD)
    refine Nd.mk (by rw [bs_size]; show 1 + _ < _; omega) ?_
    rw [show (⟨#[105]⟩ : ByteArray) = bs [105] from rfl, bs_app]
    (first | refine wXD ?_ | exact wZD)
    refine callG (WriteString_m (.slice a l.length ca) (GrF a l) mb sb (q) true (w.out) ([105] ++ num k) i ho.b (by first | omega | (simp; omega))) [0, 1, 2, 3, 4] rfl ⟨rfl, rfl, rfl, rfl, rfl, trivial⟩ rfl fun i2 hi2 => ?_
    (first | refine wXD ?_ | exact wZD)
    have he : writeC (writeF (l.map (·.c)) n) ⟨3, num0, text, names, items⟩ w (u : Int) = putW w (105 :: num k) := by rw [← hk]; rfl
    rw [he]
    exact ⟨(i2, q), ⟨hi2, ho.c, ho.s⟩, rfl, wkE_refl _, wkE_refl _, wkE_refl _, wkE_refl _, wkE_refl _, trivial⟩
   ·have hs : ((Marshal.sgn num0 : Nat) : Int) = 2 * num0 := by unfold Marshal.sgn; rw [if_neg h]; omega
    have hsl : Marshal.sgn num0 ≤ 2000000000000000 := by unfold Marshal.sgn; split <;> omega
    (first | refine wXD ?_ | exact wZD)
    try rw [show 2 * num0 = ((Marshal.sgn num0 : Nat) : Int) by first | exact hs.symm | (rw [hs, wrap_i64 (x := -2 * num0) (by omega), wrap_i64 (by omega)])]
    generalize hk : Marshal.sgn num0 = k at hs hsl ⊢
    refine DrawN.planQ [0, 3] [1, 2, 4, 5] [(6, 0)] (by decide +kernel) ?_
    (first | refine wXD ?_ | exact wZD)
    have hnl := num_len (n := k) (by omega)
    refine callQ (wide_c (k) (by omega) _) ?_
    (first | refine wXD ?_ | exact wZD)
    refine Nd.mk (by rw [bs_size]; show 1 + _ < _; omega) ?_
    rw [show (⟨#[105]⟩ : ByteArray) = bs [105] from rfl, bs_app]
    (first | refine wXD ?_ | exact wZD)
    refine callG (WriteString_m (.slice a l.length ca) (GrF a l) mb sb (q) true (w.out) ([105] ++ num k) i ho.b (by first | omega | (simp; omega))) [0, 1, 2, 3, 4] rfl ⟨rfl, rfl, rfl, rfl, rfl, trivial⟩ rfl fun i2 hi2 => ?_
    (first | refine wXD ?_ | exact wZD)
    have he : writeC (writeF (l.map (·.c)) n) ⟨3, num0, text, names, items⟩ w (u : Int) = putW w (105 :: num k) := by rw [← hk]; rfl
    rw [he]
    exact ⟨(i2, q), ⟨hi2, ho.c, ho.s⟩, rfl, wkE_refl _, wkE_refl _, wkE_refl _, wkE_refl _, wkE_refl _, trivial⟩
  ·-- 4: the kind
   rw [writeF_eq, hat]
   refine ownC hm Tryz.func35 (by kernel_rfl) rfl rfl (fun _ _ => wM_ok _ _ _ _ _ _ _ _) (fun _ _ => Nat.le_refl _) ?_
   (first | refine wXD ?_ | exact wZD)
   refine Nd.mk ⟨hsa, by omega, by omega⟩ ?_
   (first | refine wXD ?_ | exact wZD)
   refine LdN.agg [.int .i64 4, .int .i64 num0, .string (bs text), .slice na names.length nc, .slice ia items.length ic] rfl (fun w hw => hw.2.2.2.1.1) rfl (fun k hk => by rw [Int.toNat_natCast]; exact grC_get l u k hk hp) ?_
   (first | refine wXD ?_ | exact wZD)
   refine ReadW.askKey (et := 3) (p := (u : Int)) (idxR w.cells) rfl (by kernel_rfl) intT rfl rfl rfl rfl (fun w hw => hw.2.1) ho.c ?_
   rw [idxR_look]
   by_cases hm : (u : Int) ∈ w.cells
   ·have hi := List.idxOf_lt_length_iff.2 hm
    rw [if_pos hm, show writeC (writeF (l.map (·.c)) n) ⟨4, num0, text, names, items⟩ w (u : Int) = putW w (64 :: num (w.cells.idxOf (u : Int))) from writeC_met (by simp) hm]
    generalize w.cells.idxOf (u : Int) = k at hi ⊢
    (first | refine wXD ?_ | exact wZD)
    refine DrawN.planQ [0, 3] [1, 2, 4, 5] [(6, 0)] (by decide +kernel) ?_
    (first | refine wXD ?_ | exact wZD)
    have hnl := num_len (n := k) (by omega)
    refine callQ (wide_c (k) (by omega) _) ?_
    (first | refine wXD ?_ | exact wZD)
    refine Nd.mk (by rw [bs_size]; show 1 + _ < _; omega) ?_
    rw [show (⟨#[64]⟩ : ByteArray) = bs [64] from rfl, bs_app]
    (first | refine wXD ?_ | exact wZD)
    refine callG (WriteString_m (.slice a l.length ca) (GrF a l) mb sb (q) true (w.out) ([64] ++ num k) i ho.b (by first | omega | (simp; omega))) [0, 1, 2, 3, 4] rfl ⟨rfl, rfl, rfl, rfl, rfl, trivial⟩ rfl fun i2 hi2 => ?_
    (first | refine wXD ?_ | exact wZD)
    exact ⟨(i2, q), ⟨hi2, ho.c, ho.s⟩, rfl, wkE_refl _, wkE_refl _, wkE_refl _, wkE_refl _, wkE_refl _, trivial⟩
   rw [if_neg hm]
   (first | refine wXD ?_ | exact wZD)
   refine DrawN.planQ [0, 4, 5] [1, 2, 3, 6, 7, 8, 9] [(10, 0)] (by decide +kernel) ?_
   (first | refine wXD ?_ | exact wZD)
   refine ReadW.mapLen (kt := 3) (et := 3) w.cells.length rfl rfl rfl (by kernel_rfl) rfl (fun w hw => hw.2.1) (by rw [← Array.length_toList, ho.c.len, idxR_len]) ?_
   (first | refine wXD ?_ | exact wZD)
   refine EffW.setMap (et := 3) (p := (u : Int)) 2 (idxR w.cells) rfl (by kernel_rfl) intT rfl rfl rfl rfl ho.c fun es2 c2 hk2 => ?_
   rw [idxR_put hm] at hk2
   (first | refine wXD ?_ | exact wZD)
   obtain ⟨w1, hw1⟩ : ∃ w1 : Wr, w1 = { w with cells := w.cells ++ [(u : Int)] } := ⟨_, rfl⟩
   have ho1 : WOk w1 (i, ⟨es2, c2, q.se, q.sc⟩) := by rw [hw1]; exact ⟨ho.b, hk2, ho.s⟩
   have ho1o : w1.out = w.out := by rw [hw1]
   have hlt := free_lt hin hm (t := w.cells ++ [(u : Int)]) (fun x hx => by simp [hx]) (by simp)
   have he : writeC (writeF (l.map (·.c)) n) ⟨4, num0, text, names, items⟩ w (u : Int) = putW (putW w1 [34]) (num text.length ++ text) := by
    rw [writeC_new (by simp) hm, if_pos rfl, hw1]
    unfold putW
    simp
   rw [he, ← ho1o]
   rw [← ho1o] at hlo
   refine callG (WriteString_m (.slice a l.length ca) (GrF a l) mb sb (⟨es2, c2, q.se, q.sc⟩) true (w1.out) ([34]) i ho1.b (by first | omega | (simp; omega))) [0, 1, 2, 3, 4] rfl ⟨rfl, rfl, rfl, rfl, rfl, trivial⟩ rfl fun i2 hi2 => ?_
   (first | refine wXD ?_ | exact wZD)
   refine callG (text_m (.slice a l.length ca) (GrF a l) mb sb (putW w1 [34]) text i2 ⟨es2, c2, q.se, q.sc⟩ ⟨hi2, ho1.c, ho1.s⟩ (by rw [put_len]; simp; omega) (by omega)) [0, 1, 2, 3, 4] rfl ⟨rfl, rfl, rfl, rfl, rfl, trivial⟩ rfl fun x hx => ?_
   (first | refine wXD ?_ | exact wZD)
   exact ⟨x, hx, rfl, wkE_refl _, wkE_refl _, wkE_refl _, wkE_refl _, wkE_refl _, trivial⟩
  ·have hsy := hcw.sym rfl
   simp only at hsy
   rw [writeF_eq, hat]
   refine ownC hm Tryz.func35 (by kernel_rfl) rfl rfl (fun _ _ => wM_ok _ _ _ _ _ _ _ _) (fun _ _ => Nat.le_refl _) ?_
   (first | refine wXD ?_ | exact wZD)
   refine Nd.mk ⟨hsa, by omega, by omega⟩ ?_
   (first | refine wXD ?_ | exact wZD)
   refine LdN.agg [.int .i64 5, .int .i64 num0, .string (bs text), .slice na names.length nc, .slice ia items.length ic] rfl (fun w hw => hw.2.2.2.1.1) rfl (fun k hk => by rw [Int.toNat_natCast]; exact grC_get l u k hk hp) ?_
   (first | refine wXD ?_ | exact wZD)
   have he : writeC (writeF (l.map (·.c)) n) ⟨5, num0, text, names, items⟩ w (u : Int) = symW w text := rfl
   rw [he]
   refine callG (symbol_m (.slice a l.length ca) (GrF a l) mb sb w text i q ho (by omega) (by omega) (by omega)) [0, 1, 2, 3, 4] rfl ⟨rfl, rfl, rfl, rfl, rfl, trivial⟩ rfl fun x hx => ?_
   (first | refine wXD ?_ | exact wZD)
   exact ⟨x, hx, rfl, wkE_refl _, wkE_refl _, wkE_refl _, wkE_refl _, wkE_refl _, trivial⟩
  ·-- 6: the kind
   rw [writeF_eq, hat]
   refine ownC hm Tryz.func35 (by kernel_rfl) rfl rfl (fun _ _ => wM_ok _ _ _ _ _ _ _ _) (fun _ _ => Nat.le_refl _) ?_
   (first | refine wXD ?_ | exact wZD)
   refine Nd.mk ⟨hsa, by omega, by omega⟩ ?_
   (first | refine wXD ?_ | exact wZD)
   refine LdN.agg [.int .i64 6, .int .i64 num0, .string (bs text), .slice na names.length nc, .slice ia items.length ic] rfl (fun w hw => hw.2.2.2.1.1) rfl (fun k hk => by rw [Int.toNat_natCast]; exact grC_get l u k hk hp) ?_
   (first | refine wXD ?_ | exact wZD)
   refine ReadW.askKey (et := 3) (p := (u : Int)) (idxR w.cells) rfl (by kernel_rfl) intT rfl rfl rfl rfl (fun w hw => hw.2.1) ho.c ?_
   rw [idxR_look]
   by_cases hm : (u : Int) ∈ w.cells
   ·have hi := List.idxOf_lt_length_iff.2 hm
    rw [if_pos hm, show writeC (writeF (l.map (·.c)) n) ⟨6, num0, text, names, items⟩ w (u : Int) = putW w (64 :: num (w.cells.idxOf (u : Int))) from writeC_met (by simp) hm]
    generalize w.cells.idxOf (u : Int) = k at hi ⊢
    (first | refine wXD ?_ | exact wZD)
    refine DrawN.planQ [0, 3] [1, 2, 4, 5] [(6, 0)] (by decide +kernel) ?_
    (first | refine wXD ?_ | exact wZD)
    have hnl := num_len (n := k) (by omega)
    refine callQ (wide_c (k) (by omega) _) ?_
    (first | refine wXD ?_ | exact wZD)
    refine Nd.mk (by rw [bs_size]; show 1 + _ < _; omega) ?_
    rw [show (⟨#[64]⟩ : ByteArray) = bs [64] from rfl, bs_app]
    (first | refine wXD ?_ | exact wZD)
    refine callG (WriteString_m (.slice a l.length ca) (GrF a l) mb sb (q) true (w.out) ([64] ++ num k) i ho.b (by first | omega | (simp; omega))) [0, 1, 2, 3, 4] rfl ⟨rfl, rfl, rfl, rfl, rfl, trivial⟩ rfl fun i2 hi2 => ?_
    (first | refine wXD ?_ | exact wZD)
    exact ⟨(i2, q), ⟨hi2, ho.c, ho.s⟩, rfl, wkE_refl _, wkE_refl _, wkE_refl _, wkE_refl _, wkE_refl _, trivial⟩
   rw [if_neg hm]
   (first | refine wXD ?_ | exact wZD)
   refine DrawN.planQ [0, 4, 5] [1, 2, 3, 6, 7, 8, 9] [(10, 0)] (by decide +kernel) ?_
   (first | refine wXD ?_ | exact wZD)
   refine ReadW.mapLen (kt := 3) (et := 3) w.cells.length rfl rfl rfl (by kernel_rfl) rfl (fun w hw => hw.2.1) (by rw [← Array.length_toList, ho.c.len, idxR_len]) ?_
   (first | refine wXD ?_ | exact wZD)
   refine EffW.setMap (et := 3) (p := (u : Int)) 2 (idxR w.cells) rfl (by kernel_rfl) intT rfl rfl rfl rfl ho.c fun es2 c2 hk2 => ?_
   rw [idxR_put hm] at hk2
   (first | refine wXD ?_ | exact wZD)
   obtain ⟨w1, hw1⟩ : ∃ w1 : Wr, w1 = { w with cells := w.cells ++ [(u : Int)] } := ⟨_, rfl⟩
   have ho1 : WOk w1 (i, ⟨es2, c2, q.se, q.sc⟩) := by rw [hw1]; exact ⟨ho.b, hk2, ho.s⟩
   have ho1o : w1.out = w.out := by rw [hw1]
   have hlt := free_lt hin hm (t := w.cells ++ [(u : Int)]) (fun x hx => by simp [hx]) (by simp)
   have hlen := hcw.len
   simp only at hlen
   refine DrawN.planQ [0, 3] [1, 2, 4, 5, 6, 7] [(8, 0)] (by decide +kernel) ?_
   (first | refine wXD ?_ | exact wZD)
   have hnl := num_len (n := items.length) (by omega)
   refine callQ (wide_c (items.length) (by omega) _) ?_
   (first | refine wXD ?_ | exact wZD)
   refine Nd.mk (by rw [bs_size]; show 1 + _ < _; omega) ?_
   rw [show (⟨#[91]⟩ : ByteArray) = bs [91] from rfl, bs_app]
   (first | refine wXD ?_ | exact wZD)
   have he : writeC (writeF (l.map (·.c)) n) ⟨6, num0, text, names, items⟩ w (u : Int) = items.foldl (writeF (l.map (·.c)) n) (putW w1 (91 :: num items.length)) := by
    rw [writeC_new (by simp) hm, if_neg (by simp), if_pos rfl, hw1]
   refine callG (WriteString_m (.slice a l.length ca) (GrF a l) mb sb (⟨es2, c2, q.se, q.sc⟩) true (w.out) ([91] ++ num items.length) i ho.b (by first | omega | (simp; omega))) [0, 1, 2, 3, 4] rfl ⟨rfl, rfl, rfl, rfl, rfl, trivial⟩ rfl fun i2 hi2 => ?_
   (first | refine wXD ?_ | exact wZD)
   obtain ⟨w2, hw2⟩ : ∃ w2 : Wr, w2 = putW w1 (91 :: num items.length) := ⟨_, rfl⟩
   have ho2 : WOk w2 (i2, ⟨es2, c2, q.se, q.sc⟩) := by rw [hw2]; exact ⟨by rw [put_out, ho1o]; exact hi2, ho1.c, ho1.s⟩
   rw [he, ← hw2]
   have hl2 : Lim (items.foldl (writeF (l.map (·.c)) n) w2) := by rw [hw2, ← he]; exact hlim
   have hfr : ∀ k, freeN (l.map (·.c)) ((items.take k).foldl (writeF (l.map (·.c)) n) w2).cells < n := fun k => by
    have h1 := free_mono (g := l.map (·.c)) (gone_fold (gone_write (l.map (·.c)) n) (items.take k) w2).sub
    have h2 : w2.cells = w.cells ++ [(u : Int)] := by rw [hw2, put_cells, hw1]
    rw [h2] at h1
    omega
   refine spec_of_exec Go.Proofs.YtgogonnnojcioaaGreatDoor.hm Tryz.func60 (by kernel_rfl) rfl rfl ?_
   (first | refine wXD ?_ | exact wZD)
   refine LoopN.intro (Nat × BSt × MapP) (fun ⟨k, x⟩ => k ≤ items.length ∧ WOk ((items.take k).foldl (writeF (l.map (·.c)) n) w2) x)
    (fun ⟨k, _⟩ => mkS Tryz.f60.ntmps 0 [(0, .c (.lp 0 0)), (6, .c (.v (.slice ia items.length ic))), (7, .c (.v (.int .i64 (items.length : Int)))), (8, .c (.v (.int .i64 (k : Int))))])
    (fun ⟨k, x⟩ => wM (.slice a l.length ca) (GrF a l) true ((items.take k).foldl (writeF (l.map (·.c)) n) w2).out x.1 mb sb x.2 ++ [.blk 57 [.v (.int .i64 6), .v (.int .i64 num0), .v (.string (bs text)), .v (.slice na names.length nc), .v (.slice ia items.length ic)]]) (fun ⟨k, _⟩ => items.length - k) [] rfl (fun _ => rfl) (fun _ => rfl) (fun _ _ => okHB_eq rfl) ?_ ?_
   ·refine ⟨(0, i2, ⟨es2, c2, q.se, q.sc⟩), ⟨Nat.zero_le _, ho2⟩, ?_, ?_⟩
    ·exact wKK
    ·show wkH _ (wM _ _ true w2.out i2 mb sb ⟨es2, c2, q.se, q.sc⟩ ++ _)
     rw [hw2, put_out, ho1o]
     exact ⟨wkE_refl _, wkE_refl _, wkE_refl _, wkE_refl _, wkE_refl _, wkE_refl _, trivial⟩
   rintro ⟨k, x0⟩ ⟨hk, hx0⟩
   obtain ⟨i3, q3⟩ := x0
   (first | refine wXD ?_ | exact wZD)
   refine brd_dec (fun h1 => ?_) (fun h1 => ?_)
   ·-- an item: what is known of it
    obtain ⟨x, hx⟩ : ∃ z, items[k]? = some z := ⟨_, List.getElem?_eq_getElem (by omega)⟩
    have hxi := houts x (List.mem_of_getElem? hx)
    obtain ⟨xn, rfl⟩ : ∃ xn : Nat, x = (xn : Int) := ⟨x.toNat, by have := hxi.1; omega⟩
    have hxl : xn < l.length := by have := hxi.2; simp only [List.length_map] at this; omega
    have hxa : ia.isSome = true := by
     cases ia with
     | none => have h0 : items = [] := hpo.ia rfl; rw [h0] at hx; cases hx
     | some b => rfl
    (first | refine wXD ?_ | exact wZD)
    refine Nd.mk ⟨hxa, by omega, by omega⟩ ?_
    (first | refine wXD ?_ | exact wZD)
    refine LdN.one (.int .i64 (xn : Int)) rfl (fun w hw => (hw.2.2.2.1.2 _ hpm).2) (by rw [Int.toNat_natCast]; show (iC items)[k * 1]? = _; rw [Nat.mul_one]; exact iC_get hx) ?_
    (first | refine wXD ?_ | exact wZD)
    have hnx := fold_next (f := writeF (l.map (·.c)) n) (b := w2) hx
    refine callG (ih ((items.take k).foldl (writeF (l.map (·.c)) n) w2) i3 q3 xn hxl (hfr k) hx0 (by rw [← hnx]; exact fold_lim (gone_write _ n) hl2 (k + 1))) [0, 1, 2, 3, 4] rfl ⟨rfl, rfl, rfl, rfl, rfl, trivial⟩ rfl fun y hy => ?_
    rw [← hnx] at hy ⊢
    (first | refine wXD ?_ | exact wZD)
    refine ⟨(k + 1, y), ⟨by omega, hy⟩, by show items.length - (k + 1) < items.length - k; omega, ?_, wkE_refl _, wkE_refl _, wkE_refl _, wkE_refl _, wkE_refl _, wkE_refl _, trivial⟩
    exact wKK
   ·obtain rfl : k = items.length := by omega
    rw [List.take_length] at hx0 ⊢
    (first | refine wXD ?_ | exact wZD)
    exact ⟨(i3, q3), hx0, rfl, wkE_refl _, wkE_refl _, wkE_refl _, wkE_refl _, wkE_refl _, trivial⟩
  ·-- 7: the kind
   rw [writeF_eq, hat]
   refine ownC hm Tryz.func35 (by kernel_rfl) rfl rfl (fun _ _ => wM_ok _ _ _ _ _ _ _ _) (fun _ _ => Nat.le_refl _) ?_
   (first | refine wXD ?_ | exact wZD)
   refine Nd.mk ⟨hsa, by omega, by omega⟩ ?_
   (first | refine wXD ?_ | exact wZD)
   refine LdN.agg [.int .i64 7, .int .i64 num0, .string (bs text), .slice na names.length nc, .slice ia items.length ic] rfl (fun w hw => hw.2.2.2.1.1) rfl (fun k hk => by rw [Int.toNat_natCast]; exact grC_get l u k hk hp) ?_
   (first | refine wXD ?_ | exact wZD)
   refine ReadW.askKey (et := 3) (p := (u : Int)) (idxR w.cells) rfl (by kernel_rfl) intT rfl rfl rfl rfl (fun w hw => hw.2.1) ho.c ?_
   rw [idxR_look]
   by_cases hm : (u : Int) ∈ w.cells
   ·have hi := List.idxOf_lt_length_iff.2 hm
    rw [if_pos hm, show writeC (writeF (l.map (·.c)) n) ⟨7, num0, text, names, items⟩ w (u : Int) = putW w (64 :: num (w.cells.idxOf (u : Int))) from writeC_met (by simp) hm]
    generalize w.cells.idxOf (u : Int) = k at hi ⊢
    (first | refine wXD ?_ | exact wZD)
    refine DrawN.planQ [0, 3] [1, 2, 4, 5] [(6, 0)] (by decide +kernel) ?_
    (first | refine wXD ?_ | exact wZD)
    have hnl := num_len (n := k) (by omega)
    refine callQ (wide_c (k) (by omega) _) ?_
    (first | refine wXD ?_ | exact wZD)
    refine Nd.mk (by rw [bs_size]; show 1 + _ < _; omega) ?_
    rw [show (⟨#[64]⟩ : ByteArray) = bs [64] from rfl, bs_app]
    (first | refine wXD ?_ | exact wZD)
    refine callG (WriteString_m (.slice a l.length ca) (GrF a l) mb sb (q) true (w.out) ([64] ++ num k) i ho.b (by first | omega | (simp; omega))) [0, 1, 2, 3, 4] rfl ⟨rfl, rfl, rfl, rfl, rfl, trivial⟩ rfl fun i2 hi2 => ?_
    (first | refine wXD ?_ | exact wZD)
    exact ⟨(i2, q), ⟨hi2, ho.c, ho.s⟩, rfl, wkE_refl _, wkE_refl _, wkE_refl _, wkE_refl _, wkE_refl _, trivial⟩
   rw [if_neg hm]
   (first | refine wXD ?_ | exact wZD)
   refine DrawN.planQ [0, 4, 5] [1, 2, 3, 6, 7, 8, 9] [(10, 0)] (by decide +kernel) ?_
   (first | refine wXD ?_ | exact wZD)
   refine ReadW.mapLen (kt := 3) (et := 3) w.cells.length rfl rfl rfl (by kernel_rfl) rfl (fun w hw => hw.2.1) (by rw [← Array.length_toList, ho.c.len, idxR_len]) ?_
   (first | refine wXD ?_ | exact wZD)
   refine EffW.setMap (et := 3) (p := (u : Int)) 2 (idxR w.cells) rfl (by kernel_rfl) intT rfl rfl rfl rfl ho.c fun es2 c2 hk2 => ?_
   rw [idxR_put hm] at hk2
   (first | refine wXD ?_ | exact wZD)
   obtain ⟨w1, hw1⟩ : ∃ w1 : Wr, w1 = { w with cells := w.cells ++ [(u : Int)] } := ⟨_, rfl⟩
   have ho1 : WOk w1 (i, ⟨es2, c2, q.se, q.sc⟩) := by rw [hw1]; exact ⟨ho.b, hk2, ho.s⟩
   have ho1o : w1.out = w.out := by rw [hw1]
   have hlt := free_lt hin hm (t := w.cells ++ [(u : Int)]) (fun x hx => by simp [hx]) (by simp)
   have hlen := hcw.len
   simp only at hlen
   refine DrawN.planQ [0, 3] [1, 2, 4, 5, 6, 7, 8] [(9, 0)] (by decide +kernel) ?_
   (first | refine wXD ?_ | exact wZD)
   rw [show ((items.length : Int)).tdiv 2 = ((items.length / 2 : Nat) : Int) from (Int.ofNat_tdiv _ _).symm]
   try rw [wrap_i64 (x := ((items.length / 2 : Nat) : Int)) (by omega)]
   have hnl := num_len (n := items.length / 2) (by omega)
   refine callQ (wide_c (items.length / 2) (by omega) _) ?_
   (first | refine wXD ?_ | exact wZD)
   refine Nd.mk (by rw [bs_size]; show 1 + _ < _; omega) ?_
   rw [show (⟨#[123]⟩ : ByteArray) = bs [123] from rfl, bs_app]
   (first | refine wXD ?_ | exact wZD)
   have he : writeC (writeF (l.map (·.c)) n) ⟨7, num0, text, names, items⟩ w (u : Int) = items.foldl (writeF (l.map (·.c)) n) (putW w1 (123 :: num (items.length / 2))) := by
    rw [writeC_new (by simp) hm, if_neg (by simp), if_neg (by simp), if_pos rfl, hw1]
   refine callG (WriteString_m (.slice a l.length ca) (GrF a l) mb sb (⟨es2, c2, q.se, q.sc⟩) true (w.out) ([123] ++ num (items.length / 2)) i ho.b (by first | omega | (simp; omega))) [0, 1, 2, 3, 4] rfl ⟨rfl, rfl, rfl, rfl, rfl, trivial⟩ rfl fun i2 hi2 => ?_
   (first | refine wXD ?_ | exact wZD)
   obtain ⟨w2, hw2⟩ : ∃ w2 : Wr, w2 = putW w1 (123 :: num (items.length / 2)) := ⟨_, rfl⟩
   have ho2 : WOk w2 (i2, ⟨es2, c2, q.se, q.sc⟩) := by rw [hw2]; exact ⟨by rw [put_out, ho1o]; exact hi2, ho1.c, ho1.s⟩
   rw [he, ← hw2]
   have hl2 : Lim (items.foldl (writeF (l.map (·.c)) n) w2) := by rw [hw2, ← he]; exact hlim
   have hfr : ∀ k, freeN (l.map (·.c)) ((items.take k).foldl (writeF (l.map (·.c)) n) w2).cells < n := fun k => by
    have h1 := free_mono (g := l.map (·.c)) (gone_fold (gone_write (l.map (·.c)) n) (items.take k) w2).sub
    have h2 : w2.cells = w.cells ++ [(u : Int)] := by rw [hw2, put_cells, hw1]
    rw [h2] at h1
    omega
   refine spec_of_exec Go.Proofs.YtgogonnnojcioaaGreatDoor.hm Tryz.func60 (by kernel_rfl) rfl rfl ?_
   (first | refine wXD ?_ | exact wZD)
   refine LoopN.intro (Nat × BSt × MapP) (fun ⟨k, x⟩ => k ≤ items.length ∧ WOk ((items.take k).foldl (writeF (l.map (·.c)) n) w2) x)
    (fun ⟨k, _⟩ => mkS Tryz.f60.ntmps 0 [(0, .c (.lp 0 0)), (6, .c (.v (.slice ia items.length ic))), (7, .c (.v (.int .i64 (items.length : Int)))), (8, .c (.v (.int .i64 (k : Int))))])
    (fun ⟨k, x⟩ => wM (.slice a l.length ca) (GrF a l) true ((items.take k).foldl (writeF (l.map (·.c)) n) w2).out x.1 mb sb x.2 ++ [.blk 57 [.v (.int .i64 7), .v (.int .i64 num0), .v (.string (bs text)), .v (.slice na names.length nc), .v (.slice ia items.length ic)]]) (fun ⟨k, _⟩ => items.length - k) [] rfl (fun _ => rfl) (fun _ => rfl) (fun _ _ => okHB_eq rfl) ?_ ?_
   ·refine ⟨(0, i2, ⟨es2, c2, q.se, q.sc⟩), ⟨Nat.zero_le _, ho2⟩, ?_, ?_⟩
    ·exact wKK
    ·show wkH _ (wM _ _ true w2.out i2 mb sb ⟨es2, c2, q.se, q.sc⟩ ++ _)
     rw [hw2, put_out, ho1o]
     exact ⟨wkE_refl _, wkE_refl _, wkE_refl _, wkE_refl _, wkE_refl _, wkE_refl _, trivial⟩
   rintro ⟨k, x0⟩ ⟨hk, hx0⟩
   obtain ⟨i3, q3⟩ := x0
   (first | refine wXD ?_ | exact wZD)
   refine brd_dec (fun h1 => ?_) (fun h1 => ?_)
   ·-- an item: what is known of it
    obtain ⟨x, hx⟩ : ∃ z, items[k]? = some z := ⟨_, List.getElem?_eq_getElem (by omega)⟩
    have hxi := houts x (List.mem_of_getElem? hx)
    obtain ⟨xn, rfl⟩ : ∃ xn : Nat, x = (xn : Int) := ⟨x.toNat, by have := hxi.1; omega⟩
    have hxl : xn < l.length := by have := hxi.2; simp only [List.length_map] at this; omega
    have hxa : ia.isSome = true := by
     cases ia with
     | none => have h0 : items = [] := hpo.ia rfl; rw [h0] at hx; cases hx
     | some b => rfl
    (first | refine wXD ?_ | exact wZD)
    refine Nd.mk ⟨hxa, by omega, by omega⟩ ?_
    (first | refine wXD ?_ | exact wZD)
    refine LdN.one (.int .i64 (xn : Int)) rfl (fun w hw => (hw.2.2.2.1.2 _ hpm).2) (by rw [Int.toNat_natCast]; show (iC items)[k * 1]? = _; rw [Nat.mul_one]; exact iC_get hx) ?_
    (first | refine wXD ?_ | exact wZD)
    have hnx := fold_next (f := writeF (l.map (·.c)) n) (b := w2) hx
    refine callG (ih ((items.take k).foldl (writeF (l.map (·.c)) n) w2) i3 q3 xn hxl (hfr k) hx0 (by rw [← hnx]; exact fold_lim (gone_write _ n) hl2 (k + 1))) [0, 1, 2, 3, 4] rfl ⟨rfl, rfl, rfl, rfl, rfl, trivial⟩ rfl fun y hy => ?_
    rw [← hnx] at hy ⊢
    (first | refine wXD ?_ | exact wZD)
    refine ⟨(k + 1, y), ⟨by omega, hy⟩, by show items.length - (k + 1) < items.length - k; omega, ?_, wkE_refl _, wkE_refl _, wkE_refl _, wkE_refl _, wkE_refl _, wkE_refl _, trivial⟩
    exact wKK
   ·obtain rfl : k = items.length := by omega
    rw [List.take_length] at hx0 ⊢
    (first | refine wXD ?_ | exact wZD)
    exact ⟨(i3, q3), hx0, rfl, wkE_refl _, wkE_refl _, wkE_refl _, wkE_refl _, wkE_refl _, trivial⟩
  ·-- 8: the kind
   rw [writeF_eq, hat]
   refine ownC hm Tryz.func35 (by kernel_rfl) rfl rfl (fun _ _ => wM_ok _ _ _ _ _ _ _ _) (fun _ _ => Nat.le_refl _) ?_
   (first | refine wXD ?_ | exact wZD)
   refine Nd.mk ⟨hsa, by omega, by omega⟩ ?_
   (first | refine wXD ?_ | exact wZD)
   refine LdN.agg [.int .i64 8, .int .i64 num0, .string (bs text), .slice na names.length nc, .slice ia items.length ic] rfl (fun w hw => hw.2.2.2.1.1) rfl (fun k hk => by rw [Int.toNat_natCast]; exact grC_get l u k hk hp) ?_
   (first | refine wXD ?_ | exact wZD)
   refine ReadW.askKey (et := 3) (p := (u : Int)) (idxR w.cells) rfl (by kernel_rfl) intT rfl rfl rfl rfl (fun w hw => hw.2.1) ho.c ?_
   rw [idxR_look]
   by_cases hm : (u : Int) ∈ w.cells
   ·have hi := List.idxOf_lt_length_iff.2 hm
    rw [if_pos hm, show writeC (writeF (l.map (·.c)) n) ⟨8, num0, text, names, items⟩ w (u : Int) = putW w (64 :: num (w.cells.idxOf (u : Int))) from writeC_met (by simp) hm]
    generalize w.cells.idxOf (u : Int) = k at hi ⊢
    (first | refine wXD ?_ | exact wZD)
    refine DrawN.planQ [0, 3] [1, 2, 4, 5] [(6, 0)] (by decide +kernel) ?_
    (first | refine wXD ?_ | exact wZD)
    have hnl := num_len (n := k) (by omega)
    refine callQ (wide_c (k) (by omega) _) ?_
    (first | refine wXD ?_ | exact wZD)
    refine Nd.mk (by rw [bs_size]; show 1 + _ < _; omega) ?_
    rw [show (⟨#[64]⟩ : ByteArray) = bs [64] from rfl, bs_app]
    (first | refine wXD ?_ | exact wZD)
    refine callG (WriteString_m (.slice a l.length ca) (GrF a l) mb sb (q) true (w.out) ([64] ++ num k) i ho.b (by first | omega | (simp; omega))) [0, 1, 2, 3, 4] rfl ⟨rfl, rfl, rfl, rfl, rfl, trivial⟩ rfl fun i2 hi2 => ?_
    (first | refine wXD ?_ | exact wZD)
    exact ⟨(i2, q), ⟨hi2, ho.c, ho.s⟩, rfl, wkE_refl _, wkE_refl _, wkE_refl _, wkE_refl _, wkE_refl _, trivial⟩
   rw [if_neg hm]
   (first | refine wXD ?_ | exact wZD)
   refine DrawN.planQ [0, 4, 5] [1, 2, 3, 6, 7, 8, 9] [(10, 0)] (by decide +kernel) ?_
   (first | refine wXD ?_ | exact wZD)
   refine ReadW.mapLen (kt := 3) (et := 3) w.cells.length rfl rfl rfl (by kernel_rfl) rfl (fun w hw => hw.2.1) (by rw [← Array.length_toList, ho.c.len, idxR_len]) ?_
   (first | refine wXD ?_ | exact wZD)
   refine EffW.setMap (et := 3) (p := (u : Int)) 2 (idxR w.cells) rfl (by kernel_rfl) intT rfl rfl rfl rfl ho.c fun es2 c2 hk2 => ?_
   rw [idxR_put hm] at hk2
   (first | refine wXD ?_ | exact wZD)
   obtain ⟨w1, hw1⟩ : ∃ w1 : Wr, w1 = { w with cells := w.cells ++ [(u : Int)] } := ⟨_, rfl⟩
   have ho1 : WOk w1 (i, ⟨es2, c2, q.se, q.sc⟩) := by rw [hw1]; exact ⟨ho.b, hk2, ho.s⟩
   have ho1o : w1.out = w.out := by rw [hw1]
   have hlt := free_lt hin hm (t := w.cells ++ [(u : Int)]) (fun x hx => by simp [hx]) (by simp)
   have hlen := hcw.len
   have hcls := (hcw.cls rfl).2
   have hns := hcw.lens rfl
   have hnam := hcw.nam
   simp only at hlen hcls hns hnam
   have he : writeC (writeF (l.map (·.c)) n) ⟨8, num0, text, names, items⟩ w (u : Int) = (names.zip items).foldl (pairW (l.map (·.c)) n) (putW (symW (putW w1 [111]) text) (num names.length)) := by
    rw [writeC_new (by simp) hm, if_neg (by simp), if_neg (by simp), if_neg (by simp), hw1]
    rfl
   rw [he]
   have hl2 : Lim ((names.zip items).foldl (pairW (l.map (·.c)) n) (putW (symW (putW w1 [111]) text) (num names.length))) := by rw [← he]; exact hlim
   have hl1 := (gone_fold (gone_pair (l.map (·.c)) n) _ _).lim hl2
   have hl0 := (gone_put _ _).lim hl1
   rw [← ho1o]
   rw [← ho1o] at hlo
   refine callG (WriteString_m (.slice a l.length ca) (GrF a l) mb sb (⟨es2, c2, q.se, q.sc⟩) true (w1.out) ([111]) i ho1.b (by first | omega | (simp; omega))) [0, 1, 2, 3, 4] rfl ⟨rfl, rfl, rfl, rfl, rfl, trivial⟩ rfl fun i2 hi2 => ?_
   (first | refine wXD ?_ | exact wZD)
   refine callG (symbol_m (.slice a l.length ca) (GrF a l) mb sb (putW w1 [111]) text i2 ⟨es2, c2, q.se, q.sc⟩ ⟨hi2, ho1.c, ho1.s⟩ (by have := ((gone_sym _ _).lim hl0).o; omega) (by omega) (by have := ((gone_sym _ _).lim hl0).s; omega)) [0, 1, 2, 3, 4] rfl ⟨rfl, rfl, rfl, rfl, rfl, trivial⟩ rfl fun x hx => ?_
   obtain ⟨i4, q4⟩ := x
   (first | refine wXD ?_ | exact wZD)
   obtain ⟨w4, hw4⟩ : ∃ w4, w4 = symW (putW w1 [111]) text := ⟨_, rfl⟩
   rw [← hw4] at hx hl2 hl1 hl0 ⊢
   have hl0o := hl0.o
   refine DrawN.planQ [0, 3] [1, 2, 4, 5, 6] [(7, 0)] (by decide +kernel) ?_
   (first | refine wXD ?_ | exact wZD)
   have hnl := num_len (n := names.length) (by omega)
   refine callQ (wide_c names.length (by omega) _) ?_
   (first | refine wXD ?_ | exact wZD)
   refine callG (WriteString_m (.slice a l.length ca) (GrF a l) mb sb (q4) true (w4.out) (num names.length) i4 hx.b (by first | omega | (simp; omega))) [0, 1, 2, 3, 4] rfl ⟨rfl, rfl, rfl, rfl, rfl, trivial⟩ rfl fun i2 hi2 => ?_
   (first | refine wXD ?_ | exact wZD)
   obtain ⟨w5, hw5⟩ : ∃ w5, w5 = putW w4 (num names.length) := ⟨_, rfl⟩
   have ho5 : WOk w5 (i2, q4) := by rw [hw5]; exact ⟨hi2, hx.c, hx.s⟩
   have hl5 : Lim ((names.zip items).foldl (pairW (l.map (·.c)) n) w5) := by rw [hw5]; exact hl2
   rw [← hw5]
   have hfr : ∀ k, freeN (l.map (·.c)) (((names.zip items).take k).foldl (pairW (l.map (·.c)) n) w5).cells < n := fun k => by
    have h1 := free_mono (g := l.map (·.c)) (gone_fold (gone_pair (l.map (·.c)) n) ((names.zip items).take k) w5).sub
    have h2 : w5.cells = w.cells ++ [(u : Int)] := by rw [hw5, put_cells, hw4, sym_cells, put_cells, hw1]
    rw [h2] at h1
    omega
   have hzl : (names.zip items).length = names.length := by rw [List.length_zip]; omega
   refine LoopN.intro (Nat × BSt × MapP) (fun ⟨k, x⟩ => k ≤ names.length ∧ WOk (((names.zip items).take k).foldl (pairW (l.map (·.c)) n) w5) x)
    (fun ⟨k, _⟩ => mkS Tryz.f35.ntmps 0 [(0, .c (.lp 0 0)), (4, .c (.lp 5 0)), (144, .c (.v (.slice na names.length nc))), (145, .c (.v (.int .i64 (names.length : Int)))), (146, .c (.v (.int .i64 (k : Int))))])
    (fun ⟨k, x⟩ => wM (.slice a l.length ca) (GrF a l) true (((names.zip items).take k).foldl (pairW (l.map (·.c)) n) w5).out x.1 mb sb x.2 ++ [.blk 57 [.v (.int .i64 8), .v (.int .i64 num0), .v (.string (bs text)), .v (.slice na names.length nc), .v (.slice ia items.length ic)]]) (fun ⟨k, _⟩ => names.length - k) [] rfl (fun _ => rfl) (fun _ => rfl) (fun _ _ => okHB_eq rfl) ?_ ?_
   ·refine ⟨(0, i2, q4), ⟨Nat.zero_le _, ho5⟩, ?_, ?_⟩
    ·exact wKK
    ·show wkH _ (wM _ _ true w5.out i2 mb sb q4 ++ _)
     rw [hw5, put_out]
     exact ⟨wkE_refl _, wkE_refl _, wkE_refl _, wkE_refl _, wkE_refl _, wkE_refl _, trivial⟩
   rintro ⟨k, x0⟩ ⟨hk, hx0⟩
   obtain ⟨i3, q3⟩ := x0
   (first | refine wXD ?_ | exact wZD)
   refine brd_dec (fun h1 => ?_) (fun h1 => ?_)
   ·-- an item: what is known of it
    obtain ⟨x, hx⟩ : ∃ z, items[k]? = some z := ⟨_, List.getElem?_eq_getElem (by omega)⟩
    have hxi := houts x (List.mem_of_getElem? hx)
    obtain ⟨xn, rfl⟩ : ∃ xn : Nat, x = (xn : Int) := ⟨x.toNat, by have := hxi.1; omega⟩
    have hxl : xn < l.length := by have := hxi.2; simp only [List.length_map] at this; omega
    have hxa : ia.isSome = true := by
     cases ia with
     | none => have h0 : items = [] := hpo.ia rfl; rw [h0] at hx; cases hx
     | some b => rfl
    obtain ⟨nm, hnm⟩ : ∃ z, names[k]? = some z := ⟨_, List.getElem?_eq_getElem (by omega)⟩
    have hnma : na.isSome = true := by
     cases na with
     | none => have h0 : names = [] := hpo.na rfl; rw [h0] at hnm; cases hnm
     | some b => rfl
    have hn40 := (hnam nm (List.mem_of_getElem? hnm)).2
    have hz : (names.zip items)[k]? = some (nm, (xn : Int)) := List.getElem?_zip_eq_some.2 ⟨hnm, hx⟩
    have hnx := fold_next (f := pairW (l.map (·.c)) n) (b := w5) hz
    have hl6 := fold_lim (gone_pair (l.map (·.c)) n) hl5 (k + 1)
    have hfk := hfr k
    obtain ⟨wk, hwk⟩ : ∃ w : Wr, w = ((names.zip items).take k).foldl (pairW (l.map (·.c)) n) w5 := ⟨_, rfl⟩
    rw [hnx] at hl6
    rw [← hwk] at hnx hl6 hfk hx0 ⊢
    have hl6b : Lim (writeF (l.map (·.c)) n (symW wk nm) (xn : Int)) := hl6
    have hl7 : Lim (symW wk nm) := (gone_write _ n _ _).lim hl6b
    have hl8 := (gone_sym _ _).lim hl7
    (first | refine wXD ?_ | exact wZD)
    refine Nd.mk ⟨hnma, by omega, by omega⟩ ?_
    (first | refine wXD ?_ | exact wZD)
    refine LdN.one (.string (bs nm)) rfl (fun w hw => (hw.2.2.2.1.2 _ hpm).1) (by rw [Int.toNat_natCast]; show (strC names)[k * 1]? = _; rw [Nat.mul_one]; exact strC_get hnm) ?_
    (first | refine wXD ?_ | exact wZD)
    refine callG (symbol_m (.slice a l.length ca) (GrF a l) mb sb wk nm i3 q3 hx0 (by have := hl8.o; omega) (by omega) (by have := hl8.s; omega)) [0, 1, 2, 3, 4] rfl ⟨rfl, rfl, rfl, rfl, rfl, trivial⟩ rfl fun y hy => ?_
    obtain ⟨i6, q6⟩ := y
    (first | refine wXD ?_ | exact wZD)
    refine Nd.mk ⟨hxa, by omega, by omega⟩ ?_
    (first | refine wXD ?_ | exact wZD)
    refine LdN.one (.int .i64 (xn : Int)) rfl (fun w hw => (hw.2.2.2.1.2 _ hpm).2) (by rw [Int.toNat_natCast]; show (iC items)[k * 1]? = _; rw [Nat.mul_one]; exact iC_get hx) ?_
    (first | refine wXD ?_ | exact wZD)
    refine callG (ih (symW wk nm) i6 q6 xn hxl (by rw [sym_cells]; exact hfk) hy hl6b) [0, 1, 2, 3, 4] rfl ⟨rfl, rfl, rfl, rfl, rfl, trivial⟩ rfl fun z hz2 => ?_
    have hnx2 : writeF (l.map (·.c)) n (symW wk nm) (xn : Int) = ((names.zip items).take (k + 1)).foldl (pairW (l.map (·.c)) n) w5 := hnx.symm
    rw [hnx2] at hz2 ⊢
    (first | refine wXD ?_ | exact wZD)
    refine ⟨(k + 1, z), ⟨by omega, hz2⟩, by show names.length - (k + 1) < names.length - k; omega, ?_, wkE_refl _, wkE_refl _, wkE_refl _, wkE_refl _, wkE_refl _, wkE_refl _, trivial⟩
    exact wKK
   ·obtain rfl : k = names.length := by omega
    rw [← hzl, List.take_length] at hx0
    rw [show (names.zip items).take names.length = names.zip items by rw [← hzl, List.take_length]]
    (first | refine wXD ?_ | exact wZD)
    exact ⟨(i3, q3), hx0, rfl, wkE_refl _, wkE_refl _, wkE_refl _, wkE_refl _, wkE_refl _, trivial⟩
end Go.Proofs.YtgogonnnojcioaaGreatDoor

/-
 Contracts: Dump and Size (marshal).
-/
namespace Go.Marshal
open Go.Core
theorem dmp_of {g : List Cell} (hv : ValidP g) (hs : ∀ c ∈ g, c.items.length ≤ 2000 ∧ c.names.length ≤ 2000) {k : Int} (hk : InI g k) : Dmp g 2030 k :=
 ⟨hv, fun c hc => ⟨(hs c hc).1, (hs c hc).2, by have := cellD_text (hv.2.1 c hc); omega⟩, hk⟩
theorem Dmp.lim {g : List Cell} {k : Int} (h : Dmp g 2030 k) : Lim (doneW g k) := by
 have h500 := h.valid.1
 have hin := valid_in h.valid
 have h1 := write_ss hin h.cellW (g.length + 1) ⟨headB, [], []⟩ k h.at_
 have h2 := h.wle
 have h3 := cells_few h500 h.kn.nodup h.kn.inI
 have h4 := write_len hin h.cellW (by decide) (g.length + 1) ⟨headB, [], []⟩ k h.at_ h.few
 have h5 : wgt iN g [] ≤ g.length * 4000 := wgt_le (fun i hi => by
  have := h.small _ (at_mem hi)
  unfold iN
  omega) []
 have e1 : (⟨headB, [], []⟩ : Wr).ss.length = 0 := rfl
 have e2 : (⟨headB, [], []⟩ : Wr).cells = [] := rfl
 have e3 : (⟨headB, [], []⟩ : Wr).out.length = 3 := rfl
 rw [e1, e2] at h1
 rw [e2, e3] at h4
 refine ⟨?_, ?_, ?_⟩
 ·unfold doneW; omega
 ·unfold doneW; omega
 ·omega
end Go.Marshal
namespace Go.Proofs.YtgogonnnojcioaaGreatDoor
open Go.AX Go.RowKit Go.Core Go.Marshal
set_option maxRecDepth 20000

theorem small_c {l : List CellP} (hs : Small l) : ∀ c ∈ l.map (·.c), c.items.length ≤ 2000 ∧ c.names.length ≤ 2000 := fun c hc => by
 obtain ⟨p, hp, rfl⟩ := List.mem_map.1 hc
 exact ⟨(hs.2 p hp).2, (hs.2 p hp).1⟩
set_option maxHeartbeats 4000000 in
theorem Dump_c {a : Option Addr} (ca : Nat) {l : List CellP} (ha : a = none → l = []) (hs : Small l) (hok : ∀ p ∈ l, CellOk p) (u : Int) :
  ∃ e : Bool, (e = true ↔ AskP (l.map (·.c)) [u]) ∧ ∀ H, (∀ w, Facts H w → GrF a l w) → SpecH Tryz.prog 14 (pvs [.slice a l.length ca, .int .i64 u]) H (Ret (.tuple #[.string (bs (if e then dumpS (l.map (·.c)) u else [])), errI e]) H) := by
 obtain ⟨e, he, hr⟩ := Reach_c ca ha hs hok u
 refine ⟨e, he, ?_⟩
 refine factC hm Tryz.func14 (by kernel_rfl) rfl rfl ?_
 (first | refine wXD ?_ | exact wZD)
 refine SpecF.call hr (fun w hw => hw.1) fun v G hv => ?_
 obtain ⟨oa, oc, rfl, hoa, hG⟩ := hv
 cases e with
 | false =>
  (first | refine wXD ?_ | exact wZD)
  rfl
 | true =>
  have hask := he.1 rfl
  have hin := valid_in hask.1
  have hu := hask.2 u (by simp)
  have hd := dmp_of hask.1 (small_c hs) hu
  obtain ⟨v, rfl⟩ : ∃ v : Nat, u = (v : Int) := ⟨u.toNat, by omega⟩
  have hgl : (l.map (·.c)).length = l.length := by simp
  (first | refine wXD ?_ | exact wZD)
  refine EffW.mkMap rfl fun mb => ?_
  (first | refine wXD ?_ | exact wZD)
  refine EffW.mkMap rfl fun sb => ?_
  (first | refine wXD ?_ | exact wZD)
  refine SpecH.pad [.app 5 1 [] none 0 0] rfl ?_
  have hok0 : BSt.ok (0 : Nat) ⟨none, 0⟩ := ⟨fun _ => ⟨rfl, rfl⟩, Nat.le_refl _, fun _ => rfl⟩
  refine callG (WriteString_m (.slice a l.length ca) (GrF a l) mb sb ⟨#[], 0, #[], 0⟩ false [] headB ⟨none, 0⟩ hok0 (by decide)) [4, 5, 2, 3, 0] rfl ⟨rfl, rfl, rfl, rfl, rfl, trivial⟩ rfl fun i2 hi2 => ?_
  (first | refine wXD ?_ | exact wZD)
  have hlim := hd.lim
  have hdl : doneW (l.map (·.c)) (v : Int) = writeF (l.map (·.c)) (l.length + 1) ⟨headB, [], []⟩ (v : Int) := by unfold doneW; rw [hgl]
  have hds : dumpS (l.map (·.c)) (v : Int) = (writeF (l.map (·.c)) (l.length + 1) ⟨headB, [], []⟩ (v : Int)).out := by rw [← hdl]; rfl
  rw [hdl] at hlim
  refine callG (cell_m ca ha hok hin hd.cellW hs.1 mb sb (l.length + 1) ⟨headB, [], []⟩ i2 ⟨#[], 0, #[], 0⟩ v (by omega) (by have := free_le (l.map (·.c)) []; show freeN _ [] < _; omega) ⟨hi2, rfl, rfl⟩ hlim) [4, 5, 2, 3, 0] rfl ⟨rfl, rfl, rfl, rfl, rfl, trivial⟩ rfl fun x hx => ?_
  rw [hds]
  generalize writeF (l.map (·.c)) (l.length + 1) ⟨headB, [], []⟩ (v : Int) = W at hx hlim ⊢
  (first | refine wXD ?_ | exact wZD)
  refine callG (String_m (.slice a l.length ca) (GrF a l) mb sb x.2 true W.out x.1 hx.b) [4, 5, 2, 3, 0] rfl ⟨rfl, rfl, rfl, rfl, rfl, trivial⟩ rfl fun _ _ => ?_
  (first | refine wXD ?_ | exact wZD)
  rfl
end Go.Proofs.YtgogonnnojcioaaGreatDoor

/-
 Contract: Deep (program).
-/
namespace Go.Proofs.YtgogonnnojcioaaGreatDoor
open Go.AX Go.RowKit Go.Core Go.Marshal
set_option maxRecDepth 20000

theorem Deep_c {a : Option Addr} (ca : Nat) {l : List CellP} (ha : a = none → l = []) (hs : Small l) (hok : ∀ p ∈ l, CellOk p) (u : Int) :
  ∃ e : Bool, (e = true ↔ AskP (l.map (·.c)) [u]) ∧ SpecF Tryz.prog 25 [.slice a l.length ca, .int .i64 u] (GrF a l) (LoadR (if e then loadS (dumpS (l.map (·.c)) u) else .error 1)) := by
 obtain ⟨e, he, hes⟩ := Dump_c ca ha hs hok u
 refine ⟨e, he, ?_⟩
 refine specF hm Tryz.func25 (by kernel_rfl) rfl rfl ?_
 cases e with
 | true =>
  (first | refine wX ?_ | exact wZ)
  refine call1 (hes _ (fun w hw => hw.1)) ?_
  ((conv => whnf); (repeat ((first | refine VrN.keep ?_ | refine BoxN.own ?_ | refine RwN.own ?_); (conv => whnf))))
  refine SpecF.call (Load_c (dumpS (l.map (·.c)) u)) (fun w _ => trivial) fun v G hR => ?_
  rw [show (if true = true then loadS (dumpS (l.map (·.c)) u) else .error 1) = loadS (dumpS (l.map (·.c)) u) from rfl]
  generalize loadS (dumpS (l.map (·.c)) u) = r at hR ⊢
  cases r with
  | error e =>
   have hR : v = .tuple #[.slice none 0 0, .int .i64 e] := hR
   subst hR
   (first | refine wX ?_ | exact wZ)
   exact fin_v rfl
  | ok p =>
   obtain ⟨g, ss⟩ := p
   obtain ⟨v1, rfl, hg⟩ : ∃ v1, v = .tuple #[v1, .int .i64 0] ∧ GraphR g v1 G := hR
   obtain ⟨a2, c2, m, rfl, h1, h2, h3, h4⟩ := hg
   (first | refine wX ?_ | exact wZ)
   exact fin_p G ⟨_, rfl, a2, c2, m, rfl, h1, h2, h3, h4⟩ (fun w hw => hw.2.1)
 | false =>
  (first | refine wX ?_ | exact wZ)
  refine call1 (hes _ (fun w hw => hw.1)) ?_
  (first | refine wX ?_ | exact wZ)
  exact fin_v rfl
end Go.Proofs.YtgogonnnojcioaaGreatDoor

/-
 Contracts: numbers and texts of the marshal bytes (document).
-/
namespace Go.Proofs.YtgogonnnojcioaaGreatDoor
open Go.AX Go.RowKit Go.Core Go.Marshal
set_option maxRecDepth 20000

end Go.Proofs.YtgogonnnojcioaaGreatDoor

/-
 Contracts: the document's writer: symbols (marshal).
-/
namespace Go.Marshal
open Go.Core
end Go.Marshal
namespace Go.Proofs.YtgogonnnojcioaaGreatDoor
open Go.AX Go.RowKit Go.Core Go.Marshal
set_option maxRecDepth 20000

variable (gv : Value) (F : World → Prop)
end Go.Proofs.YtgogonnnojcioaaGreatDoor

/-
 Contract: the document's writer writes a cell (marshal).
-/
namespace Go.Proofs.YtgogonnnojcioaaGreatDoor
open Go.AX Go.RowKit Go.Core Go.Marshal
set_option maxRecDepth 20000

end Go.Proofs.YtgogonnnojcioaaGreatDoor

/-
 Contracts: Dump (document); what the law asks of a graph (marshal).
-/
namespace Go.Proofs.YtgogonnnojcioaaGreatDoor
open Go.AX Go.RowKit Go.Core Go.Marshal
set_option maxRecDepth 20000

/-! ### The law's own -/
def Wide (l : List CellP) : Prop := l.length ≤ 2000 ∧ ∀ p ∈ l, p.c.names.length ≤ 30000 ∧ p.c.items.length ≤ 30000
theorem Small.wide {l : List CellP} (h : Small l) : Wide l := ⟨h.1, fun p hp => ⟨by have := (h.2 p hp).1; omega, by have := (h.2 p hp).2; omega⟩⟩
set_option maxHeartbeats 4000000 in
theorem as_m (a : Option Addr) (ca : Nat) (l : List CellP) (ha : a = none → l = []) (hs : Wide l) (hok : ∀ p ∈ l, CellOk p) : SpecF Tryz.prog 18 [.slice a l.length ca] (GrF a l) (GrR (l.map (·.c))) := by
 obtain ⟨hl, hsm⟩ := hs
 refine specF hm Tryz.func18 (by kernel_rfl) rfl rfl ?_
 (first | refine wX ?_ | exact wZ)
 refine LoopN.introS DSt (DInv l) (fun ⟨i, oa, oc, m⟩ => mkS 35 0 [(0, .c (.v (.slice a l.length ca))), (3, .c (.v (.slice oa m.length oc))), (4, .c (.v (.int .i64 (i : Int))))]) (fun ⟨i, oa, oc, m⟩ => [.fact (GrF a l), .app 87 5 (grC m) oa m.length oc, .fact (fun w => ∀ p ∈ m, CellF p w)]) (fun ⟨i, _, _, _⟩ => l.length - i) [.app 87 5 [] none 0 0, .dead] rfl (fun _ => rfl) (fun _ => rfl) (fun _ _ => ⟨trivial, trivial, trivial, trivial⟩) ?_ ?_
 ·refine ⟨⟨0, none, 0, []⟩, ⟨Nat.zero_le _, rfl, (fun p h => by cases h), (fun _ => rfl), Nat.le_refl _⟩, ?_, [.fact (GrF a l), .app 87 5 [] none 0 0, .fact (fun w => ∀ p ∈ [], CellF p w)], turnS ?_, ?_⟩
  ·exact wKK
  ·exact ⟨.inr (.inl rfl), .inr (.inl rfl), .inr (.inr ⟨_, rfl, fun w _ p hp => by cases hp⟩), trivial⟩
  ·exact wkH_refl _
 rintro ⟨i, oa, oc, m⟩ hinv
 have hml := hinv.len
 obtain ⟨hi, hmc, hmo, hoa, hoc⟩ := hinv
 (first | refine wX ?_ | exact wZ)
 refine brd_dec (fun h1 => ?_) (fun h1 => ?_)
 ·obtain ⟨p, hp⟩ : ∃ p, l[i]? = some p := ⟨_, List.getElem?_eq_getElem (by omega)⟩
  have hpm := List.mem_of_getElem? hp
  have hpo := hok p hpm
  obtain ⟨hnl, hil⟩ := hsm p hpm
  have hsa : a.isSome = true := by
   cases a with
   | none => rw [ha rfl] at hp; cases hp
   | some b => rfl
  (first | refine wX ?_ | exact wZ)
  refine Nd.mk ⟨hsa, by omega, by omega⟩ ?_
  (first | refine wX ?_ | exact wZ)
  refine LdN.agg (cellC p) rfl (fun w hw => hw.1.1) rfl (fun k hk => by rw [Int.toNat_natCast]; exact grC_get l i k hk hp) ?_
  (first | refine wXB ?_ | exact wZB)
  refine BoxN.known [.int .i64 0, .int .i64 0, .string { data := #[] }, .slice none 0 0, .slice none 0 0] rfl fun cb => ?_
  (first | refine wXB ?_ | exact wZB)
  refine EffW.appTo (i := 3) (q := 0) (ys := cellC p) (cellC p) 5 rfl rfl rfl rfl rfl rfl rfl (Nat.le_of_ble_eq_true rfl) rfl rfl ?_
  (first | refine wXB ?_ | exact wZB)
  refine DrawN.planK hm (fun w => SlAt (some ⟨cb, 0, none⟩) 5 (cellC p) w) [7, 11] [0, 1, 3, 5, 8, 12] [(9, 1), (2, 1), (4, 1), (6, 1), (13, 1), (7, 2), (10, 0), (11, 2), (14, 0), (15, 0), (16, 0), (17, 0), (18, 0)] (by decide +kernel) (fun w hw => hw.2.2.2.1) ?_
  ((conv => whnf); (repeat ((first | refine Nd.mk (fun w hw => hw.2.2.2.1) ?_ | refine VrN.norm (wrap_i64 (by omega)) ?_ | refine VrN.keep ?_ | refine Nd.mk (by decide +kernel) ?_ | refine Nd.mk (by omega) ?_ | refine RdN.intro _ rfl (by rfl) ?_); (conv => whnf))))
  refine ReadC.one (a := some ⟨cb, 0, none⟩) (q := 3) (.slice p.na p.c.names.length p.nc) rfl rfl rfl (fun w hw => hw) rfl ?_
  ((conv => whnf); (repeat ((first | refine Nd.mk (fun w hw => hw.2.2.2.1) ?_ | refine VrN.norm (wrap_i64 (by omega)) ?_ | refine VrN.keep ?_ | refine Nd.mk (by decide +kernel) ?_ | refine Nd.mk (by omega) ?_ | refine RdN.intro _ rfl (by rfl) ?_); (conv => whnf))))
  refine ReadC.one (a := some ⟨cb, 0, none⟩) (q := 0) (.int .i64 p.c.kind) rfl rfl rfl (fun w hw => hw) rfl ?_
  ((conv => whnf); (repeat ((first | refine Nd.mk (fun w hw => hw.2.2.2.1) ?_ | refine VrN.norm (wrap_i64 (by omega)) ?_ | refine VrN.keep ?_ | refine Nd.mk (by decide +kernel) ?_ | refine Nd.mk (by omega) ?_ | refine RdN.intro _ rfl (by rfl) ?_); (conv => whnf))))
  refine ReadC.one (a := some ⟨cb, 0, none⟩) (q := 1) (.int .i64 p.c.num) rfl rfl rfl (fun w hw => hw) rfl ?_
  ((conv => whnf); (repeat ((first | refine Nd.mk (fun w hw => hw.2.2.2.1) ?_ | refine VrN.norm (wrap_i64 (by omega)) ?_ | refine VrN.keep ?_ | refine Nd.mk (by decide +kernel) ?_ | refine Nd.mk (by omega) ?_ | refine RdN.intro _ rfl (by rfl) ?_); (conv => whnf))))
  refine ReadC.one (a := some ⟨cb, 0, none⟩) (q := 2) (.string (bs p.c.text)) rfl rfl rfl (fun w hw => hw) rfl ?_
  ((conv => whnf); (repeat ((first | refine Nd.mk (fun w hw => hw.2.2.2.1) ?_ | refine VrN.norm (wrap_i64 (by omega)) ?_ | refine VrN.keep ?_ | refine Nd.mk (by decide +kernel) ?_ | refine Nd.mk (by omega) ?_ | refine RdN.intro _ rfl (by rfl) ?_); (conv => whnf))))
  refine ReadC.one (a := some ⟨cb, 0, none⟩) (q := 4) (.slice p.ia p.c.items.length p.ic) rfl rfl rfl (fun w hw => hw) rfl ?_
  ((conv => whnf); (repeat ((first | refine Nd.mk (fun w hw => hw.2.2.2.1) ?_ | refine VrN.norm (wrap_i64 (by omega)) ?_ | refine VrN.keep ?_ | refine Nd.mk (by decide +kernel) ?_ | refine Nd.mk (by omega) ?_ | refine RdN.intro _ rfl (by rfl) ?_); (conv => whnf))))
  intro nb
  ((conv => whnf); (repeat ((first | refine Nd.mk (fun w hw => hw.2.2.2.1) ?_ | refine VrN.norm (wrap_i64 (by omega)) ?_ | refine VrN.keep ?_ | refine Nd.mk (by decide +kernel) ?_ | refine Nd.mk (by omega) ?_ | refine RdN.intro _ rfl (by rfl) ?_); (conv => whnf))))
  refine app_any 4 [] (strC p.c.names) rfl (Nat.le_refl _) (fun h => by cases hq : p.na with | none => rw [hpo.na hq] at h; cases h | some b => rfl) (by show (strC p.c.names).length = p.c.names.length * 1; simp [strC]) (fun u hu => by obtain ⟨x, _, rfl⟩ := List.mem_map.1 hu; rfl) (fun w hw j v hv => (hw.1.2 p hpm).1.cell hv) ⟨⟨by show (0 + p.c.names.length) * 16 ≤ _; omega, by omega⟩, Nat.one_ne_zero⟩ fun nb2 nc2 hnc2 => ?_
  rw [Nat.zero_add, List.nil_append]
  ((conv => whnf); (repeat ((first | refine Nd.mk (fun w hw => hw.2.2.2.1) ?_ | refine VrN.norm (wrap_i64 (by omega)) ?_ | refine VrN.keep ?_ | refine Nd.mk (by decide +kernel) ?_ | refine Nd.mk (by omega) ?_ | refine RdN.intro _ rfl (by rfl) ?_); (conv => whnf))))
  intro ib
  ((conv => whnf); (repeat ((first | refine Nd.mk (fun w hw => hw.2.2.2.1) ?_ | refine VrN.norm (wrap_i64 (by omega)) ?_ | refine VrN.keep ?_ | refine Nd.mk (by decide +kernel) ?_ | refine Nd.mk (by omega) ?_ | refine RdN.intro _ rfl (by rfl) ?_); (conv => whnf))))
  refine app_any 5 [] (iC p.c.items) rfl (Nat.le_refl _) (fun h => by cases hq : p.ia with | none => rw [hpo.ia hq] at h; cases h | some b => rfl) (by show (iC p.c.items).length = p.c.items.length * 1; simp [iC]) (fun u hu => by obtain ⟨x, _, rfl⟩ := List.mem_map.1 hu; rfl) (fun w hw j v hv => (hw.1.2 p hpm).2.cell hv) ⟨⟨by show (0 + p.c.items.length) * 8 ≤ _; omega, by omega⟩, Nat.one_ne_zero⟩ fun ib2 ic2 hic2 => ?_
  rw [Nat.zero_add, List.nil_append]
  ((conv => whnf); (repeat ((first | refine Nd.mk (fun w hw => hw.2.2.2.1) ?_ | refine VrN.norm (wrap_i64 (by omega)) ?_ | refine VrN.keep ?_ | refine Nd.mk (by decide +kernel) ?_ | refine Nd.mk (by omega) ?_ | refine RdN.intro _ rfl (by rfl) ?_); (conv => whnf))))
  refine RwN.own ?_
  ((conv => whnf); (repeat ((first | refine Nd.mk (fun w hw => hw.2.2.2.1) ?_ | refine VrN.norm (wrap_i64 (by omega)) ?_ | refine VrN.keep ?_ | refine Nd.mk (by decide +kernel) ?_ | refine Nd.mk (by omega) ?_ | refine RdN.intro _ rfl (by rfl) ?_); (conv => whnf))))
  refine Nd.mk ⟨Nat.le_refl 1, rfl, rfl⟩ ?_
  (conv => whnf)
  refine AppN.grow 1 (grC m) (cellC ⟨p.c, some ⟨nb2, 0, none⟩, nc2, some ⟨ib2, 0, none⟩, ic2⟩) rfl rfl ⟨Nat.le_refl 1, ⟨by show (m.length + 1) * 80 ≤ _; omega, by omega⟩, by decide⟩ fun ob2 oc2 hoc2 _ => ?_
  ((conv => whnf); (repeat ((first | refine Nd.mk (fun w hw => hw.2.2.2.1) ?_ | refine VrN.norm (wrap_i64 (by omega)) ?_ | refine VrN.keep ?_ | refine Nd.mk (by decide +kernel) ?_ | refine Nd.mk (by omega) ?_ | refine RdN.intro _ rfl (by rfl) ?_); (conv => whnf))))
  have hm2 : m.length + 1 = (m ++ [(⟨p.c, some ⟨nb2, 0, none⟩, nc2, some ⟨ib2, 0, none⟩, ic2⟩ : CellP)]).length := by simp
  have hg2 := grC_snoc m ⟨p.c, some ⟨nb2, 0, none⟩, nc2, some ⟨ib2, 0, none⟩, ic2⟩
  refine ⟨⟨i + 1, some ⟨ob2, 0, none⟩, oc2, m ++ [⟨p.c, some ⟨nb2, 0, none⟩, nc2, some ⟨ib2, 0, none⟩, ic2⟩]⟩, ⟨by omega, ?_, ?_, (fun h => by cases h), by omega⟩, by show l.length - (i + 1) < l.length - i; omega, ?_, [.fact (GrF a l), .app 87 5 (grC m ++ cellC ⟨p.c, some ⟨nb2, 0, none⟩, nc2, some ⟨ib2, 0, none⟩, ic2⟩) (some ⟨ob2, 0, none⟩) (m.length + 1) oc2, .fact (fun w => ∀ q ∈ m ++ [⟨p.c, some ⟨nb2, 0, none⟩, nc2, some ⟨ib2, 0, none⟩, ic2⟩], CellF q w), .dead, .dead, .dead, .dead], turnS ?_, ?_⟩
  ·rw [List.take_add_one, hp, List.map_append, List.map_append, hmc]
   rfl
  ·intro q hq
   rcases List.mem_append.1 hq with hq | hq
   ·exact hmo q hq
   ·rw [List.mem_singleton.1 hq]
    exact ⟨(fun h => by cases h), (fun h => by cases h), hpo.nl, hpo.il, hpo.nw, hpo.tl, by show p.c.names.length ≤ nc2; omega, by show p.c.items.length ≤ ic2; omega⟩
  ·(repeat' (first | exact trivial | refine And.intro (by with_reducible rfl) ?_ | (with_reducible exact wkC_refl _) | (with_reducible exact wkCs_refl _) | refine And.intro ?_ ?_))
   all_goals first | rfl | exact av_int (by omega) | (rw [hm2])
  ·refine ⟨.inr (.inl rfl), .inr (.inl rfl), .inr (.inr ⟨_, rfl, fun w hw q hq => ?_⟩), .inl rfl, .inl rfl, .inl rfl, .inl rfl, trivial⟩
   rcases List.mem_append.1 hq with hq | hq
   ·exact hw.2.1 q hq
   ·rw [List.mem_singleton.1 hq]
    exact ⟨hw.2.2.2.1, hw.2.2.2.2.1⟩
  ·show wkH _ [Ent.fact (GrF a l), .app 87 5 (grC (m ++ [_])) _ (m ++ [_]).length _, _]
   rw [← hm2, hg2]
   exact ⟨wkE_refl _, wkE_refl _, wkE_refl _, trivial⟩
 ·have hil : i = l.length := by omega
  subst hil
  rw [List.take_length] at hmc
  (first | refine wX ?_ | exact wZ)
  refine fin_p (GrF oa m) ⟨oa, oc, m, rfl, hoa, hmc, hmo, fun w hw => hw⟩ fun w hw => ⟨hw.2.1, hw.2.2.1⟩
def exM : Cell := ⟨6, 0, [], [], [0]⟩
def exQ (ib : Nat) : CellP := ⟨exM, none, 0, some ⟨ib, 0, none⟩, 1⟩
theorem exM_val : ValidP [exM] := ⟨by decide, fun c hc => by rw [List.mem_singleton.1 hc]; decide, fun c hc h => by rw [List.mem_singleton.1 hc] at h; exact absurd h (by decide)⟩
theorem exM_ask : AskP [exM] [0] := ⟨exM_val, fun x hx => by rw [List.mem_singleton.1 hx]; decide⟩
theorem exM_dump : dumpS [exM] 0 = [67, 77, 1, 91, 1, 64, 0] := by decide +kernel
theorem exQ_small (ib : Nat) : Small [exQ ib] := ⟨by simp, fun p hp => by rw [List.mem_singleton.1 hp]; exact ⟨by show (0 : Nat) ≤ 2000; omega, by show (1 : Nat) ≤ 2000; omega⟩⟩
theorem exQ_ok (ib : Nat) : ∀ p ∈ [exQ ib], CellOk p := fun p hp => by
 rw [List.mem_singleton.1 hp]
 exact ⟨(fun _ => rfl), (fun h => by cases h), by show (0 : Nat) ≤ _; omega, by show (1 : Nat) ≤ _; omega, (fun s hs => by cases hs), by show (0 : Nat) ≤ _; omega, Nat.le_refl _, Nat.le_refl _⟩
set_option maxHeartbeats 4000000 in
theorem sane_m : ∀ H, SpecH Tryz.prog 13 (pvs []) H (Ret (.bool true) H) := by
 refine pureC hm Tryz.func13 (by kernel_rfl) rfl rfl ?_
 (first | refine wXR ?_ | exact wZR)
 refine RwN.known [.int .i64 0] rfl fun ib => ?_
 (first | refine wXR ?_ | exact wZR)
 refine RwN.known [.int .i64 6, .int .i64 0, .string { data := #[] }, .slice none 0 0, .slice (some ⟨ib, 0, none⟩) 1 1] rfl fun gb => ?_
 (first | refine wXR ?_ | exact wZR)
 obtain ⟨e, he1, he2⟩ := Dump_c (a := some ⟨gb, 0, none⟩) 1 (l := [exQ ib]) (fun h => by cases h) (exQ_small ib) (exQ_ok ib) 0
 obtain rfl : e = true := he1.2 exM_ask
 have hx : (if true = true then dumpS ([exQ ib].map (·.c)) 0 else []) = [67, 77, 1, 91, 1, 64, 0] := exM_dump
 rw [hx] at he2
 refine call1 (he2 [.app 3 1 [.int .i64 0] (some ⟨ib, 0, none⟩) 1 1, .app 57 5 [.int .i64 6, .int .i64 0, .string { data := #[] }, .slice none 0 0, .slice (some ⟨ib, 0, none⟩) 1 1] (some ⟨gb, 0, none⟩) 1 1] (fun w hw => ⟨hw.2.1, fun p hp => by
  rw [List.mem_singleton.1 hp]
  exact ⟨SlAt.nil, hw.1⟩⟩)) ?_
 (first | refine wX ?_ | exact wZ)
 rfl
end Go.Proofs.YtgogonnnojcioaaGreatDoor

/-
 Plain: small graphs are written and read back.
-/
namespace Go.Marshal
open Go.Core

structure Tiny (g : List Cell) : Prop where
 valid : ValidP g
 len : g.length ≤ 12
 cell : ∀ c ∈ g, c.items.length ≤ 4 ∧ c.names.length ≤ 2 ∧ c.text.length ≤ 2
theorem Tiny.dmp {g : List Cell} (h : Tiny g) {k : Int} (hk : InI g k) : Dmp g 60 k :=
 ⟨h.valid, fun c hc => by have := h.cell c hc; omega, hk⟩
theorem Tiny.dump_len {g : List Cell} (h : Tiny g) {k : Int} (hk : InI g k) : (dumpS g k).length ≤ 5000 ∧ 3 ≤ (dumpS g k).length := by
 have hd := h.dmp hk
 have hin := valid_in h.valid
 have h4 := write_len hin hd.cellW (by decide) (g.length + 1) ⟨headB, [], []⟩ k hk hd.few
 have h5 : wgt iN g [] ≤ g.length * 6 := wgt_le (fun i hi => by
  have := h.cell _ (at_mem hi)
  unfold iN
  omega) []
 have h6 := h.len
 have h7 : (dumpS g k).length + 60 * wgt iN g (writeF g (g.length + 1) ⟨headB, [], []⟩ k).cells ≤ 3 + 60 * wgt iN g [] + 60 := h4
 obtain ⟨b, e, hb⟩ := back_write h.valid.1 hin hd.cellW (g.length + 1) ⟨headB, [], []⟩ k hk ⟨List.nodup_nil, (fun _ h => by cases h), fun _ h => by cases h⟩ (Nat.lt_succ_of_le (free_le g [])) hd.few
 have e2 : dumpS g k = headB ++ b := e
 refine ⟨by omega, ?_⟩
 rw [e2, List.length_append]
 show 3 ≤ 3 + _
 omega
theorem Tiny.load {g : List Cell} (h : Tiny g) {k : Int} (hk : InI g k) :
  ∃ (q : List Cell) (org cs : List Int), loadS (dumpS g k) = .ok (q, (doneW g k).ss) ∧ Img g q k org ∧ q.length ≤ 1 + wgt iT g [] ∧ (∀ i, i ∈ cs ↔ InI q i ∧ shared (Core.at_ q i)) ∧ cs.Nodup ∧ cs.map (lk org) = (doneW g k).cells := by
 have hd := h.dmp hk
 have h5 : wgt iT g [] ≤ g.length * 4 := wgt_le (fun i hi => by
  have := h.cell _ (at_mem hi)
  unfold iT
  omega) []
 have h6 := h.len
 rcases load_dump hd with ⟨h1, _⟩ | ⟨h1, _⟩ | h1
 ·have := (h.dump_len hk).1
  omega
 ·omega
 ·obtain ⟨q, org, cs, e, hi, hl, hr⟩ := h1
  have hv : ValidP q := valid_img h.valid hi (by omega)
  rw [if_pos hv] at e
  exact ⟨q, org, cs, e, hi, hl, hr⟩
end Go.Marshal

/-
 AX, fifty-fourth text: families of rows of the call's own (.fam), rows put in and taken out; calls that see facts and hand back own entries.
-/
namespace Go.AX

structure RowD where
 T : TypeId
 sz : Nat
 n : Nat
 xs : List Value
 b : Nat
 cap : Nat
def RowD.ok (r : RowD) (w : World) : Prop := RowF r.T r.sz r.n r.xs r.b r.cap w
def famB (l : List RowD) (b : Nat) : Prop := ∃ r ∈ l, r.b = b
def famF (l : List RowD) (w : World) : Prop := (l.map RowD.b).Nodup ∧ ∀ r ∈ l, r.ok w
def famE (l : List RowD) : Ent := .fam (famB l) (famF l)
theorem famF.imm {l : List RowD} {w : World} (h : famF l w) : Imm (famB l) w (famF l) :=
 ⟨h, fun _ hw => ⟨h.1, fun r hr => (h.2 r hr).move (hw r.b ⟨r, hr, rfl⟩)⟩⟩
theorem rowF_lt {T : TypeId} {sz n : Nat} {xs : List Value} {b cap : Nat} {w : World} (h : RowF T sz n xs b cap w) : b < w.heap.size := by
 obtain ⟨arr, fr, ⟨h1, _⟩, _⟩ := h
 exact (Array.getElem?_eq_some_iff.1 h1).1
theorem famE_ok {ρ : List Loc} {S : Nat → Prop} {w : World} {i : Nat} {l : List RowD} (h : famF l w) : EntOk ρ S w i (famE l) :=
 ⟨h.imm, fun _ ⟨r, hr, hb⟩ => hb ▸ rowF_lt (h.2 r hr)⟩
theorem famF_nil (w : World) : famF [] w := ⟨List.nodup_nil, fun r h => by cases h⟩
def TurnE (H G : List Ent) : Prop := G.length = H.length ∧ ∀ (ρ : List Loc) (S : Nat → Prop) (w : World), Sat ρ S H w → Sat ρ S G w ∧ Ev ρ S H w ρ S G w
theorem TurnE.s {H G : List Ent} (h : TurnE H G) : TurnS H G := ⟨h.1, fun ρ S w hs => ⟨S, h.2 ρ S w hs⟩⟩
theorem TurnE.refl (H : List Ent) : TurnE H H := ⟨rfl, fun _ _ _ hs => ⟨hs, Ev.refl _ _ _ _⟩⟩
theorem TurnE.trans {H G J : List Ent} (h : TurnE H G) (k : TurnE G J) : TurnE H J :=
 ⟨k.1.trans h.1, fun ρ S w hs => by
  obtain ⟨h1, e1⟩ := h.2 ρ S w hs
  obtain ⟨h2, e2⟩ := k.2 ρ S w h1
  exact ⟨h2, e1.trans e2⟩⟩
theorem TurnS.trans {H G J : List Ent} (h : TurnS H G) (k : TurnS G J) : TurnS H J :=
 ⟨k.1.trans h.1, fun ρ S w hs => by
  obtain ⟨S1, h1, e1⟩ := h.2 ρ S w hs
  obtain ⟨S2, h2, e2⟩ := k.2 ρ S1 w h1
  exact ⟨S2, h2, e1.trans e2⟩⟩
theorem Sat.two {ρ : List Loc} {S : Nat → Prop} {H : List Ent} {w : World} (h : Sat ρ S H w) {i j : Nat} {e f e' f' : Ent} (hi : H[i]? = some e) (hj : H[j]? = some f) (hne : i ≠ j)
  (hb : ∀ b, entB ρ i e' b ∨ entB ρ j f' b → entB ρ i e b ∨ entB ρ j f b) (hx : ∀ b, entB ρ i e' b → ¬ entB ρ j f' b) (ke : EntOk ρ S w i e') (kf : EntOk ρ S w j f') :
  Sat ρ S ((H.set i e').set j f') w ∧ Ev ρ S H w ρ S ((H.set i e').set j f') w := by
 have hil := (List.getElem?_eq_some_iff.1 hi).1
 have hjl := (List.getElem?_eq_some_iff.1 hj).1
 have hcase : ∀ (k : Nat) (g : Ent), ((H.set i e').set j f')[k]? = some g → (k = i ∧ g = e') ∨ (k = j ∧ g = f') ∨ (k ≠ i ∧ k ≠ j ∧ H[k]? = some g) := fun k g hk => by
  by_cases h2 : k = j
  ·subst h2
   rw [List.getElem?_set_self (by rw [List.length_set]; exact hjl)] at hk
   exact .inr (.inl ⟨rfl, (Option.some.inj hk).symm⟩)
  ·rw [List.getElem?_set_ne (fun e => h2 e.symm)] at hk
   by_cases h1 : k = i
   ·subst h1
    rw [List.getElem?_set_self hil] at hk
    exact .inl ⟨rfl, (Option.some.inj hk).symm⟩
   ·rw [List.getElem?_set_ne (fun e => h1 e.symm)] at hk
    exact .inr (.inr ⟨h1, h2, hk⟩)
 have hown : ∀ (k : Nat) (g : Ent) (b : Nat), ((H.set i e').set j f')[k]? = some g → entB ρ k g b → (k = i ∨ k = j) ∧ (entB ρ i e b ∨ entB ρ j f b) ∨ (k ≠ i ∧ k ≠ j ∧ H[k]? = some g) := fun k g b hk hg => by
  rcases hcase k g hk with ⟨rfl, rfl⟩ | ⟨rfl, rfl⟩ | h3
  ·exact .inl ⟨.inl rfl, hb b (.inl hg)⟩
  ·exact .inl ⟨.inr rfl, hb b (.inr hg)⟩
  ·exact .inr h3
 have hno : ∀ (k : Nat) (g : Ent) (b : Nat), k ≠ i → k ≠ j → H[k]? = some g → entB ρ k g b → ¬ (entB ρ i e b ∨ entB ρ j f b) := fun k g b h1 h2 hk hg hh => by
  rcases hh with hh | hh
  ·exact h1 (h.inj k i g e b hk hi hg hh)
  ·exact h2 (h.inj k j g f b hk hj hg hh)
 have hmb : ∀ b, mb ρ ((H.set i e').set j f') b → mb ρ H b := fun b ⟨k, g, hk, hg⟩ => by
  rcases hown k g b hk hg with ⟨_, h1 | h1⟩ | ⟨_, _, h1⟩
  ·exact ⟨i, e, hi, h1⟩
  ·exact ⟨j, f, hj, h1⟩
  ·exact ⟨k, g, h1, hg⟩
 refine ⟨⟨by rw [List.length_set, List.length_set]; exact h.len, fun k g hk => ?_, fun k l g g2 b hk hl hg hg2 => ?_, fun b hb => h.out b (hmb b hb), h.low⟩, ⟨⟨[], by simp⟩, rfl, rfl, rfl, Nat.le_refl _, fun _ _ _ => rfl, fun _ h => .inl h, fun b hb => .inl (hmb b hb)⟩⟩
 ·rcases hcase k g hk with ⟨rfl, rfl⟩ | ⟨rfl, rfl⟩ | ⟨_, _, h3⟩
  ·exact ke
  ·exact kf
  ·exact h.ent k g h3
 ·rcases hcase k g hk with ⟨rfl, rfl⟩ | ⟨rfl, rfl⟩ | ⟨k1, k2, h3⟩ <;> rcases hcase l g2 hl with ⟨rfl, rfl⟩ | ⟨rfl, rfl⟩ | ⟨l1, l2, h4⟩
  ·rfl
  ·exact absurd hg2 (hx b hg)
  ·exact absurd (hb b (.inl hg)) (hno l g2 b l1 l2 h4 hg2)
  ·exact absurd hg (hx b hg2)
  ·rfl
  ·exact absurd (hb b (.inr hg)) (hno l g2 b l1 l2 h4 hg2)
  ·exact absurd (hb b (.inl hg2)) (hno k g b k1 k2 h3 hg)
  ·exact absurd (hb b (.inr hg2)) (hno k g b k1 k2 h3 hg)
  ·exact h.inj k l g g2 b h3 h4 hg hg2
theorem famPut {H : List Ent} (i j : Nat) {l l' : List RowD} {T : TypeId} {sz n b cap : Nat} {xs : List Value} (hi : nthE H i = some (famE l)) (hj : nthE H j = some (.app T sz xs (some ⟨b, 0, none⟩) n cap)) (hne : Nat.beq i j = false) (hp : (⟨T, sz, n, xs, b, cap⟩ :: l).Perm l') : TurnE H ((H.set i (famE l')).set j .dead) := by
 rw [nthE_eq] at hi hj
 refine ⟨by rw [List.length_set, List.length_set], fun ρ S w hs => ?_⟩
 have hF : famF l w := (hs.ent i _ hi).1.1
 have hij := Nat.ne_of_beq_eq_false hne
 rcases hs.ent j _ hj with ⟨h0, _⟩ | ⟨b', hb', hrow⟩
 ·cases h0
 cases hb'
 have hnb : b ∉ l.map RowD.b := fun hm => by
  obtain ⟨r, hr, hrb⟩ := List.mem_map.1 hm
  exact hij (hs.inj i j _ _ b hi hj ⟨r, hr, hrb⟩ rfl)
 have hF' : famF l' w := ⟨(hp.map RowD.b).nodup_iff.1 (List.nodup_cons.2 ⟨hnb, hF.1⟩), fun q hq => by
  rcases List.mem_cons.1 (hp.mem_iff.2 hq) with rfl | hq
  ·exact hrow
  ·exact hF.2 q hq⟩
 refine hs.two hi hj hij (fun c hc => ?_) (fun _ _ hb => hb) (famE_ok hF') trivial
 rcases hc with ⟨q, hq, hqb⟩ | hc
 ·rcases List.mem_cons.1 (hp.mem_iff.2 hq) with rfl | hq
  ·exact .inr (congrArg some hqb)
  ·exact .inl ⟨q, hq, hqb⟩
 ·exact hc.elim
theorem famNew {H : List Ent} (i : Nat) (hi : nthE H i = some .dead) : TurnE H (H.set i (famE [])) := by
 rw [nthE_eq] at hi
 refine ⟨by rw [List.length_set], fun ρ S w hs => ?_⟩
 have hget : ∀ (j : Nat) (f : Ent), (H.set i (famE []))[j]? = some f → f = famE [] ∨ H[j]? = some f := fun j f hf => by
  by_cases hj : i = j
  ·subst hj
   rw [List.getElem?_set_self (List.getElem?_eq_some_iff.1 hi).1] at hf
   exact .inl (Option.some.inj hf).symm
  ·rw [List.getElem?_set_ne hj] at hf
   exact .inr hf
 have hb : ∀ (j : Nat) (f : Ent) (b : Nat), (H.set i (famE []))[j]? = some f → entB ρ j f b → H[j]? = some f := fun j f b hf hfb => by
  rcases hget j f hf with rfl | h1
  ·obtain ⟨r, hr, _⟩ := hfb; cases hr
  ·exact h1
 have hmb : ∀ b, mb ρ (H.set i (famE [])) b → mb ρ H b := fun b ⟨j, f, hf, hfb⟩ => ⟨j, f, hb j f b hf hfb, hfb⟩
 exact ⟨⟨by simp [hs.len], fun j f hf => by
   rcases hget j f hf with rfl | h1
   ·exact famE_ok (famF_nil w)
   ·exact hs.ent j f h1,
  fun j k f g b hf hg hfb hgb => hs.inj j k f g b (hb j f b hf hfb) (hb k g b hg hgb) hfb hgb, fun b hbb => hs.out b (hmb b hbb), hs.low⟩,
  ⟨⟨[], by simp⟩, rfl, rfl, rfl, Nat.le_refl _, fun _ _ _ => rfl, fun _ h => .inl h, fun b hbb => .inl (hmb b hbb)⟩⟩

def Ent.bare : Ent → Bool
 | .app .. => true
 | .mp .. => true
 | .fam .. => true
 | .dead => true
 | _ => false
theorem EntOk.bare {ρ ρ' : List Loc} {S S' : Nat → Prop} {w : World} {i j : Nat} {e : Ent} (he : e.bare = true) (h : EntOk ρ S w i e) : EntOk ρ' S' w j e := by
 cases e <;> first | (cases he; done) | exact h
theorem entB_bare {ρ ρ' : List Loc} {i j b : Nat} {e : Ent} (he : e.bare = true) (h : entB ρ i e b) : entB ρ' j e b := by
 cases e <;> first | (cases he; done) | exact h
def appsK : List Ent → List Ent → (List Ent → Prop) → Prop
 | H, [], K => K H
 | H, e :: N, K => snocK H e 0 fun H' _ => appsK H' N K
theorem appsK_eq : ∀ (N H : List Ent) (K : List Ent → Prop), appsK H N K = K (H ++ N)
 | [], H, K => by simp [appsK]
 | e :: N, H, K => by
  unfold appsK
  rw [snocK_eq, appsK_eq N]
  simp
theorem factG {P : Program} {f : FuncId} {xs : List Value} {F : World → Prop} {ι : Type} {inv : ι → Prop} {val : ι → Value} {N : ι → List Ent} (hN : ∀ i, (N i).all Ent.bare = true)
  (h : SpecH P f (pvs xs) [.fact F] (RetG inv val fun i => .dead :: N i)) {H : List Ent} (hF : ∀ w, Facts H w → F w) {K : Out → List Ent → Prop} (hk : ∀ i, inv i → appsK H (N i) fun G => K (.val (.c (.v (val i)))) G) : SpecH P f (pvs xs) H K := by
 refine ⟨h.ok, fun ρ S w vs hs hr => ?_⟩
 have h0 : Sat [⟨0, 0⟩] (fun b => S b ∨ appB H b) [.fact F] w := by
  refine ⟨rfl, fun i e he => ?_, fun i j e f b he hf heo => ?_, fun b hb => ?_, fun b hb => ?_⟩
  ·match i, he with
   | 0, he => simp at he; subst he; exact hs.imm.mono hF
  ·match i, he with
   | 0, he => simp at he; subst he; exact heo.elim
  ·obtain ⟨i, e, he, ho⟩ := hb
   match i, he with
   | 0, he => simp at he; subst he; exact ho.elim
  ·rcases hb with hb | hb
   ·exact hs.low b hb
   ·obtain ⟨i, e, he, heb⟩ := appB_mb (ρ := ρ) hb
    exact hs.blk_lt he heb
 have nomb : ∀ b, ¬ mb [⟨0, 0⟩] [Ent.fact F] b := by
  rintro b ⟨i, e, he, ho⟩
  match i, he with
  | 0, he => simp at he; subst he; exact ho.elim
 obtain rfl := RelS_pvs hr
 refine (h.run _ _ w vs h0 (pvs_rel _ vs)).mono fun e w' ⟨ρ', S', H', out, hs', hev, hout, i, hi, ho, hH⟩ => ?_
 subst ho
 subst hH
 have hk := hk i hi
 rw [appsK_eq] at hk
 have hnew : ∀ (k : Nat) (g : Ent) (b : Nat), (N i)[k]? = some g → entB ρ' (k + 1) g b → w.heap.size ≤ b := fun k g b hg hb => (hev.own b ⟨k + 1, g, by simpa using hg, hb⟩).resolve_left (nomb b)
 have hbr : ∀ (k : Nat) (g : Ent), (N i)[k]? = some g → g.bare = true := fun k g hg => List.all_eq_true.1 (hN i) g (List.mem_of_getElem? hg)
 have hbel : ∀ b, b < w.heap.size → w'.heap[b]? = w.heap[b]? := fun b hb => hev.keep b hb (nomb b)
 have hcase : ∀ (k : Nat) (g : Ent), (H ++ N i)[k]? = some g → (k < H.length ∧ H[k]? = some g) ∨ (H.length ≤ k ∧ (N i)[k - H.length]? = some g) := fun k g hg => by
  by_cases hk : k < H.length
  ·rw [List.getElem?_append_left hk] at hg; exact .inl ⟨hk, hg⟩
  ·rw [List.getElem?_append_right (by omega)] at hg
   exact .inr ⟨by omega, hg⟩
 have hown : ∀ (k : Nat) (g : Ent) (b : Nat), (H ++ N i)[k]? = some g → entB (ρ ++ List.replicate (N i).length ⟨0, 0⟩) k g b → (k < H.length ∧ H[k]? = some g ∧ entB ρ k g b ∧ b < w.heap.size) ∨ (H.length ≤ k ∧ (N i)[k - H.length]? = some g ∧ entB ρ' (k - H.length + 1) g b ∧ w.heap.size ≤ b) := fun k g b hg hb => by
  rcases hcase k g hg with ⟨h1, h2⟩ | ⟨h1, h2⟩
  ·rw [entB_pre _ (by rw [hs.len]; exact h1)] at hb
   exact .inl ⟨h1, h2, hb, hs.blk_lt h2 hb⟩
  ·have h3 : entB ρ' (k - H.length + 1) g b := entB_bare (hbr _ g h2) hb
   exact .inr ⟨h1, h2, h3, hnew _ g b h2 h3⟩
 have hmb : ∀ b, mb (ρ ++ List.replicate (N i).length ⟨0, 0⟩) (H ++ N i) b → mb ρ H b ∨ w.heap.size ≤ b := fun b ⟨k, g, hg, hb⟩ => by
  rcases hown k g b hg hb with ⟨_, h2, h3, _⟩ | ⟨_, _, _, h4⟩
  ·exact .inl ⟨k, g, h2, h3⟩
  ·exact .inr h4
 refine ⟨ρ ++ List.replicate (N i).length ⟨0, 0⟩, S, H ++ N i, .val (.c (.v (val i))), ⟨by simp [hs.len], fun k g hg => ?_, fun k l g g2 b hg hg2 hb hb2 => ?_, fun b hb hS => ?_, fun b hb => Nat.lt_of_lt_of_le (hs.low b hb) hev.size⟩, ⟨⟨_, rfl⟩, hev.os, hev.tape, hev.output, hev.size, fun b hb _ => hbel b hb, fun b hb => .inl hb, hmb⟩, hout, hk⟩
 ·rcases hcase k g hg with ⟨h1, h2⟩ | ⟨h1, h2⟩
  ·exact (hs.ent k g h2).move _ (fun b hb => hbel b (hs.blk_lt h2 hb)) fun b hb => hbel b (hs.low b hb)
  ·exact EntOk.bare (hbr _ g h2) (hs'.ent (k - H.length + 1) g (by simpa using h2))
 ·rcases hown k g b hg hb with ⟨_, h2, h3, h4⟩ | ⟨h1, h2, h3, h4⟩ <;> rcases hown l g2 b hg2 hb2 with ⟨_, k2, k3, k4⟩ | ⟨k1, k2, k3, k4⟩
  ·exact hs.inj k l g g2 b h2 k2 h3 k3
  ·omega
  ·omega
  ·have := hs'.inj (k - H.length + 1) (l - H.length + 1) g g2 b (by simpa using h2) (by simpa using k2) h3 k3
   omega
 ·rcases hmb b hb with h1 | h1
  ·exact hs.out b h1 hS
  ·have := hs.low b hS; omega
end Go.AX

/-
 Contracts: a graph for the specification, and back (law), with memory that the caller may write.
-/
namespace Go.Proofs.YtgogonnnojcioaaGreatDoor
open Go.AX Go.RowKit Go.Core
set_option maxRecDepth 20000

def rowsP (p : CellP) : List RowD :=
 (match p.na with | some ad => [⟨9, 1, p.c.names.length, strC p.c.names, ad.block, p.nc⟩] | none => []) ++ (match p.ia with | some ad => [⟨3, 1, p.c.items.length, iC p.c.items, ad.block, p.ic⟩] | none => [])
def rowsG (m : List CellP) : List RowD := m.flatMap rowsP
theorem rowsG_snoc (m : List CellP) (p : CellP) : rowsG (m ++ [p]) = rowsG m ++ rowsP p := by unfold rowsG; rw [List.flatMap_append]; simp
structure OwnP (p : CellP) : Prop where
 na : ∀ ad, p.na = some ad → ad = ⟨ad.block, 0, none⟩
 ia : ∀ ad, p.ia = some ad → ad = ⟨ad.block, 0, none⟩
theorem rowF_sl {T : TypeId} {sz n : Nat} {xs : List Value} {b cap : Nat} {w : World} (h : RowF T sz n xs b cap w) : SlAt (some ⟨b, 0, none⟩) (n * sz) xs w := h.sl
theorem cellF_rows {p : CellP} (ho : CellOk p) (hw : OwnP p) {w : World} (h : ∀ r ∈ rowsP p, r.ok w) : CellF p w := by
 refine ⟨?_, ?_⟩
 ·cases hn : p.na with
  | none => rw [ho.na hn]; exact SlAt.nil
  | some ad =>
   rw [hw.na ad hn]
   exact rowF_sl (h ⟨9, 1, p.c.names.length, strC p.c.names, ad.block, p.nc⟩ (by unfold rowsP; rw [hn]; simp))
 ·cases hn : p.ia with
  | none => rw [ho.ia hn]; exact SlAt.nil
  | some ad =>
   rw [hw.ia ad hn]
   exact rowF_sl (h ⟨3, 1, p.c.items.length, iC p.c.items, ad.block, p.ic⟩ (by unfold rowsP; rw [hn]; simp))
theorem grF_rows {m : List CellP} (ho : ∀ p ∈ m, CellOk p) (hw : ∀ p ∈ m, OwnP p) {w : World} (h : famF (rowsG m) w) : ∀ p ∈ m, CellF p w := fun p hp =>
 cellF_rows (ho p hp) (hw p hp) fun r hr => h.2 r (List.mem_flatMap.2 ⟨p, hp, hr⟩)
def ownN (T : TypeId) (st : DSt) : List Ent := [.app T 5 (grC st.m) st.oa st.m.length st.oc, famE (rowsG st.m)]
structure OInv (l : List CellP) (st : DSt) : Prop where
 oa : st.oa = none → st.m = []
 c : st.m.map (·.c) = l.map (·.c)
 ok : ∀ p ∈ st.m, CellOk p
 own : ∀ p ∈ st.m, OwnP p
 cap : st.m.length ≤ st.oc
theorem OInv.gr {l : List CellP} {st : DSt} (h : OInv l st) {w : World} (h1 : SlAt st.oa (st.m.length * 5) (grC st.m) w) (h2 : famF (rowsG st.m) w) : GrF st.oa st.m w := ⟨h1, grF_rows h.ok h.own h2⟩
set_option maxHeartbeats 4000000 in
theorem as_o (a : Option Addr) (ca : Nat) (l : List CellP) (ha : a = none → l = []) (hs : Small l) (hok : ∀ p ∈ l, CellOk p) : SpecH Tryz.prog 32 (pvs [.slice a l.length ca]) [.fact (GrF a l)] (RetG (OInv l) (fun st => .slice st.oa st.m.length st.oc) (fun st => .dead :: ownN 87 st)) := by
 obtain ⟨hl, hsm⟩ := hs
 refine ownC hm Tryz.func32 (by kernel_rfl) rfl rfl (fun _ _ => okHB_eq rfl) (fun _ _ => by show 1 ≤ 3; decide) ?_
 (first | refine wX ?_ | exact wZ)
 refine LoopN.introS DSt (fun st => DInv l st ∧ ∀ p ∈ st.m, OwnP p) (fun ⟨i, oa, oc, m⟩ => mkS 35 0 [(0, .c (.v (.slice a l.length ca))), (3, .c (.v (.slice oa m.length oc))), (4, .c (.v (.int .i64 (i : Int))))]) (fun ⟨i, oa, oc, m⟩ => [.fact (GrF a l), .app 87 5 (grC m) oa m.length oc, famE (rowsG m)]) (fun ⟨i, _, _, _⟩ => l.length - i) [.app 87 5 [] none 0 0, .dead] rfl (fun _ => rfl) (fun _ => rfl) (fun _ _ => ⟨trivial, trivial, trivial, trivial⟩) ?_ ?_
 ·refine ⟨⟨0, none, 0, []⟩, ⟨⟨Nat.zero_le _, rfl, (fun p h => by cases h), (fun _ => rfl), Nat.le_refl _⟩, fun p h => by cases h⟩, ?_, _, (famNew 2 rfl).s, ?_⟩
  ·exact wKK
  ·exact ⟨wkE_refl _, wkE_refl _, wkE_refl _, trivial⟩
 rintro ⟨i, oa, oc, m⟩ ⟨hinv, hom⟩
 have hml := hinv.len
 obtain ⟨hi, hmc, hmo, hoa, hoc⟩ := hinv
 (first | refine wX ?_ | exact wZ)
 refine brd_dec (fun h1 => ?_) (fun h1 => ?_)
 ·obtain ⟨p, hp⟩ : ∃ p, l[i]? = some p := ⟨_, List.getElem?_eq_getElem (by omega)⟩
  have hpm := List.mem_of_getElem? hp
  have hpo := hok p hpm
  obtain ⟨hnl, hil⟩ := hsm p hpm
  have hsa : a.isSome = true := by
   cases a with
   | none => rw [ha rfl] at hp; cases hp
   | some b => rfl
  (first | refine wX ?_ | exact wZ)
  refine Nd.mk ⟨hsa, by omega, by omega⟩ ?_
  (first | refine wX ?_ | exact wZ)
  refine LdN.agg (cellC p) rfl (fun w hw => hw.1.1) rfl (fun k hk => by rw [Int.toNat_natCast]; exact grC_get l i k hk hp) ?_
  (first | refine wXB ?_ | exact wZB)
  refine BoxN.known [.int .i64 0, .int .i64 0, .string { data := #[] }, .slice none 0 0, .slice none 0 0] rfl fun cb => ?_
  (first | refine wXB ?_ | exact wZB)
  refine EffW.appTo (i := 3) (q := 0) (ys := cellC p) (cellC p) 5 rfl rfl rfl rfl rfl rfl rfl (Nat.le_of_ble_eq_true rfl) rfl rfl ?_
  (first | refine wXB ?_ | exact wZB)
  refine DrawN.planK hm (fun w => SlAt (some ⟨cb, 0, none⟩) 5 (cellC p) w) [7, 11] [0, 1, 3, 5, 8, 12] [(9, 1), (2, 1), (4, 1), (6, 1), (13, 1), (7, 2), (10, 0), (11, 2), (14, 0), (15, 0), (16, 0), (17, 0), (18, 0)] (by decide +kernel) (fun w hw => hw.2.2.2.1) ?_
  ((conv => whnf); (repeat ((first | refine Nd.mk (fun w hw => hw.2.2.2.1) ?_ | refine VrN.norm (wrap_i64 (by omega)) ?_ | refine VrN.keep ?_ | refine Nd.mk (by decide +kernel) ?_ | refine Nd.mk (by omega) ?_ | refine RdN.intro _ rfl (by rfl) ?_); (conv => whnf))))
  refine ReadC.one (a := some ⟨cb, 0, none⟩) (q := 3) (.slice p.na p.c.names.length p.nc) rfl rfl rfl (fun w hw => hw) rfl ?_
  ((conv => whnf); (repeat ((first | refine Nd.mk (fun w hw => hw.2.2.2.1) ?_ | refine VrN.norm (wrap_i64 (by omega)) ?_ | refine VrN.keep ?_ | refine Nd.mk (by decide +kernel) ?_ | refine Nd.mk (by omega) ?_ | refine RdN.intro _ rfl (by rfl) ?_); (conv => whnf))))
  refine ReadC.one (a := some ⟨cb, 0, none⟩) (q := 0) (.int .i64 p.c.kind) rfl rfl rfl (fun w hw => hw) rfl ?_
  ((conv => whnf); (repeat ((first | refine Nd.mk (fun w hw => hw.2.2.2.1) ?_ | refine VrN.norm (wrap_i64 (by omega)) ?_ | refine VrN.keep ?_ | refine Nd.mk (by decide +kernel) ?_ | refine Nd.mk (by omega) ?_ | refine RdN.intro _ rfl (by rfl) ?_); (conv => whnf))))
  refine ReadC.one (a := some ⟨cb, 0, none⟩) (q := 1) (.int .i64 p.c.num) rfl rfl rfl (fun w hw => hw) rfl ?_
  ((conv => whnf); (repeat ((first | refine Nd.mk (fun w hw => hw.2.2.2.1) ?_ | refine VrN.norm (wrap_i64 (by omega)) ?_ | refine VrN.keep ?_ | refine Nd.mk (by decide +kernel) ?_ | refine Nd.mk (by omega) ?_ | refine RdN.intro _ rfl (by rfl) ?_); (conv => whnf))))
  refine ReadC.one (a := some ⟨cb, 0, none⟩) (q := 2) (.string (bs p.c.text)) rfl rfl rfl (fun w hw => hw) rfl ?_
  ((conv => whnf); (repeat ((first | refine Nd.mk (fun w hw => hw.2.2.2.1) ?_ | refine VrN.norm (wrap_i64 (by omega)) ?_ | refine VrN.keep ?_ | refine Nd.mk (by decide +kernel) ?_ | refine Nd.mk (by omega) ?_ | refine RdN.intro _ rfl (by rfl) ?_); (conv => whnf))))
  refine ReadC.one (a := some ⟨cb, 0, none⟩) (q := 4) (.slice p.ia p.c.items.length p.ic) rfl rfl rfl (fun w hw => hw) rfl ?_
  ((conv => whnf); (repeat ((first | refine Nd.mk (fun w hw => hw.2.2.2.1) ?_ | refine VrN.norm (wrap_i64 (by omega)) ?_ | refine VrN.keep ?_ | refine Nd.mk (by decide +kernel) ?_ | refine Nd.mk (by omega) ?_ | refine RdN.intro _ rfl (by rfl) ?_); (conv => whnf))))
  intro nb
  ((conv => whnf); (repeat ((first | refine Nd.mk (fun w hw => hw.2.2.2.1) ?_ | refine VrN.norm (wrap_i64 (by omega)) ?_ | refine VrN.keep ?_ | refine Nd.mk (by decide +kernel) ?_ | refine Nd.mk (by omega) ?_ | refine RdN.intro _ rfl (by rfl) ?_); (conv => whnf))))
  refine app_any 4 [] (strC p.c.names) rfl (Nat.le_refl _) (fun h => by cases hq : p.na with | none => rw [hpo.na hq] at h; cases h | some b => rfl) (by show (strC p.c.names).length = p.c.names.length * 1; simp [strC]) (fun u hu => by obtain ⟨x, _, rfl⟩ := List.mem_map.1 hu; rfl) (fun w hw j v hv => (hw.1.2 p hpm).1.cell hv) ⟨⟨by show (0 + p.c.names.length) * 16 ≤ _; omega, by omega⟩, Nat.one_ne_zero⟩ fun nb2 nc2 hnc2 => ?_
  rw [Nat.zero_add, List.nil_append]
  ((conv => whnf); (repeat ((first | refine Nd.mk (fun w hw => hw.2.2.2.1) ?_ | refine VrN.norm (wrap_i64 (by omega)) ?_ | refine VrN.keep ?_ | refine Nd.mk (by decide +kernel) ?_ | refine Nd.mk (by omega) ?_ | refine RdN.intro _ rfl (by rfl) ?_); (conv => whnf))))
  intro ib
  ((conv => whnf); (repeat ((first | refine Nd.mk (fun w hw => hw.2.2.2.1) ?_ | refine VrN.norm (wrap_i64 (by omega)) ?_ | refine VrN.keep ?_ | refine Nd.mk (by decide +kernel) ?_ | refine Nd.mk (by omega) ?_ | refine RdN.intro _ rfl (by rfl) ?_); (conv => whnf))))
  refine app_any 5 [] (iC p.c.items) rfl (Nat.le_refl _) (fun h => by cases hq : p.ia with | none => rw [hpo.ia hq] at h; cases h | some b => rfl) (by show (iC p.c.items).length = p.c.items.length * 1; simp [iC]) (fun u hu => by obtain ⟨x, _, rfl⟩ := List.mem_map.1 hu; rfl) (fun w hw j v hv => (hw.1.2 p hpm).2.cell hv) ⟨⟨by show (0 + p.c.items.length) * 8 ≤ _; omega, by omega⟩, Nat.one_ne_zero⟩ fun ib2 ic2 hic2 => ?_
  rw [Nat.zero_add, List.nil_append]
  ((conv => whnf); (repeat ((first | refine Nd.mk (fun w hw => hw.2.2.2.1) ?_ | refine VrN.norm (wrap_i64 (by omega)) ?_ | refine VrN.keep ?_ | refine Nd.mk (by decide +kernel) ?_ | refine Nd.mk (by omega) ?_ | refine RdN.intro _ rfl (by rfl) ?_); (conv => whnf))))
  refine RwN.own ?_
  ((conv => whnf); (repeat ((first | refine Nd.mk (fun w hw => hw.2.2.2.1) ?_ | refine VrN.norm (wrap_i64 (by omega)) ?_ | refine VrN.keep ?_ | refine Nd.mk (by decide +kernel) ?_ | refine Nd.mk (by omega) ?_ | refine RdN.intro _ rfl (by rfl) ?_); (conv => whnf))))
  refine Nd.mk ⟨Nat.le_refl 1, rfl, rfl⟩ ?_
  (conv => whnf)
  refine AppN.grow 1 (grC m) (cellC ⟨p.c, some ⟨nb2, 0, none⟩, nc2, some ⟨ib2, 0, none⟩, ic2⟩) rfl rfl ⟨Nat.le_refl 1, ⟨by show (m.length + 1) * 80 ≤ _; omega, by omega⟩, by decide⟩ fun ob2 oc2 hoc2 _ => ?_
  ((conv => whnf); (repeat ((first | refine Nd.mk (fun w hw => hw.2.2.2.1) ?_ | refine VrN.norm (wrap_i64 (by omega)) ?_ | refine VrN.keep ?_ | refine Nd.mk (by decide +kernel) ?_ | refine Nd.mk (by omega) ?_ | refine RdN.intro _ rfl (by rfl) ?_); (conv => whnf))))
  have hm2 : m.length + 1 = (m ++ [(⟨p.c, some ⟨nb2, 0, none⟩, nc2, some ⟨ib2, 0, none⟩, ic2⟩ : CellP)]).length := by simp
  have hg2 := grC_snoc m ⟨p.c, some ⟨nb2, 0, none⟩, nc2, some ⟨ib2, 0, none⟩, ic2⟩
  have hrw := rowsG_snoc m ⟨p.c, some ⟨nb2, 0, none⟩, nc2, some ⟨ib2, 0, none⟩, ic2⟩
  refine ⟨⟨i + 1, some ⟨ob2, 0, none⟩, oc2, m ++ [⟨p.c, some ⟨nb2, 0, none⟩, nc2, some ⟨ib2, 0, none⟩, ic2⟩]⟩, ⟨⟨by omega, ?_, ?_, (fun h => by cases h), by omega⟩, ?_⟩, by show l.length - (i + 1) < l.length - i; omega, ?_, _, ((famPut 2 4 rfl rfl rfl (List.perm_append_singleton _ _).symm).trans (famPut 2 5 rfl rfl rfl (List.perm_append_singleton _ _).symm)).s, ?_⟩
  ·rw [List.take_add_one, hp, List.map_append, List.map_append, hmc]
   rfl
  ·intro q hq
   rcases List.mem_append.1 hq with hq | hq
   ·exact hmo q hq
   ·rw [List.mem_singleton.1 hq]
    exact ⟨(fun h => by cases h), (fun h => by cases h), hpo.nl, hpo.il, hpo.nw, hpo.tl, by show p.c.names.length ≤ nc2; omega, by show p.c.items.length ≤ ic2; omega⟩
  ·intro q hq
   rcases List.mem_append.1 hq with hq | hq
   ·exact hom q hq
   ·rw [List.mem_singleton.1 hq]
    exact ⟨fun ad h => by cases h; rfl, fun ad h => by cases h; rfl⟩
  ·(repeat' (first | exact trivial | refine And.intro (by with_reducible rfl) ?_ | (with_reducible exact wkC_refl _) | (with_reducible exact wkCs_refl _) | refine And.intro ?_ ?_))
   all_goals first | rfl | exact av_int (by omega) | (rw [hm2])
  ·show wkH _ [Ent.fact (GrF a l), .app 87 5 (grC (m ++ [_])) _ (m ++ [_]).length _, famE (rowsG (m ++ [_]))]
   rw [← hm2, hg2, hrw]
   refine ⟨wkE_refl _, wkE_refl _, ?_, trivial⟩
   rw [show rowsP (⟨p.c, some ⟨nb2, 0, none⟩, nc2, some ⟨ib2, 0, none⟩, ic2⟩ : CellP) = [⟨9, 1, p.c.names.length, strC p.c.names, nb2, nc2⟩] ++ [⟨3, 1, p.c.items.length, iC p.c.items, ib2, ic2⟩] from rfl, ← List.append_assoc]
   exact wkE_refl _
 ·have hil : i = l.length := by omega
  subst hil
  rw [List.take_length] at hmc
  (first | refine wX ?_ | exact wZ)
  exact ⟨⟨l.length, oa, oc, m⟩, ⟨hoa, hmc, hmo, hom, hoc⟩, rfl, trivial, wkE_refl _, wkE_refl _, trivial⟩
end Go.Proofs.YtgogonnnojcioaaGreatDoor
