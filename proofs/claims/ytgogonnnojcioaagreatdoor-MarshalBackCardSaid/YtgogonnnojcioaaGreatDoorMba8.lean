/-
  Lemmas (MP10 MC5 MC7 MD1 MD2 MD3 MA1 MP12 MP13 MP11 MP14 MP15 MP18 MP19 MD5 MC6 MC8 MD6 MC9 MC10 MC11 MC12 MC13 MD8 MP20).
-/
import Derived.Test.YtgogonnnojcioaaGreatDoorMba7
set_option linter.unusedVariables false
set_option linter.unusedSimpArgs false
namespace Go.Marshal
open Go.Core
theorem img_mem {g h : List Cell} {k : Int} {org : List Int} (m : Img g h k org) {i : Int} (hi : InI h i) {l : List Int} (hl : ∀ x ∈ l, InI h x ∧ shared (at_ h x)) : lk org i ∈ l.map (lk org) ↔ i ∈ l := by
 constructor
 ·intro hm
  obtain ⟨x, hx, he⟩ := List.mem_map.1 hm
  exact m.inj i x hi (hl x hx).1 (hl x hx).2 he.symm ▸ hx
 ·exact fun hm => List.mem_map.2 ⟨i, hm, rfl⟩
theorem img_full {leafT : Cell → List UInt8} (hlf : ∀ c d : Cell, c.kind = d.kind → c.num = d.num → c.text = d.text → leafT c = leafT d) {g h : List Cell} {k : Int} {org : List Int} (m : Img g h k org) :
  ∀ (n : Nat) (way : List Int) (a : Int), InI h a → (∀ x ∈ way, InI h x ∧ shared (at_ h x)) → fullT leafT g n (way.map (lk org)) (lk org a) = fullT leafT h n way a
 | 0, _, _, _, _ => rfl
 | n + 1, way, a, ha, hw => by
  unfold fullT
  rw [m.cell a ha]
  have e1 : isLeaf (reNum (lk org) (at_ h a)) = isLeaf (at_ h a) := rfl
  have e2 : frontT (reNum (lk org) (at_ h a)) = frontT (at_ h a) := rfl
  have e3 : markT (reNum (lk org) (at_ h a)) = markT (at_ h a) := rfl
  have e4 : backT (reNum (lk org) (at_ h a)) = backT (at_ h a) := rfl
  have e5 : preT (reNum (lk org) (at_ h a)) = preT (at_ h a) := rfl
  have e6 : (reNum (lk org) (at_ h a)).items = (at_ h a).items.map (lk org) := rfl
  rw [e1, e2, e3, e4, e5, e6, hlf (reNum (lk org) (at_ h a)) (at_ h a) rfl rfl rfl]
  split
  ·rfl
  rename_i hlf2
  by_cases hm : a ∈ way
  ·rw [if_pos ((img_mem m ha hw).2 hm), if_pos hm]
  ·rw [if_neg (fun k => hm ((img_mem m ha hw).1 k)), if_neg hm, emb_cat (G := fullT leafT h n (way ++ [a])) _ _ fun k hk => ?_]
   have hwa : ∀ x ∈ way ++ [a], InI h x ∧ shared (at_ h x) := fun x hx => (List.mem_append.1 hx).elim (hw x) fun hx => by
    rw [List.mem_singleton.1 hx]
    refine ⟨ha, ?_⟩
    unfold isLeaf at hlf2
    have := of_decide_eq_false (Bool.not_eq_true _ ▸ hlf2)
    exact .inr (by omega)
   have := img_full hlf m n (way ++ [a]) k (outs_in m.inG ha hk) hwa
   rw [List.map_append, List.map_cons, List.map_nil] at this
   exact this
theorem img_text {lf : Cell → List UInt8} (hlf : ∀ c d : Cell, c.kind = d.kind → c.num = d.num → c.text = d.text → lf c = lf d) {g h : List Cell} (hg : InG g) {k : Int} {org : List Int} (m : Img g h k org) {a : Int} (ha : InI h a) : fullL lf g (lk org a) = fullL lf h a := by
 have h1 := free_le g []
 have h2 := free_le h []
 have e := img_full hlf m (g.length + h.length + 2) [] a ha (fun x hx => by cases hx)
 unfold fullL
 rw [full_stab hg (g.length + 2) (g.length + h.length + 2) [] _ (m.inI a ha) (by omega) (by omega), full_stab m.inG (h.length + 2) (g.length + h.length + 2) [] a ha (by omega) (by omega)]
 exact e
theorem img_eqv {g h : List Cell} (hg : InG g) {k : Int} {org : List Int} (m : Img g h k org) {a : Int} (ha : InI h a) : Eqv (joinS g h) (lk org a, a + (g.length : Int)) := by
 refine eqv_closed (fun q => ∃ i, InI h i ∧ q = (lk org i, i + (g.length : Int))) ⟨a, ha, rfl⟩ ?_
 rintro q ⟨i, hi, rfl⟩
 have e1 : at_ (joinS g h) (lk org i) = reNum (lk org) (at_ h i) := by
  have := (join_emb1 (h := h) hg).cell (lk org i) (m.inI i hi)
  rw [id] at this
  rw [this, m.cell i hi]
  unfold reNum
  simp
 have e2 : at_ (joinS g h) (i + (g.length : Int)) = reNum (fun i => i + (g.length : Int)) (at_ h i) := (join_emb2 m.inG).cell i hi
 refine ⟨?_, fun r hr => ?_⟩
 ·unfold ok alikeB
  simp only [e1, e2]
  unfold reNum
  simp
 ·unfold nextP at hr
  simp only [e1, e2] at hr
  unfold reNum at hr
  simp only at hr
  obtain ⟨j, hj⟩ := List.getElem?_of_mem hr
  obtain ⟨hj1, hj2⟩ := List.getElem?_zip_eq_some.1 hj
  simp only [List.getElem?_map, Option.map_eq_some_iff] at hj1 hj2
  obtain ⟨x, hx1, hx2⟩ := hj1
  obtain ⟨y, hy1, hy2⟩ := hj2
  rw [hx1] at hy1
  obtain rfl := Option.some.inj hy1
  exact ⟨x, outs_in m.inG hi (List.mem_of_getElem? hx1), Prod.ext hx2.symm hy2.symm⟩
structure Tw (g h : List Cell) (org : List Int) (v w : Wr) : Prop where
 out : v.out = w.out
 ss : v.ss = w.ss
 cells : v.cells = w.cells.map (lk org)
 rng : ∀ x ∈ w.cells, InI h x ∧ shared (at_ h x)
theorem Tw.put {g h : List Cell} {org : List Int} {v w : Wr} (t : Tw g h org v w) (b : B) : Tw g h org (putW v b) (putW w b) :=
 ⟨by show v.out ++ b = w.out ++ b; rw [t.out], t.ss, t.cells, t.rng⟩
theorem Tw.sym {g h : List Cell} {org : List Int} {v w : Wr} (t : Tw g h org v w) (s : B) : Tw g h org (symW v s) (symW w s) := by
 unfold symW
 rw [t.ss]
 split
 ·exact t.put _
 ·exact ⟨by rw [t.out], by simp only, t.cells, t.rng⟩
theorem Tw.fold {α β : Type} {g h : List Cell} {org : List Int} {f : Wr → α → Wr} {f2 : Wr → β → Wr} {φ : β → α} {m n : Nat} : ∀ (l : List β) (v w : Wr), (∀ v w, ∀ x ∈ l, freeN g v.cells < m → freeN h w.cells < n → Tw g h org v w → Tw g h org (f v (φ x)) (f2 w x)) → (∀ v x, Gone v (f v x)) → (∀ v x, Gone v (f2 v x)) → freeN g v.cells < m → freeN h w.cells < n → Tw g h org v w → Tw g h org ((l.map φ).foldl f v) (l.foldl f2 w)
 | [], _, _, _, _, _, _, _, t => t
 | x :: l, v, w, hf, g1, g2, hm, hn, t => by
  rw [List.map_cons, List.foldl_cons, List.foldl_cons]
  exact Tw.fold l _ _ (fun v w y hy => hf v w y (by simp [hy])) g1 g2 (Nat.lt_of_le_of_lt (free_mono (g1 v (φ x)).sub) hm) (Nat.lt_of_le_of_lt (free_mono (g2 w x).sub) hn) (hf v w x (by simp) hm hn t)
theorem zip_map_r {α β γ : Type} (φ : β → γ) : ∀ (l : List α) (m : List β), l.zip (m.map φ) = (l.zip m).map fun p => (p.1, φ p.2)
 | [], _ => by simp
 | x :: l, [] => by simp
 | x :: l, y :: m => by rw [List.map_cons, List.zip_cons_cons, List.zip_cons_cons, List.map_cons, zip_map_r φ l m]
def writeC (f : Wr → Int → Wr) (c : Cell) (w : Wr) (a : Int) : Wr :=
  if c.kind = 0 then putW w [48]
  else if c.kind = 1 then putW w [84]
  else if c.kind = 2 then putW w [70]
  else if c.kind = 3 then putW w (105 :: num (sgn c.num))
  else if c.kind = 5 then symW w c.text
  else if a ∈ w.cells then putW w (64 :: num (w.cells.idxOf a))
  else if c.kind = 4 then putW { w with cells := w.cells ++ [a] } (34 :: (num c.text.length ++ c.text))
   else if c.kind = 6 then c.items.foldl f (putW { w with cells := w.cells ++ [a] } (91 :: num c.items.length))
   else if c.kind = 7 then c.items.foldl f (putW { w with cells := w.cells ++ [a] } (123 :: num (c.items.length / 2)))
   else (c.names.zip c.items).foldl (fun w p => f (symW w p.1) p.2) (putW (symW (putW { w with cells := w.cells ++ [a] } [111]) c.text) (num c.names.length))
theorem writeF_eq (g : List Cell) (n : Nat) (w : Wr) (a : Int) : writeF g (n + 1) w a = writeC (writeF g n) (at_ g a) w a := rfl
theorem writeC_re (f : Wr → Int → Wr) (φ : Int → Int) (c : Cell) (w : Wr) (a : Int) : writeC f (reNum φ c) w a =
  if c.kind = 0 then putW w [48]
  else if c.kind = 1 then putW w [84]
  else if c.kind = 2 then putW w [70]
  else if c.kind = 3 then putW w (105 :: num (sgn c.num))
  else if c.kind = 5 then symW w c.text
  else if a ∈ w.cells then putW w (64 :: num (w.cells.idxOf a))
  else if c.kind = 4 then putW { w with cells := w.cells ++ [a] } (34 :: (num c.text.length ++ c.text))
   else if c.kind = 6 then (c.items.map φ).foldl f (putW { w with cells := w.cells ++ [a] } (91 :: num c.items.length))
   else if c.kind = 7 then (c.items.map φ).foldl f (putW { w with cells := w.cells ++ [a] } (123 :: num (c.items.length / 2)))
   else (c.names.zip (c.items.map φ)).foldl (fun w p => f (symW w p.1) p.2) (putW (symW (putW { w with cells := w.cells ++ [a] } [111]) c.text) (num c.names.length)) := by
 rw [show c.items.length = (c.items.map φ).length from (List.length_map _).symm]
 rfl
theorem img_write {g h : List Cell} {k : Int} {org : List Int} (hc : ∀ c ∈ h, 0 ≤ c.kind) (m : Img g h k org) : ∀ (n q : Nat) (v w : Wr) (a : Int), InI h a → freeN g v.cells < q → freeN h w.cells < n → Tw g h org v w → Tw g h org (writeF g q v (lk org a)) (writeF h n w a)
 | 0, _, _, _, _, _, _, h, _ => by omega
 | _ + 1, 0, _, _, _, _, h, _, _ => by omega
 | n + 1, q + 1, v, w, a, ha, hq, hn, t => by
  have hka := hc _ (at_mem ha)
  rw [writeF_eq, writeF_eq, m.cell a ha, writeC_re]
  unfold writeC
  by_cases k0 : (at_ h a).kind = 0
  ·rw [if_pos k0, if_pos k0]
   exact t.put _
  rw [if_neg k0, if_neg k0]
  by_cases k1 : (at_ h a).kind = 1
  ·rw [if_pos k1, if_pos k1]
   exact t.put _
  rw [if_neg k1, if_neg k1]
  by_cases k2 : (at_ h a).kind = 2
  ·rw [if_pos k2, if_pos k2]
   exact t.put _
  rw [if_neg k2, if_neg k2]
  by_cases k3 : (at_ h a).kind = 3
  ·rw [if_pos k3, if_pos k3]
   exact t.put _
  rw [if_neg k3, if_neg k3]
  by_cases k5 : (at_ h a).kind = 5
  ·rw [if_pos k5, if_pos k5]
   exact t.sym _
  rw [if_neg k5, if_neg k5]
  have hsh : shared (at_ h a) := by unfold shared; omega
  by_cases hm : a ∈ w.cells
  ·have hm2 : lk org a ∈ v.cells := by rw [t.cells]; exact List.mem_map.2 ⟨a, hm, rfl⟩
   rw [if_pos hm, if_pos hm2]
   have e : v.cells.idxOf (lk org a) = w.cells.idxOf a := by
    have := place_map (φ := lk org) (l := w.cells) (x := a) fun y hy e => m.inj y a (t.rng y hy).1 ha hsh e
    unfold place at this
    rw [t.cells]
    omega
   rw [e]
   exact t.put _
  ·have hm2 : lk org a ∉ v.cells := by rw [t.cells]; exact fun k => hm ((img_mem m ha t.rng).1 k)
   rw [if_neg hm, if_neg hm2]
   have hl1 := free_lt (m.inI a ha) hm2 (t := v.cells ++ [lk org a]) (fun x hx => by simp [hx]) (by simp)
   have hl2 := free_lt ha hm (t := w.cells ++ [a]) (fun x hx => by simp [hx]) (by simp)
   have t2 : Tw g h org { v with cells := v.cells ++ [lk org a] } { w with cells := w.cells ++ [a] } :=
    ⟨t.out, t.ss, by simp [t.cells], fun x hx => (List.mem_append.1 hx).elim (t.rng x) fun hx => by rw [List.mem_singleton.1 hx]; exact ⟨ha, hsh⟩⟩
   have step : ∀ v w, ∀ x ∈ (at_ h a).items, freeN g v.cells < q → freeN h w.cells < n → Tw g h org v w → Tw g h org (writeF g q v (lk org x)) (writeF h n w x) := fun v w x hx h1 h2 t => img_write hc m n q v w x (outs_in m.inG ha hx) h1 h2 t
   by_cases k4 : (at_ h a).kind = 4
   ·rw [if_pos k4, if_pos k4]
    exact t2.put _
   rw [if_neg k4, if_neg k4]
   by_cases k6 : (at_ h a).kind = 6
   ·rw [if_pos k6, if_pos k6]
    exact Tw.fold (φ := lk org) (m := q) (n := n) _ _ _ step (gone_write g q) (gone_write h n) (by rw [put_cells]; show freeN g (v.cells ++ [lk org a]) < q; omega) (by rw [put_cells]; show freeN h (w.cells ++ [a]) < n; omega) (t2.put _)
   rw [if_neg k6, if_neg k6]
   by_cases k7 : (at_ h a).kind = 7
   ·rw [if_pos k7, if_pos k7]
    exact Tw.fold (φ := lk org) (m := q) (n := n) _ _ _ step (gone_write g q) (gone_write h n) (by rw [put_cells]; show freeN g (v.cells ++ [lk org a]) < q; omega) (by rw [put_cells]; show freeN h (w.cells ++ [a]) < n; omega) (t2.put _)
   ·rw [if_neg k7, if_neg k7, zip_map_r]
    refine Tw.fold (φ := fun p : B × Int => (p.1, lk org p.2)) (f := pairW g q) (f2 := pairW h n) (m := q) (n := n) _ _ _ (fun v w p hp h1 h2 t => ?_) (gone_pair g q) (gone_pair h n) (by rw [put_cells, sym_cells, put_cells]; show freeN g (v.cells ++ [lk org a]) < q; omega) (by rw [put_cells, sym_cells, put_cells]; show freeN h (w.cells ++ [a]) < n; omega) (((t2.put _).sym _).put _)
    exact step (symW v p.1) (symW w p.1) p.2 (List.of_mem_zip (a := p.1) (b := p.2) hp).2 (by rw [sym_cells]; exact h1) (by rw [sym_cells]; exact h2) (t.sym _)
theorem img_dump {g h : List Cell} {k : Int} {org : List Int} (hv : ValidP h) (m : Img g h k org) : dumpS h 0 = dumpS g k := by
 have t := img_write (fun c hc => (cellD_kind (hv.2.1 c hc)).1) m (h.length + 1) (g.length + 1) ⟨headB, [], []⟩ ⟨headB, [], []⟩ 0 m.root.1 (Nat.lt_succ_of_le (free_le g [])) (Nat.lt_succ_of_le (free_le h [])) ⟨rfl, rfl, rfl, fun _ h => by cases h⟩
 rw [m.root.2] at t
 exact t.out.symm
structure Lim (w : Wr) : Prop where
 o : w.out.length ≤ 90000000000
 s : w.ss.length ≤ 90000000000
 c : w.cells.length ≤ 90000000000
theorem Gone.lim {w w' : Wr} (h : Gone w w') (k : Lim w') : Lim w := by
 obtain ⟨b, cs, ts, rfl⟩ := h
 have h1 := k.o
 have h2 := k.s
 have h3 := k.c
 simp only [List.length_append] at h1 h2 h3
 exact ⟨by omega, by omega, by omega⟩
theorem fold_lim {α : Type} {f : Wr → α → Wr} (hf : ∀ w x, Gone w (f w x)) {l : List α} {w : Wr} (h : Lim (l.foldl f w)) (k : Nat) : Lim ((l.take k).foldl f w) := by
 have e : l.foldl f w = (l.drop k).foldl f ((l.take k).foldl f w) := by rw [← List.foldl_append, List.take_append_drop]
 rw [e] at h
 exact (gone_fold hf _ _).lim h
theorem writeC_met {f : Wr → Int → Wr} {c : Cell} {w : Wr} {a : Int} (hk : c.kind = 4 ∨ 6 ≤ c.kind) (hm : a ∈ w.cells) : writeC f c w a = putW w (64 :: num (w.cells.idxOf a)) := by
 unfold writeC
 rw [if_neg (by omega), if_neg (by omega), if_neg (by omega), if_neg (by omega), if_neg (by omega), if_pos hm]
theorem writeC_new {f : Wr → Int → Wr} {c : Cell} {w : Wr} {a : Int} (hk : c.kind = 4 ∨ 6 ≤ c.kind) (hm : a ∉ w.cells) : writeC f c w a = if c.kind = 4 then putW { w with cells := w.cells ++ [a] } (34 :: (num c.text.length ++ c.text))
   else if c.kind = 6 then c.items.foldl f (putW { w with cells := w.cells ++ [a] } (91 :: num c.items.length))
   else if c.kind = 7 then c.items.foldl f (putW { w with cells := w.cells ++ [a] } (123 :: num (c.items.length / 2)))
   else (c.names.zip c.items).foldl (fun w p => f (symW w p.1) p.2) (putW (symW (putW { w with cells := w.cells ++ [a] } [111]) c.text) (num c.names.length)) := by
 unfold writeC
 rw [if_neg (by omega), if_neg (by omega), if_neg (by omega), if_neg (by omega), if_neg (by omega), if_neg hm]
theorem put_out (w : Wr) (b : B) : (putW w b).out = w.out ++ b := rfl
theorem fold_next {α β : Type} {f : β → α → β} {l : List α} {k : Nat} {x : α} {b : β} (h : l[k]? = some x) : (l.take (k + 1)).foldl f b = f ((l.take k).foldl f b) x := by
 rw [List.take_add_one, h, List.foldl_append]
 rfl
end Go.Marshal
namespace Go.Proofs.YtgogonnnojcioaaGreatDoor
open Go.AX Go.RowKit Go.Core Go.Marshal
set_option maxRecDepth 20000
set_option maxHeartbeats 4000000 in
theorem cell_m {a : Option Addr} (ca : Nat) {l : List CellP} (ha : a = none → l = []) (hok : ∀ p ∈ l, CellOk p) (hg : InG (l.map (·.c))) {K : Nat} (hc : ∀ i, InI (l.map (·.c)) i → CellW K (at_ (l.map (·.c)) i)) (hl2 : l.length ≤ 2000) (mb sb : Nat) :
  ∀ (n : Nat) (w : Wr) (i : BSt) (q : MapP) (u : Nat), u < l.length → freeN (l.map (·.c)) w.cells < n → WOk w (i, q) → Lim (writeF (l.map (·.c)) n w (u : Int)) →
  SpecH Tryz.prog 35 [.c (.lp 0 0), .c (.v (.int .i64 (u : Int)))] (wM (.slice a l.length ca) (GrF a l) true w.out i mb sb q) (wOut (.slice a l.length ca) (GrF a l) mb sb (writeF (l.map (·.c)) n w (u : Int))) := by
 intro n
 induction n with
 | zero => intro w i q u _ h; omega
 | succ n ih =>
  intro w i q u hu hn ho hlim
  obtain ⟨p, hp⟩ : ∃ p, l[u]? = some p := ⟨_, List.getElem?_eq_getElem hu⟩
  have hpm := List.mem_of_getElem? hp
  have hpo := hok p hpm
  have hin : InI (l.map (·.c)) (u : Int) := ⟨by omega, by simp; omega⟩
  have hcw := hc (u : Int) hin
  have hat : at_ (l.map (·.c)) (u : Int) = p.c := at_map hp
  rw [hat] at hcw
  have hlw := (gone_write (l.map (·.c)) (n + 1) w (u : Int)).lim hlim
  have hlo := hlw.o
  have hls := hlw.s
  have hlc := hlw.c
  have hsa : a.isSome = true := by
   cases a with
   | none => rw [ha rfl] at hu; exact absurd hu (Nat.not_lt_zero _)
   | some b => rfl
  have houts : ∀ x ∈ p.c.items, InI (l.map (·.c)) x := fun x hx => outs_in hg hin (by unfold outs; rw [hat]; exact hx)
  have hkk := hcw.kind
  have htx := hcw.text
  obtain ⟨⟨kind, num0, text, names, items⟩, na, nc, ia, ic⟩ := p
  simp only at hkk htx hat hcw hpo houts
  obtain ⟨gv, hgv⟩ : ∃ gv, gv = Value.slice a l.length ca := ⟨_, rfl⟩
  obtain ⟨F, hF⟩ : ∃ F, F = GrF a l := ⟨_, rfl⟩
  rw [writeF_eq, hat] at hlim
  obtain rfl | rfl | rfl | rfl | rfl | rfl | rfl | rfl | rfl : kind = 0 ∨ kind = 1 ∨ kind = 2 ∨ kind = 3 ∨ kind = 4 ∨ kind = 5 ∨ kind = 6 ∨ kind = 7 ∨ kind = 8 := by omega
  ·-- 0: the kind, 48: the byte
   rw [writeF_eq, hat]
   refine ownC hm Tryz.func35 (by kernel_rfl) rfl rfl (fun _ _ => wM_ok _ _ _ _ _ _ _ _) (fun _ _ => Nat.le_refl _) ?_
   refine wXD ?_
   refine Nd.mk ⟨hsa, by omega, by omega⟩ ?_
   refine wXD ?_
   refine LdN.agg [.int .i64 0, .int .i64 num0, .string (bs text), .slice na names.length nc, .slice ia items.length ic] rfl (fun w hw => hw.2.2.2.1.1) rfl (fun k hk => by rw [Int.toNat_natCast]; exact grC_get l u k hk hp) ?_
   refine wXD ?_
   refine DrawN.planQ [0, 3] [1, 2, 4, 5] [(6, 0)] (by decide +kernel) ?_
   refine wXD ?_
   refine callG (WriteByte_m (.slice a l.length ca) (GrF a l) mb sb q true w.out 48 i (by omega)) [0, 1, 2, 3, 4] rfl ⟨rfl, rfl, rfl, rfl, rfl, trivial⟩ rfl fun i2 hi2 => ?_
   refine wXD ?_
   exact ⟨(i2, q), ⟨hi2, ho.c, ho.s⟩, rfl, wkE_refl _, wkE_refl _, wkE_refl _, wkE_refl _, wkE_refl _, trivial⟩
  ·-- 1: the kind, 84: the byte
   rw [writeF_eq, hat]
   refine ownC hm Tryz.func35 (by kernel_rfl) rfl rfl (fun _ _ => wM_ok _ _ _ _ _ _ _ _) (fun _ _ => Nat.le_refl _) ?_
   refine wXD ?_
   refine Nd.mk ⟨hsa, by omega, by omega⟩ ?_
   refine wXD ?_
   refine LdN.agg [.int .i64 1, .int .i64 num0, .string (bs text), .slice na names.length nc, .slice ia items.length ic] rfl (fun w hw => hw.2.2.2.1.1) rfl (fun k hk => by rw [Int.toNat_natCast]; exact grC_get l u k hk hp) ?_
   refine wXD ?_
   refine DrawN.planQ [0, 3] [1, 2, 4, 5] [(6, 0)] (by decide +kernel) ?_
   refine wXD ?_
   refine callG (WriteByte_m (.slice a l.length ca) (GrF a l) mb sb q true w.out 84 i (by omega)) [0, 1, 2, 3, 4] rfl ⟨rfl, rfl, rfl, rfl, rfl, trivial⟩ rfl fun i2 hi2 => ?_
   refine wXD ?_
   exact ⟨(i2, q), ⟨hi2, ho.c, ho.s⟩, rfl, wkE_refl _, wkE_refl _, wkE_refl _, wkE_refl _, wkE_refl _, trivial⟩
  ·-- 2: the kind, 70: the byte
   rw [writeF_eq, hat]
   refine ownC hm Tryz.func35 (by kernel_rfl) rfl rfl (fun _ _ => wM_ok _ _ _ _ _ _ _ _) (fun _ _ => Nat.le_refl _) ?_
   refine wXD ?_
   refine Nd.mk ⟨hsa, by omega, by omega⟩ ?_
   refine wXD ?_
   refine LdN.agg [.int .i64 2, .int .i64 num0, .string (bs text), .slice na names.length nc, .slice ia items.length ic] rfl (fun w hw => hw.2.2.2.1.1) rfl (fun k hk => by rw [Int.toNat_natCast]; exact grC_get l u k hk hp) ?_
   refine wXD ?_
   refine DrawN.planQ [0, 3] [1, 2, 4, 5] [(6, 0)] (by decide +kernel) ?_
   refine wXD ?_
   refine callG (WriteByte_m (.slice a l.length ca) (GrF a l) mb sb q true w.out 70 i (by omega)) [0, 1, 2, 3, 4] rfl ⟨rfl, rfl, rfl, rfl, rfl, trivial⟩ rfl fun i2 hi2 => ?_
   refine wXD ?_
   exact ⟨(i2, q), ⟨hi2, ho.c, ho.s⟩, rfl, wkE_refl _, wkE_refl _, wkE_refl _, wkE_refl _, wkE_refl _, trivial⟩
  ·have hnb := hcw.num rfl
   have hmx : maxN = 1000000000000000 := rfl
   simp only at hnb
   rw [writeF_eq, hat]
   refine ownC hm Tryz.func35 (by kernel_rfl) rfl rfl (fun _ _ => wM_ok _ _ _ _ _ _ _ _) (fun _ _ => Nat.le_refl _) ?_
   refine wXD ?_
   refine Nd.mk ⟨hsa, by omega, by omega⟩ ?_
   refine wXD ?_
   refine LdN.agg [.int .i64 3, .int .i64 num0, .string (bs text), .slice na names.length nc, .slice ia items.length ic] rfl (fun w hw => hw.2.2.2.1.1) rfl (fun k hk => by rw [Int.toNat_natCast]; exact grC_get l u k hk hp) ?_
   refine wXD ?_
   refine brd_dec (fun h => ?_) (fun h => ?_)
   ·have hs : ((Marshal.sgn num0 : Nat) : Int) = -2 * num0 - 1 := by unfold Marshal.sgn; rw [if_pos h]; omega
    have hsl : Marshal.sgn num0 ≤ 2000000000000000 := by unfold Marshal.sgn; split <;> omega
    refine wXD ?_
    try rw [show IntKind.i64.wrap (IntKind.i64.wrap (-2 * num0) - 1) = ((Marshal.sgn num0 : Nat) : Int) by first | exact hs.symm | (rw [hs, wrap_i64 (x := -2 * num0) (by omega), wrap_i64 (by omega)])]
    generalize hk : Marshal.sgn num0 = k at hs hsl ⊢
    refine DrawN.planQ [0, 3] [1, 2, 4, 5] [(6, 0)] (by decide +kernel) ?_
    refine wXD ?_
    have hnl := num_len (n := k) (by omega)
    refine callQ (wide_c (k) (by omega) _) ?_
    refine wXD ?_
    refine Nd.mk (by rw [bs_size]; show 1 + _ < _; omega) ?_
    rw [show (⟨#[105]⟩ : ByteArray) = bs [105] from rfl, bs_app]
    refine wXD ?_
    refine callG (WriteString_m (.slice a l.length ca) (GrF a l) mb sb (q) true (w.out) ([105] ++ num k) i ho.b (by first | omega | (simp; omega))) [0, 1, 2, 3, 4] rfl ⟨rfl, rfl, rfl, rfl, rfl, trivial⟩ rfl fun i2 hi2 => ?_
    refine wXD ?_
    have he : writeC (writeF (l.map (·.c)) n) ⟨3, num0, text, names, items⟩ w (u : Int) = putW w (105 :: num k) := by rw [← hk]; rfl
    rw [he]
    exact ⟨(i2, q), ⟨hi2, ho.c, ho.s⟩, rfl, wkE_refl _, wkE_refl _, wkE_refl _, wkE_refl _, wkE_refl _, trivial⟩
   ·have hs : ((Marshal.sgn num0 : Nat) : Int) = 2 * num0 := by unfold Marshal.sgn; rw [if_neg h]; omega
    have hsl : Marshal.sgn num0 ≤ 2000000000000000 := by unfold Marshal.sgn; split <;> omega
    refine wXD ?_
    try rw [show 2 * num0 = ((Marshal.sgn num0 : Nat) : Int) by first | exact hs.symm | (rw [hs, wrap_i64 (x := -2 * num0) (by omega), wrap_i64 (by omega)])]
    generalize hk : Marshal.sgn num0 = k at hs hsl ⊢
    refine DrawN.planQ [0, 3] [1, 2, 4, 5] [(6, 0)] (by decide +kernel) ?_
    refine wXD ?_
    have hnl := num_len (n := k) (by omega)
    refine callQ (wide_c (k) (by omega) _) ?_
    refine wXD ?_
    refine Nd.mk (by rw [bs_size]; show 1 + _ < _; omega) ?_
    rw [show (⟨#[105]⟩ : ByteArray) = bs [105] from rfl, bs_app]
    refine wXD ?_
    refine callG (WriteString_m (.slice a l.length ca) (GrF a l) mb sb (q) true (w.out) ([105] ++ num k) i ho.b (by first | omega | (simp; omega))) [0, 1, 2, 3, 4] rfl ⟨rfl, rfl, rfl, rfl, rfl, trivial⟩ rfl fun i2 hi2 => ?_
    refine wXD ?_
    have he : writeC (writeF (l.map (·.c)) n) ⟨3, num0, text, names, items⟩ w (u : Int) = putW w (105 :: num k) := by rw [← hk]; rfl
    rw [he]
    exact ⟨(i2, q), ⟨hi2, ho.c, ho.s⟩, rfl, wkE_refl _, wkE_refl _, wkE_refl _, wkE_refl _, wkE_refl _, trivial⟩
  ·-- 4: the kind
   rw [writeF_eq, hat]
   refine ownC hm Tryz.func35 (by kernel_rfl) rfl rfl (fun _ _ => wM_ok _ _ _ _ _ _ _ _) (fun _ _ => Nat.le_refl _) ?_
   refine wXD ?_
   refine Nd.mk ⟨hsa, by omega, by omega⟩ ?_
   refine wXD ?_
   refine LdN.agg [.int .i64 4, .int .i64 num0, .string (bs text), .slice na names.length nc, .slice ia items.length ic] rfl (fun w hw => hw.2.2.2.1.1) rfl (fun k hk => by rw [Int.toNat_natCast]; exact grC_get l u k hk hp) ?_
   refine wXD ?_
   refine ReadW.askKey (et := 3) (p := (u : Int)) (idxR w.cells) rfl (by kernel_rfl) intT rfl rfl rfl rfl (fun w hw => hw.2.1) ho.c ?_
   rw [idxR_look]
   by_cases hm : (u : Int) ∈ w.cells
   ·have hi := List.idxOf_lt_length_iff.2 hm
    rw [if_pos hm, show writeC (writeF (l.map (·.c)) n) ⟨4, num0, text, names, items⟩ w (u : Int) = putW w (64 :: num (w.cells.idxOf (u : Int))) from writeC_met (by simp) hm]
    generalize w.cells.idxOf (u : Int) = k at hi ⊢
    refine wXD ?_
    refine DrawN.planQ [0, 3] [1, 2, 4, 5] [(6, 0)] (by decide +kernel) ?_
    refine wXD ?_
    have hnl := num_len (n := k) (by omega)
    refine callQ (wide_c (k) (by omega) _) ?_
    refine wXD ?_
    refine Nd.mk (by rw [bs_size]; show 1 + _ < _; omega) ?_
    rw [show (⟨#[64]⟩ : ByteArray) = bs [64] from rfl, bs_app]
    refine wXD ?_
    refine callG (WriteString_m (.slice a l.length ca) (GrF a l) mb sb (q) true (w.out) ([64] ++ num k) i ho.b (by first | omega | (simp; omega))) [0, 1, 2, 3, 4] rfl ⟨rfl, rfl, rfl, rfl, rfl, trivial⟩ rfl fun i2 hi2 => ?_
    refine wXD ?_
    exact ⟨(i2, q), ⟨hi2, ho.c, ho.s⟩, rfl, wkE_refl _, wkE_refl _, wkE_refl _, wkE_refl _, wkE_refl _, trivial⟩
   rw [if_neg hm]
   refine wXD ?_
   refine DrawN.planQ [0, 4, 5] [1, 2, 3, 6, 7, 8, 9] [(10, 0)] (by decide +kernel) ?_
   refine wXD ?_
   refine ReadW.mapLen (kt := 3) (et := 3) w.cells.length rfl rfl rfl (by kernel_rfl) rfl (fun w hw => hw.2.1) (by rw [← Array.length_toList, ho.c.len, idxR_len]) ?_
   refine wXD ?_
   refine EffW.setMap (et := 3) (p := (u : Int)) 2 (idxR w.cells) rfl (by kernel_rfl) intT rfl rfl rfl rfl ho.c fun es2 c2 hk2 => ?_
   rw [idxR_put hm] at hk2
   refine wXD ?_
   obtain ⟨w1, hw1⟩ : ∃ w1 : Wr, w1 = { w with cells := w.cells ++ [(u : Int)] } := ⟨_, rfl⟩
   have ho1 : WOk w1 (i, ⟨es2, c2, q.se, q.sc⟩) := by rw [hw1]; exact ⟨ho.b, hk2, ho.s⟩
   have ho1o : w1.out = w.out := by rw [hw1]
   have hlt := free_lt hin hm (t := w.cells ++ [(u : Int)]) (fun x hx => by simp [hx]) (by simp)
   have he : writeC (writeF (l.map (·.c)) n) ⟨4, num0, text, names, items⟩ w (u : Int) = putW (putW w1 [34]) (num text.length ++ text) := by
    rw [writeC_new (by simp) hm, if_pos rfl, hw1]
    unfold putW
    simp
   rw [he, ← ho1o]
   rw [← ho1o] at hlo
   refine callG (WriteString_m (.slice a l.length ca) (GrF a l) mb sb (⟨es2, c2, q.se, q.sc⟩) true (w1.out) ([34]) i ho1.b (by first | omega | (simp; omega))) [0, 1, 2, 3, 4] rfl ⟨rfl, rfl, rfl, rfl, rfl, trivial⟩ rfl fun i2 hi2 => ?_
   refine wXD ?_
   refine callG (text_m (.slice a l.length ca) (GrF a l) mb sb (putW w1 [34]) text i2 ⟨es2, c2, q.se, q.sc⟩ ⟨hi2, ho1.c, ho1.s⟩ (by rw [put_len]; simp; omega) (by omega)) [0, 1, 2, 3, 4] rfl ⟨rfl, rfl, rfl, rfl, rfl, trivial⟩ rfl fun x hx => ?_
   refine wXD ?_
   exact ⟨x, hx, rfl, wkE_refl _, wkE_refl _, wkE_refl _, wkE_refl _, wkE_refl _, trivial⟩
  ·have hsy := hcw.sym rfl
   simp only at hsy
   rw [writeF_eq, hat]
   refine ownC hm Tryz.func35 (by kernel_rfl) rfl rfl (fun _ _ => wM_ok _ _ _ _ _ _ _ _) (fun _ _ => Nat.le_refl _) ?_
   refine wXD ?_
   refine Nd.mk ⟨hsa, by omega, by omega⟩ ?_
   refine wXD ?_
   refine LdN.agg [.int .i64 5, .int .i64 num0, .string (bs text), .slice na names.length nc, .slice ia items.length ic] rfl (fun w hw => hw.2.2.2.1.1) rfl (fun k hk => by rw [Int.toNat_natCast]; exact grC_get l u k hk hp) ?_
   refine wXD ?_
   have he : writeC (writeF (l.map (·.c)) n) ⟨5, num0, text, names, items⟩ w (u : Int) = symW w text := rfl
   rw [he]
   refine callG (symbol_m (.slice a l.length ca) (GrF a l) mb sb w text i q ho (by omega) (by omega) (by omega)) [0, 1, 2, 3, 4] rfl ⟨rfl, rfl, rfl, rfl, rfl, trivial⟩ rfl fun x hx => ?_
   refine wXD ?_
   exact ⟨x, hx, rfl, wkE_refl _, wkE_refl _, wkE_refl _, wkE_refl _, wkE_refl _, trivial⟩
  ·-- 6: the kind
   rw [writeF_eq, hat]
   refine ownC hm Tryz.func35 (by kernel_rfl) rfl rfl (fun _ _ => wM_ok _ _ _ _ _ _ _ _) (fun _ _ => Nat.le_refl _) ?_
   refine wXD ?_
   refine Nd.mk ⟨hsa, by omega, by omega⟩ ?_
   refine wXD ?_
   refine LdN.agg [.int .i64 6, .int .i64 num0, .string (bs text), .slice na names.length nc, .slice ia items.length ic] rfl (fun w hw => hw.2.2.2.1.1) rfl (fun k hk => by rw [Int.toNat_natCast]; exact grC_get l u k hk hp) ?_
   refine wXD ?_
   refine ReadW.askKey (et := 3) (p := (u : Int)) (idxR w.cells) rfl (by kernel_rfl) intT rfl rfl rfl rfl (fun w hw => hw.2.1) ho.c ?_
   rw [idxR_look]
   by_cases hm : (u : Int) ∈ w.cells
   ·have hi := List.idxOf_lt_length_iff.2 hm
    rw [if_pos hm, show writeC (writeF (l.map (·.c)) n) ⟨6, num0, text, names, items⟩ w (u : Int) = putW w (64 :: num (w.cells.idxOf (u : Int))) from writeC_met (by simp) hm]
    generalize w.cells.idxOf (u : Int) = k at hi ⊢
    refine wXD ?_
    refine DrawN.planQ [0, 3] [1, 2, 4, 5] [(6, 0)] (by decide +kernel) ?_
    refine wXD ?_
    have hnl := num_len (n := k) (by omega)
    refine callQ (wide_c (k) (by omega) _) ?_
    refine wXD ?_
    refine Nd.mk (by rw [bs_size]; show 1 + _ < _; omega) ?_
    rw [show (⟨#[64]⟩ : ByteArray) = bs [64] from rfl, bs_app]
    refine wXD ?_
    refine callG (WriteString_m (.slice a l.length ca) (GrF a l) mb sb (q) true (w.out) ([64] ++ num k) i ho.b (by first | omega | (simp; omega))) [0, 1, 2, 3, 4] rfl ⟨rfl, rfl, rfl, rfl, rfl, trivial⟩ rfl fun i2 hi2 => ?_
    refine wXD ?_
    exact ⟨(i2, q), ⟨hi2, ho.c, ho.s⟩, rfl, wkE_refl _, wkE_refl _, wkE_refl _, wkE_refl _, wkE_refl _, trivial⟩
   rw [if_neg hm]
   refine wXD ?_
   refine DrawN.planQ [0, 4, 5] [1, 2, 3, 6, 7, 8, 9] [(10, 0)] (by decide +kernel) ?_
   refine wXD ?_
   refine ReadW.mapLen (kt := 3) (et := 3) w.cells.length rfl rfl rfl (by kernel_rfl) rfl (fun w hw => hw.2.1) (by rw [← Array.length_toList, ho.c.len, idxR_len]) ?_
   refine wXD ?_
   refine EffW.setMap (et := 3) (p := (u : Int)) 2 (idxR w.cells) rfl (by kernel_rfl) intT rfl rfl rfl rfl ho.c fun es2 c2 hk2 => ?_
   rw [idxR_put hm] at hk2
   refine wXD ?_
   obtain ⟨w1, hw1⟩ : ∃ w1 : Wr, w1 = { w with cells := w.cells ++ [(u : Int)] } := ⟨_, rfl⟩
   have ho1 : WOk w1 (i, ⟨es2, c2, q.se, q.sc⟩) := by rw [hw1]; exact ⟨ho.b, hk2, ho.s⟩
   have ho1o : w1.out = w.out := by rw [hw1]
   have hlt := free_lt hin hm (t := w.cells ++ [(u : Int)]) (fun x hx => by simp [hx]) (by simp)
   have hlen := hcw.len
   simp only at hlen
   refine DrawN.planQ [0, 3] [1, 2, 4, 5, 6, 7] [(8, 0)] (by decide +kernel) ?_
   refine wXD ?_
   have hnl := num_len (n := items.length) (by omega)
   refine callQ (wide_c (items.length) (by omega) _) ?_
   refine wXD ?_
   refine Nd.mk (by rw [bs_size]; show 1 + _ < _; omega) ?_
   rw [show (⟨#[91]⟩ : ByteArray) = bs [91] from rfl, bs_app]
   refine wXD ?_
   have he : writeC (writeF (l.map (·.c)) n) ⟨6, num0, text, names, items⟩ w (u : Int) = items.foldl (writeF (l.map (·.c)) n) (putW w1 (91 :: num items.length)) := by
    rw [writeC_new (by simp) hm, if_neg (by simp), if_pos rfl, hw1]
   refine callG (WriteString_m (.slice a l.length ca) (GrF a l) mb sb (⟨es2, c2, q.se, q.sc⟩) true (w.out) ([91] ++ num items.length) i ho.b (by first | omega | (simp; omega))) [0, 1, 2, 3, 4] rfl ⟨rfl, rfl, rfl, rfl, rfl, trivial⟩ rfl fun i2 hi2 => ?_
   refine wXD ?_
   obtain ⟨w2, hw2⟩ : ∃ w2 : Wr, w2 = putW w1 (91 :: num items.length) := ⟨_, rfl⟩
   have ho2 : WOk w2 (i2, ⟨es2, c2, q.se, q.sc⟩) := by rw [hw2]; exact ⟨by rw [put_out, ho1o]; exact hi2, ho1.c, ho1.s⟩
   rw [he, ← hw2]
   have hl2 : Lim (items.foldl (writeF (l.map (·.c)) n) w2) := by rw [hw2, ← he]; exact hlim
   have hfr : ∀ k, freeN (l.map (·.c)) ((items.take k).foldl (writeF (l.map (·.c)) n) w2).cells < n := fun k => by
    have h1 := free_mono (g := l.map (·.c)) (gone_fold (gone_write (l.map (·.c)) n) (items.take k) w2).sub
    have h2 : w2.cells = w.cells ++ [(u : Int)] := by rw [hw2, put_cells, hw1]
    rw [h2] at h1
    omega
   refine spec_of_exec Go.Proofs.YtgogonnnojcioaaGreatDoor.hm Tryz.func60 (by kernel_rfl) rfl rfl ?_
   refine wXD ?_
   refine LoopN.intro (Nat × BSt × MapP) (fun ⟨k, x⟩ => k ≤ items.length ∧ WOk ((items.take k).foldl (writeF (l.map (·.c)) n) w2) x)
    (fun ⟨k, _⟩ => mkS Tryz.f60.ntmps 0 [(0, .c (.lp 0 0)), (6, .c (.v (.slice ia items.length ic))), (7, .c (.v (.int .i64 (items.length : Int)))), (8, .c (.v (.int .i64 (k : Int))))])
    (fun ⟨k, x⟩ => wM (.slice a l.length ca) (GrF a l) true ((items.take k).foldl (writeF (l.map (·.c)) n) w2).out x.1 mb sb x.2 ++ [.blk 57 [.v (.int .i64 6), .v (.int .i64 num0), .v (.string (bs text)), .v (.slice na names.length nc), .v (.slice ia items.length ic)]]) (fun ⟨k, _⟩ => items.length - k) [] rfl (fun _ => rfl) (fun _ => rfl) (fun _ _ => okHB_eq rfl) ?_ ?_
   ·refine ⟨(0, i2, ⟨es2, c2, q.se, q.sc⟩), ⟨Nat.zero_le _, ho2⟩, ?_, ?_⟩
    ·exact wKK
    ·show wkH _ (wM _ _ true w2.out i2 mb sb ⟨es2, c2, q.se, q.sc⟩ ++ _)
     rw [hw2, put_out, ho1o]
     exact ⟨wkE_refl _, wkE_refl _, wkE_refl _, wkE_refl _, wkE_refl _, wkE_refl _, trivial⟩
   rintro ⟨k, x0⟩ ⟨hk, hx0⟩
   obtain ⟨i3, q3⟩ := x0
   refine wXD ?_
   refine brd_dec (fun h1 => ?_) (fun h1 => ?_)
   ·-- an item: what is known of it
    obtain ⟨x, hx⟩ : ∃ z, items[k]? = some z := ⟨_, List.getElem?_eq_getElem (by omega)⟩
    have hxi := houts x (List.mem_of_getElem? hx)
    obtain ⟨xn, rfl⟩ : ∃ xn : Nat, x = (xn : Int) := ⟨x.toNat, by have := hxi.1; omega⟩
    have hxl : xn < l.length := by have := hxi.2; simp only [List.length_map] at this; omega
    have hxa : ia.isSome = true := by
     cases ia with
     | none => have h0 : items = [] := hpo.ia rfl; rw [h0] at hx; cases hx
     | some b => rfl
    refine wXD ?_
    refine Nd.mk ⟨hxa, by omega, by omega⟩ ?_
    refine wXD ?_
    refine LdN.one (.int .i64 (xn : Int)) rfl (fun w hw => (hw.2.2.2.1.2 _ hpm).2) (by rw [Int.toNat_natCast]; show (iC items)[k * 1]? = _; rw [Nat.mul_one]; exact iC_get hx) ?_
    refine wXD ?_
    have hnx := fold_next (f := writeF (l.map (·.c)) n) (b := w2) hx
    refine callG (ih ((items.take k).foldl (writeF (l.map (·.c)) n) w2) i3 q3 xn hxl (hfr k) hx0 (by rw [← hnx]; exact fold_lim (gone_write _ n) hl2 (k + 1))) [0, 1, 2, 3, 4] rfl ⟨rfl, rfl, rfl, rfl, rfl, trivial⟩ rfl fun y hy => ?_
    rw [← hnx] at hy ⊢
    refine wXD ?_
    refine ⟨(k + 1, y), ⟨by omega, hy⟩, by show items.length - (k + 1) < items.length - k; omega, ?_, wkE_refl _, wkE_refl _, wkE_refl _, wkE_refl _, wkE_refl _, wkE_refl _, trivial⟩
    exact wKK
   ·obtain rfl : k = items.length := by omega
    rw [List.take_length] at hx0 ⊢
    refine wXD ?_
    exact ⟨(i3, q3), hx0, rfl, wkE_refl _, wkE_refl _, wkE_refl _, wkE_refl _, wkE_refl _, trivial⟩
  ·-- 7: the kind
   rw [writeF_eq, hat]
   refine ownC hm Tryz.func35 (by kernel_rfl) rfl rfl (fun _ _ => wM_ok _ _ _ _ _ _ _ _) (fun _ _ => Nat.le_refl _) ?_
   refine wXD ?_
   refine Nd.mk ⟨hsa, by omega, by omega⟩ ?_
   refine wXD ?_
   refine LdN.agg [.int .i64 7, .int .i64 num0, .string (bs text), .slice na names.length nc, .slice ia items.length ic] rfl (fun w hw => hw.2.2.2.1.1) rfl (fun k hk => by rw [Int.toNat_natCast]; exact grC_get l u k hk hp) ?_
   refine wXD ?_
   refine ReadW.askKey (et := 3) (p := (u : Int)) (idxR w.cells) rfl (by kernel_rfl) intT rfl rfl rfl rfl (fun w hw => hw.2.1) ho.c ?_
   rw [idxR_look]
   by_cases hm : (u : Int) ∈ w.cells
   ·have hi := List.idxOf_lt_length_iff.2 hm
    rw [if_pos hm, show writeC (writeF (l.map (·.c)) n) ⟨7, num0, text, names, items⟩ w (u : Int) = putW w (64 :: num (w.cells.idxOf (u : Int))) from writeC_met (by simp) hm]
    generalize w.cells.idxOf (u : Int) = k at hi ⊢
    refine wXD ?_
    refine DrawN.planQ [0, 3] [1, 2, 4, 5] [(6, 0)] (by decide +kernel) ?_
    refine wXD ?_
    have hnl := num_len (n := k) (by omega)
    refine callQ (wide_c (k) (by omega) _) ?_
    refine wXD ?_
    refine Nd.mk (by rw [bs_size]; show 1 + _ < _; omega) ?_
    rw [show (⟨#[64]⟩ : ByteArray) = bs [64] from rfl, bs_app]
    refine wXD ?_
    refine callG (WriteString_m (.slice a l.length ca) (GrF a l) mb sb (q) true (w.out) ([64] ++ num k) i ho.b (by first | omega | (simp; omega))) [0, 1, 2, 3, 4] rfl ⟨rfl, rfl, rfl, rfl, rfl, trivial⟩ rfl fun i2 hi2 => ?_
    refine wXD ?_
    exact ⟨(i2, q), ⟨hi2, ho.c, ho.s⟩, rfl, wkE_refl _, wkE_refl _, wkE_refl _, wkE_refl _, wkE_refl _, trivial⟩
   rw [if_neg hm]
   refine wXD ?_
   refine DrawN.planQ [0, 4, 5] [1, 2, 3, 6, 7, 8, 9] [(10, 0)] (by decide +kernel) ?_
   refine wXD ?_
   refine ReadW.mapLen (kt := 3) (et := 3) w.cells.length rfl rfl rfl (by kernel_rfl) rfl (fun w hw => hw.2.1) (by rw [← Array.length_toList, ho.c.len, idxR_len]) ?_
   refine wXD ?_
   refine EffW.setMap (et := 3) (p := (u : Int)) 2 (idxR w.cells) rfl (by kernel_rfl) intT rfl rfl rfl rfl ho.c fun es2 c2 hk2 => ?_
   rw [idxR_put hm] at hk2
   refine wXD ?_
   obtain ⟨w1, hw1⟩ : ∃ w1 : Wr, w1 = { w with cells := w.cells ++ [(u : Int)] } := ⟨_, rfl⟩
   have ho1 : WOk w1 (i, ⟨es2, c2, q.se, q.sc⟩) := by rw [hw1]; exact ⟨ho.b, hk2, ho.s⟩
   have ho1o : w1.out = w.out := by rw [hw1]
   have hlt := free_lt hin hm (t := w.cells ++ [(u : Int)]) (fun x hx => by simp [hx]) (by simp)
   have hlen := hcw.len
   simp only at hlen
   refine DrawN.planQ [0, 3] [1, 2, 4, 5, 6, 7, 8] [(9, 0)] (by decide +kernel) ?_
   refine wXD ?_
   rw [show ((items.length : Int)).tdiv 2 = ((items.length / 2 : Nat) : Int) from (Int.ofNat_tdiv _ _).symm]
   try rw [wrap_i64 (x := ((items.length / 2 : Nat) : Int)) (by omega)]
   have hnl := num_len (n := items.length / 2) (by omega)
   refine callQ (wide_c (items.length / 2) (by omega) _) ?_
   refine wXD ?_
   refine Nd.mk (by rw [bs_size]; show 1 + _ < _; omega) ?_
   rw [show (⟨#[123]⟩ : ByteArray) = bs [123] from rfl, bs_app]
   refine wXD ?_
   have he : writeC (writeF (l.map (·.c)) n) ⟨7, num0, text, names, items⟩ w (u : Int) = items.foldl (writeF (l.map (·.c)) n) (putW w1 (123 :: num (items.length / 2))) := by
    rw [writeC_new (by simp) hm, if_neg (by simp), if_neg (by simp), if_pos rfl, hw1]
   refine callG (WriteString_m (.slice a l.length ca) (GrF a l) mb sb (⟨es2, c2, q.se, q.sc⟩) true (w.out) ([123] ++ num (items.length / 2)) i ho.b (by first | omega | (simp; omega))) [0, 1, 2, 3, 4] rfl ⟨rfl, rfl, rfl, rfl, rfl, trivial⟩ rfl fun i2 hi2 => ?_
   refine wXD ?_
   obtain ⟨w2, hw2⟩ : ∃ w2 : Wr, w2 = putW w1 (123 :: num (items.length / 2)) := ⟨_, rfl⟩
   have ho2 : WOk w2 (i2, ⟨es2, c2, q.se, q.sc⟩) := by rw [hw2]; exact ⟨by rw [put_out, ho1o]; exact hi2, ho1.c, ho1.s⟩
   rw [he, ← hw2]
   have hl2 : Lim (items.foldl (writeF (l.map (·.c)) n) w2) := by rw [hw2, ← he]; exact hlim
   have hfr : ∀ k, freeN (l.map (·.c)) ((items.take k).foldl (writeF (l.map (·.c)) n) w2).cells < n := fun k => by
    have h1 := free_mono (g := l.map (·.c)) (gone_fold (gone_write (l.map (·.c)) n) (items.take k) w2).sub
    have h2 : w2.cells = w.cells ++ [(u : Int)] := by rw [hw2, put_cells, hw1]
    rw [h2] at h1
    omega
   refine spec_of_exec Go.Proofs.YtgogonnnojcioaaGreatDoor.hm Tryz.func60 (by kernel_rfl) rfl rfl ?_
   refine wXD ?_
   refine LoopN.intro (Nat × BSt × MapP) (fun ⟨k, x⟩ => k ≤ items.length ∧ WOk ((items.take k).foldl (writeF (l.map (·.c)) n) w2) x)
    (fun ⟨k, _⟩ => mkS Tryz.f60.ntmps 0 [(0, .c (.lp 0 0)), (6, .c (.v (.slice ia items.length ic))), (7, .c (.v (.int .i64 (items.length : Int)))), (8, .c (.v (.int .i64 (k : Int))))])
    (fun ⟨k, x⟩ => wM (.slice a l.length ca) (GrF a l) true ((items.take k).foldl (writeF (l.map (·.c)) n) w2).out x.1 mb sb x.2 ++ [.blk 57 [.v (.int .i64 7), .v (.int .i64 num0), .v (.string (bs text)), .v (.slice na names.length nc), .v (.slice ia items.length ic)]]) (fun ⟨k, _⟩ => items.length - k) [] rfl (fun _ => rfl) (fun _ => rfl) (fun _ _ => okHB_eq rfl) ?_ ?_
   ·refine ⟨(0, i2, ⟨es2, c2, q.se, q.sc⟩), ⟨Nat.zero_le _, ho2⟩, ?_, ?_⟩
    ·exact wKK
    ·show wkH _ (wM _ _ true w2.out i2 mb sb ⟨es2, c2, q.se, q.sc⟩ ++ _)
     rw [hw2, put_out, ho1o]
     exact ⟨wkE_refl _, wkE_refl _, wkE_refl _, wkE_refl _, wkE_refl _, wkE_refl _, trivial⟩
   rintro ⟨k, x0⟩ ⟨hk, hx0⟩
   obtain ⟨i3, q3⟩ := x0
   refine wXD ?_
   refine brd_dec (fun h1 => ?_) (fun h1 => ?_)
   ·-- an item: what is known of it
    obtain ⟨x, hx⟩ : ∃ z, items[k]? = some z := ⟨_, List.getElem?_eq_getElem (by omega)⟩
    have hxi := houts x (List.mem_of_getElem? hx)
    obtain ⟨xn, rfl⟩ : ∃ xn : Nat, x = (xn : Int) := ⟨x.toNat, by have := hxi.1; omega⟩
    have hxl : xn < l.length := by have := hxi.2; simp only [List.length_map] at this; omega
    have hxa : ia.isSome = true := by
     cases ia with
     | none => have h0 : items = [] := hpo.ia rfl; rw [h0] at hx; cases hx
     | some b => rfl
    refine wXD ?_
    refine Nd.mk ⟨hxa, by omega, by omega⟩ ?_
    refine wXD ?_
    refine LdN.one (.int .i64 (xn : Int)) rfl (fun w hw => (hw.2.2.2.1.2 _ hpm).2) (by rw [Int.toNat_natCast]; show (iC items)[k * 1]? = _; rw [Nat.mul_one]; exact iC_get hx) ?_
    refine wXD ?_
    have hnx := fold_next (f := writeF (l.map (·.c)) n) (b := w2) hx
    refine callG (ih ((items.take k).foldl (writeF (l.map (·.c)) n) w2) i3 q3 xn hxl (hfr k) hx0 (by rw [← hnx]; exact fold_lim (gone_write _ n) hl2 (k + 1))) [0, 1, 2, 3, 4] rfl ⟨rfl, rfl, rfl, rfl, rfl, trivial⟩ rfl fun y hy => ?_
    rw [← hnx] at hy ⊢
    refine wXD ?_
    refine ⟨(k + 1, y), ⟨by omega, hy⟩, by show items.length - (k + 1) < items.length - k; omega, ?_, wkE_refl _, wkE_refl _, wkE_refl _, wkE_refl _, wkE_refl _, wkE_refl _, trivial⟩
    exact wKK
   ·obtain rfl : k = items.length := by omega
    rw [List.take_length] at hx0 ⊢
    refine wXD ?_
    exact ⟨(i3, q3), hx0, rfl, wkE_refl _, wkE_refl _, wkE_refl _, wkE_refl _, wkE_refl _, trivial⟩
  ·-- 8: the kind
   rw [writeF_eq, hat]
   refine ownC hm Tryz.func35 (by kernel_rfl) rfl rfl (fun _ _ => wM_ok _ _ _ _ _ _ _ _) (fun _ _ => Nat.le_refl _) ?_
   refine wXD ?_
   refine Nd.mk ⟨hsa, by omega, by omega⟩ ?_
   refine wXD ?_
   refine LdN.agg [.int .i64 8, .int .i64 num0, .string (bs text), .slice na names.length nc, .slice ia items.length ic] rfl (fun w hw => hw.2.2.2.1.1) rfl (fun k hk => by rw [Int.toNat_natCast]; exact grC_get l u k hk hp) ?_
   refine wXD ?_
   refine ReadW.askKey (et := 3) (p := (u : Int)) (idxR w.cells) rfl (by kernel_rfl) intT rfl rfl rfl rfl (fun w hw => hw.2.1) ho.c ?_
   rw [idxR_look]
   by_cases hm : (u : Int) ∈ w.cells
   ·have hi := List.idxOf_lt_length_iff.2 hm
    rw [if_pos hm, show writeC (writeF (l.map (·.c)) n) ⟨8, num0, text, names, items⟩ w (u : Int) = putW w (64 :: num (w.cells.idxOf (u : Int))) from writeC_met (by simp) hm]
    generalize w.cells.idxOf (u : Int) = k at hi ⊢
    refine wXD ?_
    refine DrawN.planQ [0, 3] [1, 2, 4, 5] [(6, 0)] (by decide +kernel) ?_
    refine wXD ?_
    have hnl := num_len (n := k) (by omega)
    refine callQ (wide_c (k) (by omega) _) ?_
    refine wXD ?_
    refine Nd.mk (by rw [bs_size]; show 1 + _ < _; omega) ?_
    rw [show (⟨#[64]⟩ : ByteArray) = bs [64] from rfl, bs_app]
    refine wXD ?_
    refine callG (WriteString_m (.slice a l.length ca) (GrF a l) mb sb (q) true (w.out) ([64] ++ num k) i ho.b (by first | omega | (simp; omega))) [0, 1, 2, 3, 4] rfl ⟨rfl, rfl, rfl, rfl, rfl, trivial⟩ rfl fun i2 hi2 => ?_
    refine wXD ?_
    exact ⟨(i2, q), ⟨hi2, ho.c, ho.s⟩, rfl, wkE_refl _, wkE_refl _, wkE_refl _, wkE_refl _, wkE_refl _, trivial⟩
   rw [if_neg hm]
   refine wXD ?_
   refine DrawN.planQ [0, 4, 5] [1, 2, 3, 6, 7, 8, 9] [(10, 0)] (by decide +kernel) ?_
   refine wXD ?_
   refine ReadW.mapLen (kt := 3) (et := 3) w.cells.length rfl rfl rfl (by kernel_rfl) rfl (fun w hw => hw.2.1) (by rw [← Array.length_toList, ho.c.len, idxR_len]) ?_
   refine wXD ?_
   refine EffW.setMap (et := 3) (p := (u : Int)) 2 (idxR w.cells) rfl (by kernel_rfl) intT rfl rfl rfl rfl ho.c fun es2 c2 hk2 => ?_
   rw [idxR_put hm] at hk2
   refine wXD ?_
   obtain ⟨w1, hw1⟩ : ∃ w1 : Wr, w1 = { w with cells := w.cells ++ [(u : Int)] } := ⟨_, rfl⟩
   have ho1 : WOk w1 (i, ⟨es2, c2, q.se, q.sc⟩) := by rw [hw1]; exact ⟨ho.b, hk2, ho.s⟩
   have ho1o : w1.out = w.out := by rw [hw1]
   have hlt := free_lt hin hm (t := w.cells ++ [(u : Int)]) (fun x hx => by simp [hx]) (by simp)
   have hlen := hcw.len
   have hcls := (hcw.cls rfl).2
   have hns := hcw.lens rfl
   have hnam := hcw.nam
   simp only at hlen hcls hns hnam
   have he : writeC (writeF (l.map (·.c)) n) ⟨8, num0, text, names, items⟩ w (u : Int) = (names.zip items).foldl (pairW (l.map (·.c)) n) (putW (symW (putW w1 [111]) text) (num names.length)) := by
    rw [writeC_new (by simp) hm, if_neg (by simp), if_neg (by simp), if_neg (by simp), hw1]
    rfl
   rw [he]
   have hl2 : Lim ((names.zip items).foldl (pairW (l.map (·.c)) n) (putW (symW (putW w1 [111]) text) (num names.length))) := by rw [← he]; exact hlim
   have hl1 := (gone_fold (gone_pair (l.map (·.c)) n) _ _).lim hl2
   have hl0 := (gone_put _ _).lim hl1
   rw [← ho1o]
   rw [← ho1o] at hlo
   refine callG (WriteString_m (.slice a l.length ca) (GrF a l) mb sb (⟨es2, c2, q.se, q.sc⟩) true (w1.out) ([111]) i ho1.b (by first | omega | (simp; omega))) [0, 1, 2, 3, 4] rfl ⟨rfl, rfl, rfl, rfl, rfl, trivial⟩ rfl fun i2 hi2 => ?_
   refine wXD ?_
   refine callG (symbol_m (.slice a l.length ca) (GrF a l) mb sb (putW w1 [111]) text i2 ⟨es2, c2, q.se, q.sc⟩ ⟨hi2, ho1.c, ho1.s⟩ (by have := ((gone_sym _ _).lim hl0).o; omega) (by omega) (by have := ((gone_sym _ _).lim hl0).s; omega)) [0, 1, 2, 3, 4] rfl ⟨rfl, rfl, rfl, rfl, rfl, trivial⟩ rfl fun x hx => ?_
   obtain ⟨i4, q4⟩ := x
   refine wXD ?_
   obtain ⟨w4, hw4⟩ : ∃ w4, w4 = symW (putW w1 [111]) text := ⟨_, rfl⟩
   rw [← hw4] at hx hl2 hl1 hl0 ⊢
   have hl0o := hl0.o
   refine DrawN.planQ [0, 3] [1, 2, 4, 5, 6] [(7, 0)] (by decide +kernel) ?_
   refine wXD ?_
   have hnl := num_len (n := names.length) (by omega)
   refine callQ (wide_c names.length (by omega) _) ?_
   refine wXD ?_
   refine callG (WriteString_m (.slice a l.length ca) (GrF a l) mb sb (q4) true (w4.out) (num names.length) i4 hx.b (by first | omega | (simp; omega))) [0, 1, 2, 3, 4] rfl ⟨rfl, rfl, rfl, rfl, rfl, trivial⟩ rfl fun i2 hi2 => ?_
   refine wXD ?_
   obtain ⟨w5, hw5⟩ : ∃ w5, w5 = putW w4 (num names.length) := ⟨_, rfl⟩
   have ho5 : WOk w5 (i2, q4) := by rw [hw5]; exact ⟨hi2, hx.c, hx.s⟩
   have hl5 : Lim ((names.zip items).foldl (pairW (l.map (·.c)) n) w5) := by rw [hw5]; exact hl2
   rw [← hw5]
   have hfr : ∀ k, freeN (l.map (·.c)) (((names.zip items).take k).foldl (pairW (l.map (·.c)) n) w5).cells < n := fun k => by
    have h1 := free_mono (g := l.map (·.c)) (gone_fold (gone_pair (l.map (·.c)) n) ((names.zip items).take k) w5).sub
    have h2 : w5.cells = w.cells ++ [(u : Int)] := by rw [hw5, put_cells, hw4, sym_cells, put_cells, hw1]
    rw [h2] at h1
    omega
   have hzl : (names.zip items).length = names.length := by rw [List.length_zip]; omega
   refine LoopN.intro (Nat × BSt × MapP) (fun ⟨k, x⟩ => k ≤ names.length ∧ WOk (((names.zip items).take k).foldl (pairW (l.map (·.c)) n) w5) x)
    (fun ⟨k, _⟩ => mkS Tryz.f35.ntmps 0 [(0, .c (.lp 0 0)), (4, .c (.lp 5 0)), (144, .c (.v (.slice na names.length nc))), (145, .c (.v (.int .i64 (names.length : Int)))), (146, .c (.v (.int .i64 (k : Int))))])
    (fun ⟨k, x⟩ => wM (.slice a l.length ca) (GrF a l) true (((names.zip items).take k).foldl (pairW (l.map (·.c)) n) w5).out x.1 mb sb x.2 ++ [.blk 57 [.v (.int .i64 8), .v (.int .i64 num0), .v (.string (bs text)), .v (.slice na names.length nc), .v (.slice ia items.length ic)]]) (fun ⟨k, _⟩ => names.length - k) [] rfl (fun _ => rfl) (fun _ => rfl) (fun _ _ => okHB_eq rfl) ?_ ?_
   ·refine ⟨(0, i2, q4), ⟨Nat.zero_le _, ho5⟩, ?_, ?_⟩
    ·exact wKK
    ·show wkH _ (wM _ _ true w5.out i2 mb sb q4 ++ _)
     rw [hw5, put_out]
     exact ⟨wkE_refl _, wkE_refl _, wkE_refl _, wkE_refl _, wkE_refl _, wkE_refl _, trivial⟩
   rintro ⟨k, x0⟩ ⟨hk, hx0⟩
   obtain ⟨i3, q3⟩ := x0
   refine wXD ?_
   refine brd_dec (fun h1 => ?_) (fun h1 => ?_)
   ·-- an item: what is known of it
    obtain ⟨x, hx⟩ : ∃ z, items[k]? = some z := ⟨_, List.getElem?_eq_getElem (by omega)⟩
    have hxi := houts x (List.mem_of_getElem? hx)
    obtain ⟨xn, rfl⟩ : ∃ xn : Nat, x = (xn : Int) := ⟨x.toNat, by have := hxi.1; omega⟩
    have hxl : xn < l.length := by have := hxi.2; simp only [List.length_map] at this; omega
    have hxa : ia.isSome = true := by
     cases ia with
     | none => have h0 : items = [] := hpo.ia rfl; rw [h0] at hx; cases hx
     | some b => rfl
    obtain ⟨nm, hnm⟩ : ∃ z, names[k]? = some z := ⟨_, List.getElem?_eq_getElem (by omega)⟩
    have hnma : na.isSome = true := by
     cases na with
     | none => have h0 : names = [] := hpo.na rfl; rw [h0] at hnm; cases hnm
     | some b => rfl
    have hn40 := (hnam nm (List.mem_of_getElem? hnm)).2
    have hz : (names.zip items)[k]? = some (nm, (xn : Int)) := List.getElem?_zip_eq_some.2 ⟨hnm, hx⟩
    have hnx := fold_next (f := pairW (l.map (·.c)) n) (b := w5) hz
    have hl6 := fold_lim (gone_pair (l.map (·.c)) n) hl5 (k + 1)
    have hfk := hfr k
    obtain ⟨wk, hwk⟩ : ∃ w : Wr, w = ((names.zip items).take k).foldl (pairW (l.map (·.c)) n) w5 := ⟨_, rfl⟩
    rw [hnx] at hl6
    rw [← hwk] at hnx hl6 hfk hx0 ⊢
    have hl6b : Lim (writeF (l.map (·.c)) n (symW wk nm) (xn : Int)) := hl6
    have hl7 : Lim (symW wk nm) := (gone_write _ n _ _).lim hl6b
    have hl8 := (gone_sym _ _).lim hl7
    refine wXD ?_
    refine Nd.mk ⟨hnma, by omega, by omega⟩ ?_
    refine wXD ?_
    refine LdN.one (.string (bs nm)) rfl (fun w hw => (hw.2.2.2.1.2 _ hpm).1) (by rw [Int.toNat_natCast]; show (strC names)[k * 1]? = _; rw [Nat.mul_one]; exact strC_get hnm) ?_
    refine wXD ?_
    refine callG (symbol_m (.slice a l.length ca) (GrF a l) mb sb wk nm i3 q3 hx0 (by have := hl8.o; omega) (by omega) (by have := hl8.s; omega)) [0, 1, 2, 3, 4] rfl ⟨rfl, rfl, rfl, rfl, rfl, trivial⟩ rfl fun y hy => ?_
    obtain ⟨i6, q6⟩ := y
    refine wXD ?_
    refine Nd.mk ⟨hxa, by omega, by omega⟩ ?_
    refine wXD ?_
    refine LdN.one (.int .i64 (xn : Int)) rfl (fun w hw => (hw.2.2.2.1.2 _ hpm).2) (by rw [Int.toNat_natCast]; show (iC items)[k * 1]? = _; rw [Nat.mul_one]; exact iC_get hx) ?_
    refine wXD ?_
    refine callG (ih (symW wk nm) i6 q6 xn hxl (by rw [sym_cells]; exact hfk) hy hl6b) [0, 1, 2, 3, 4] rfl ⟨rfl, rfl, rfl, rfl, rfl, trivial⟩ rfl fun z hz2 => ?_
    have hnx2 : writeF (l.map (·.c)) n (symW wk nm) (xn : Int) = ((names.zip items).take (k + 1)).foldl (pairW (l.map (·.c)) n) w5 := hnx.symm
    rw [hnx2] at hz2 ⊢
    refine wXD ?_
    refine ⟨(k + 1, z), ⟨by omega, hz2⟩, by show names.length - (k + 1) < names.length - k; omega, ?_, wkE_refl _, wkE_refl _, wkE_refl _, wkE_refl _, wkE_refl _, wkE_refl _, trivial⟩
    exact wKK
   ·obtain rfl : k = names.length := by omega
    rw [← hzl, List.take_length] at hx0
    rw [show (names.zip items).take names.length = names.zip items by rw [← hzl, List.take_length]]
    refine wXD ?_
    exact ⟨(i3, q3), hx0, rfl, wkE_refl _, wkE_refl _, wkE_refl _, wkE_refl _, wkE_refl _, trivial⟩
end Go.Proofs.YtgogonnnojcioaaGreatDoor
namespace Go.Marshal
open Go.Core
theorem dmp_of {g : List Cell} (hv : ValidP g) (hs : ∀ c ∈ g, c.items.length ≤ 2000 ∧ c.names.length ≤ 2000) {k : Int} (hk : InI g k) : Dmp g 2030 k :=
 ⟨hv, fun c hc => ⟨(hs c hc).1, (hs c hc).2, by have := cellD_text (hv.2.1 c hc); omega⟩, hk⟩
theorem Dmp.lim {g : List Cell} {k : Int} (h : Dmp g 2030 k) : Lim (doneW g k) := by
 have h500 := h.valid.1
 have hin := valid_in h.valid
 have h1 := write_ss hin h.cellW (g.length + 1) ⟨headB, [], []⟩ k h.at_
 have h2 := h.wle
 have h3 := cells_few h500 h.kn.nodup h.kn.inI
 have h4 := write_len hin h.cellW (by decide) (g.length + 1) ⟨headB, [], []⟩ k h.at_ h.few
 have h5 : wgt iN g [] ≤ g.length * 4000 := wgt_le (fun i hi => by
  have := h.small _ (at_mem hi)
  unfold iN
  omega) []
 have e1 : (⟨headB, [], []⟩ : Wr).ss.length = 0 := rfl
 have e2 : (⟨headB, [], []⟩ : Wr).cells = [] := rfl
 have e3 : (⟨headB, [], []⟩ : Wr).out.length = 3 := rfl
 rw [e1, e2] at h1
 rw [e2, e3] at h4
 refine ⟨?_, ?_, ?_⟩
 ·unfold doneW; omega
 ·unfold doneW; omega
 ·omega
end Go.Marshal
namespace Go.Proofs.YtgogonnnojcioaaGreatDoor
open Go.AX Go.RowKit Go.Core Go.Marshal
set_option maxRecDepth 20000
theorem small_c {l : List CellP} (hs : Small l) : ∀ c ∈ l.map (·.c), c.items.length ≤ 2000 ∧ c.names.length ≤ 2000 := fun c hc => by
 obtain ⟨p, hp, rfl⟩ := List.mem_map.1 hc
 exact ⟨(hs.2 p hp).2, (hs.2 p hp).1⟩
set_option maxHeartbeats 4000000 in
theorem Dump_c {a : Option Addr} (ca : Nat) {l : List CellP} (ha : a = none → l = []) (hs : Small l) (hok : ∀ p ∈ l, CellOk p) (u : Int) :
  ∃ e : Bool, (e = true ↔ AskP (l.map (·.c)) [u]) ∧ ∀ H, (∀ w, Facts H w → GrF a l w) → SpecH Tryz.prog 14 (pvs [.slice a l.length ca, .int .i64 u]) H (Ret (.tuple #[.string (bs (if e then dumpS (l.map (·.c)) u else [])), errI e]) H) := by
 obtain ⟨e, he, hr⟩ := Reach_c ca ha hs hok u
 refine ⟨e, he, ?_⟩
 refine factC hm Tryz.func14 (by kernel_rfl) rfl rfl ?_
 refine wXD ?_
 refine SpecF.call hr (fun w hw => hw.1) fun v G hv => ?_
 obtain ⟨oa, oc, rfl, hoa, hG⟩ := hv
 cases e with
 | false =>
  refine wXD ?_
  rfl
 | true =>
  have hask := he.1 rfl
  have hin := valid_in hask.1
  have hu := hask.2 u (by simp)
  have hd := dmp_of hask.1 (small_c hs) hu
  obtain ⟨v, rfl⟩ : ∃ v : Nat, u = (v : Int) := ⟨u.toNat, by omega⟩
  have hgl : (l.map (·.c)).length = l.length := by simp
  refine wXD ?_
  refine EffW.mkMap rfl fun mb => ?_
  refine wXD ?_
  refine EffW.mkMap rfl fun sb => ?_
  refine wXD ?_
  refine SpecH.pad [.app 5 1 [] none 0 0] rfl ?_
  have hok0 : BSt.ok (0 : Nat) ⟨none, 0⟩ := ⟨fun _ => ⟨rfl, rfl⟩, Nat.le_refl _, fun _ => rfl⟩
  refine callG (WriteString_m (.slice a l.length ca) (GrF a l) mb sb ⟨#[], 0, #[], 0⟩ false [] headB ⟨none, 0⟩ hok0 (by decide)) [4, 5, 2, 3, 0] rfl ⟨rfl, rfl, rfl, rfl, rfl, trivial⟩ rfl fun i2 hi2 => ?_
  refine wXD ?_
  have hlim := hd.lim
  have hdl : doneW (l.map (·.c)) (v : Int) = writeF (l.map (·.c)) (l.length + 1) ⟨headB, [], []⟩ (v : Int) := by unfold doneW; rw [hgl]
  have hds : dumpS (l.map (·.c)) (v : Int) = (writeF (l.map (·.c)) (l.length + 1) ⟨headB, [], []⟩ (v : Int)).out := by rw [← hdl]; rfl
  rw [hdl] at hlim
  refine callG (cell_m ca ha hok hin hd.cellW hs.1 mb sb (l.length + 1) ⟨headB, [], []⟩ i2 ⟨#[], 0, #[], 0⟩ v (by omega) (by have := free_le (l.map (·.c)) []; show freeN _ [] < _; omega) ⟨hi2, rfl, rfl⟩ hlim) [4, 5, 2, 3, 0] rfl ⟨rfl, rfl, rfl, rfl, rfl, trivial⟩ rfl fun x hx => ?_
  rw [hds]
  generalize writeF (l.map (·.c)) (l.length + 1) ⟨headB, [], []⟩ (v : Int) = W at hx hlim ⊢
  refine wXD ?_
  refine callG (String_m (.slice a l.length ca) (GrF a l) mb sb x.2 true W.out x.1 hx.b) [4, 5, 2, 3, 0] rfl ⟨rfl, rfl, rfl, rfl, rfl, trivial⟩ rfl fun _ _ => ?_
  refine wXD ?_
  rfl
end Go.Proofs.YtgogonnnojcioaaGreatDoor
namespace Go.Proofs.YtgogonnnojcioaaGreatDoor
open Go.AX Go.RowKit Go.Core Go.Marshal
set_option maxRecDepth 20000
end Go.Proofs.YtgogonnnojcioaaGreatDoor
namespace Go.Marshal
open Go.Core
end Go.Marshal
namespace Go.Proofs.YtgogonnnojcioaaGreatDoor
open Go.AX Go.RowKit Go.Core Go.Marshal
set_option maxRecDepth 20000
variable (gv : Value) (F : World → Prop)
end Go.Proofs.YtgogonnnojcioaaGreatDoor
namespace Go.Proofs.YtgogonnnojcioaaGreatDoor
open Go.AX Go.RowKit Go.Core Go.Marshal
set_option maxRecDepth 20000
end Go.Proofs.YtgogonnnojcioaaGreatDoor
namespace Go.Proofs.YtgogonnnojcioaaGreatDoor
open Go.AX Go.RowKit Go.Core Go.Marshal
set_option maxRecDepth 20000
def Wide (l : List CellP) : Prop := l.length ≤ 2000 ∧ ∀ p ∈ l, p.c.names.length ≤ 40000 ∧ p.c.items.length ≤ 40000
theorem Small.wide {l : List CellP} (h : Small l) : Wide l := ⟨h.1, fun p hp => ⟨by have := (h.2 p hp).1; omega, by have := (h.2 p hp).2; omega⟩⟩
set_option maxHeartbeats 4000000 in
theorem as_m (a : Option Addr) (ca : Nat) (l : List CellP) (ha : a = none → l = []) (hs : Wide l) (hok : ∀ p ∈ l, CellOk p) : SpecF Tryz.prog 18 [.slice a l.length ca] (GrF a l) (GrR (l.map (·.c))) := by
 obtain ⟨hl, hsm⟩ := hs
 refine specF hm Tryz.func18 (by kernel_rfl) rfl rfl ?_
 refine wX ?_
 refine LoopN.introS DSt (DInv l) (fun ⟨i, oa, oc, m⟩ => mkS 35 0 [(0, .c (.v (.slice a l.length ca))), (3, .c (.v (.slice oa m.length oc))), (4, .c (.v (.int .i64 (i : Int))))]) (fun ⟨i, oa, oc, m⟩ => [.fact (GrF a l), .app 87 5 (grC m) oa m.length oc, .fact (fun w => ∀ p ∈ m, CellF p w)]) (fun ⟨i, _, _, _⟩ => l.length - i) [.app 87 5 [] none 0 0, .dead] rfl (fun _ => rfl) (fun _ => rfl) (fun _ _ => ⟨trivial, trivial, trivial, trivial⟩) ?_ ?_
 ·refine ⟨⟨0, none, 0, []⟩, ⟨Nat.zero_le _, rfl, (fun p h => by cases h), (fun _ => rfl), Nat.le_refl _⟩, ?_, [.fact (GrF a l), .app 87 5 [] none 0 0, .fact (fun w => ∀ p ∈ [], CellF p w)], turnS ?_, ?_⟩
  ·exact wKK
  ·exact ⟨.inr (.inl rfl), .inr (.inl rfl), .inr (.inr ⟨_, rfl, fun w _ p hp => by cases hp⟩), trivial⟩
  ·exact wkH_refl _
 rintro ⟨i, oa, oc, m⟩ hinv
 have hml := hinv.len
 obtain ⟨hi, hmc, hmo, hoa, hoc⟩ := hinv
 refine wX ?_
 refine brd_dec (fun h1 => ?_) (fun h1 => ?_)
 ·obtain ⟨p, hp⟩ : ∃ p, l[i]? = some p := ⟨_, List.getElem?_eq_getElem (by omega)⟩
  have hpm := List.mem_of_getElem? hp
  have hpo := hok p hpm
  obtain ⟨hnl, hil⟩ := hsm p hpm
  have hsa : a.isSome = true := by
   cases a with
   | none => rw [ha rfl] at hp; cases hp
   | some b => rfl
  refine wX ?_
  refine Nd.mk ⟨hsa, by omega, by omega⟩ ?_
  refine wX ?_
  refine LdN.agg (cellC p) rfl (fun w hw => hw.1.1) rfl (fun k hk => by rw [Int.toNat_natCast]; exact grC_get l i k hk hp) ?_
  refine wXB ?_
  refine BoxN.known [.int .i64 0, .int .i64 0, .string { data := #[] }, .slice none 0 0, .slice none 0 0] rfl fun cb => ?_
  refine wXB ?_
  refine EffW.appTo (i := 3) (q := 0) (ys := cellC p) (cellC p) 5 rfl rfl rfl rfl rfl rfl rfl (Nat.le_of_ble_eq_true rfl) rfl rfl ?_
  refine wXB ?_
  refine DrawN.planK hm (fun w => SlAt (some ⟨cb, 0, none⟩) 5 (cellC p) w) [7, 11] [0, 1, 3, 5, 8, 12] [(9, 1), (2, 1), (4, 1), (6, 1), (13, 1), (7, 2), (10, 0), (11, 2), (14, 0), (15, 0), (16, 0), (17, 0), (18, 0)] (by decide +kernel) (fun w hw => hw.2.2.2.1) ?_
  refine wXP ?_
  refine ReadC.one (a := some ⟨cb, 0, none⟩) (q := 3) (.slice p.na p.c.names.length p.nc) rfl rfl rfl (fun w hw => hw) rfl ?_
  refine wXP ?_
  refine ReadC.one (a := some ⟨cb, 0, none⟩) (q := 0) (.int .i64 p.c.kind) rfl rfl rfl (fun w hw => hw) rfl ?_
  refine wXP ?_
  refine ReadC.one (a := some ⟨cb, 0, none⟩) (q := 1) (.int .i64 p.c.num) rfl rfl rfl (fun w hw => hw) rfl ?_
  refine wXP ?_
  refine ReadC.one (a := some ⟨cb, 0, none⟩) (q := 2) (.string (bs p.c.text)) rfl rfl rfl (fun w hw => hw) rfl ?_
  refine wXP ?_
  refine ReadC.one (a := some ⟨cb, 0, none⟩) (q := 4) (.slice p.ia p.c.items.length p.ic) rfl rfl rfl (fun w hw => hw) rfl ?_
  refine wXP ?_
  intro nb
  refine wXP ?_
  refine app_any 4 [] (strC p.c.names) rfl (Nat.le_refl _) (fun h => by cases hq : p.na with | none => rw [hpo.na hq] at h; cases h | some b => rfl) (by show (strC p.c.names).length = p.c.names.length * 1; simp [strC]) (fun u hu => by obtain ⟨x, _, rfl⟩ := List.mem_map.1 hu; rfl) (fun w hw j v hv => (hw.1.2 p hpm).1.cell hv) ⟨⟨by show (0 + p.c.names.length) * 16 ≤ _; omega, by omega⟩, Nat.one_ne_zero⟩ fun nb2 nc2 hnc2 => ?_
  rw [Nat.zero_add, List.nil_append]
  refine wXP ?_
  intro ib
  refine wXP ?_
  refine app_any 5 [] (iC p.c.items) rfl (Nat.le_refl _) (fun h => by cases hq : p.ia with | none => rw [hpo.ia hq] at h; cases h | some b => rfl) (by show (iC p.c.items).length = p.c.items.length * 1; simp [iC]) (fun u hu => by obtain ⟨x, _, rfl⟩ := List.mem_map.1 hu; rfl) (fun w hw j v hv => (hw.1.2 p hpm).2.cell hv) ⟨⟨by show (0 + p.c.items.length) * 8 ≤ _; omega, by omega⟩, Nat.one_ne_zero⟩ fun ib2 ic2 hic2 => ?_
  rw [Nat.zero_add, List.nil_append]
  refine wXP ?_
  refine RwN.own ?_
  refine wXP ?_
  refine Nd.mk ⟨Nat.le_refl 1, rfl, rfl⟩ ?_
  (conv => whnf)
  refine AppN.grow 1 (grC m) (cellC ⟨p.c, some ⟨nb2, 0, none⟩, nc2, some ⟨ib2, 0, none⟩, ic2⟩) rfl rfl ⟨Nat.le_refl 1, ⟨by show (m.length + 1) * 80 ≤ _; omega, by omega⟩, by decide⟩ fun ob2 oc2 hoc2 _ => ?_
  refine wXP ?_
  have hm2 : m.length + 1 = (m ++ [(⟨p.c, some ⟨nb2, 0, none⟩, nc2, some ⟨ib2, 0, none⟩, ic2⟩ : CellP)]).length := by simp
  have hg2 := grC_snoc m ⟨p.c, some ⟨nb2, 0, none⟩, nc2, some ⟨ib2, 0, none⟩, ic2⟩
  refine ⟨⟨i + 1, some ⟨ob2, 0, none⟩, oc2, m ++ [⟨p.c, some ⟨nb2, 0, none⟩, nc2, some ⟨ib2, 0, none⟩, ic2⟩]⟩, ⟨by omega, ?_, ?_, (fun h => by cases h), by omega⟩, by show l.length - (i + 1) < l.length - i; omega, ?_, [.fact (GrF a l), .app 87 5 (grC m ++ cellC ⟨p.c, some ⟨nb2, 0, none⟩, nc2, some ⟨ib2, 0, none⟩, ic2⟩) (some ⟨ob2, 0, none⟩) (m.length + 1) oc2, .fact (fun w => ∀ q ∈ m ++ [⟨p.c, some ⟨nb2, 0, none⟩, nc2, some ⟨ib2, 0, none⟩, ic2⟩], CellF q w), .dead, .dead, .dead, .dead], turnS ?_, ?_⟩
  ·rw [List.take_add_one, hp, List.map_append, List.map_append, hmc]
   rfl
  ·intro q hq
   rcases List.mem_append.1 hq with hq | hq
   ·exact hmo q hq
   ·rw [List.mem_singleton.1 hq]
    exact ⟨(fun h => by cases h), (fun h => by cases h), hpo.nl, hpo.il, hpo.nw, hpo.tl, by show p.c.names.length ≤ nc2; omega, by show p.c.items.length ≤ ic2; omega⟩
  ·(repeat' (first | exact trivial | refine And.intro (by with_reducible rfl) ?_ | (with_reducible exact wkC_refl _) | (with_reducible exact wkCs_refl _) | refine And.intro ?_ ?_))
   all_goals first | rfl | exact av_int (by omega) | (rw [hm2])
  ·refine ⟨.inr (.inl rfl), .inr (.inl rfl), .inr (.inr ⟨_, rfl, fun w hw q hq => ?_⟩), .inl rfl, .inl rfl, .inl rfl, .inl rfl, trivial⟩
   rcases List.mem_append.1 hq with hq | hq
   ·exact hw.2.1 q hq
   ·rw [List.mem_singleton.1 hq]
    exact ⟨hw.2.2.2.1, hw.2.2.2.2.1⟩
  ·show wkH _ [Ent.fact (GrF a l), .app 87 5 (grC (m ++ [_])) _ (m ++ [_]).length _, _]
   rw [← hm2, hg2]
   exact ⟨wkE_refl _, wkE_refl _, wkE_refl _, trivial⟩
 ·have hil : i = l.length := by omega
  subst hil
  rw [List.take_length] at hmc
  refine wX ?_
  refine fin_p (GrF oa m) ⟨oa, oc, m, rfl, hoa, hmc, hmo, fun w hw => hw⟩ fun w hw => ⟨hw.2.1, hw.2.2.1⟩
def exM : Cell := ⟨6, 0, [], [], [0]⟩
def exQ (ib : Nat) : CellP := ⟨exM, none, 0, some ⟨ib, 0, none⟩, 1⟩
theorem exM_val : ValidP [exM] := ⟨by decide, fun c hc => by rw [List.mem_singleton.1 hc]; decide, fun c hc h => by rw [List.mem_singleton.1 hc] at h; exact absurd h (by decide)⟩
theorem exM_ask : AskP [exM] [0] := ⟨exM_val, fun x hx => by rw [List.mem_singleton.1 hx]; decide⟩
theorem exM_dump : dumpS [exM] 0 = [67, 77, 1, 91, 1, 64, 0] := by decide +kernel
theorem exQ_small (ib : Nat) : Small [exQ ib] := ⟨by simp, fun p hp => by rw [List.mem_singleton.1 hp]; exact ⟨by show (0 : Nat) ≤ 2000; omega, by show (1 : Nat) ≤ 2000; omega⟩⟩
theorem exQ_ok (ib : Nat) : ∀ p ∈ [exQ ib], CellOk p := fun p hp => by
 rw [List.mem_singleton.1 hp]
 exact ⟨(fun _ => rfl), (fun h => by cases h), by show (0 : Nat) ≤ _; omega, by show (1 : Nat) ≤ _; omega, (fun s hs => by cases hs), by show (0 : Nat) ≤ _; omega, Nat.le_refl _, Nat.le_refl _⟩
set_option maxHeartbeats 4000000 in
theorem sane_m : ∀ H, SpecH Tryz.prog 13 (pvs []) H (Ret (.bool true) H) := by
 refine pureC hm Tryz.func13 (by kernel_rfl) rfl rfl ?_
 refine wXR ?_
 refine RwN.known [.int .i64 0] rfl fun ib => ?_
 refine wXR ?_
 refine RwN.known [.int .i64 6, .int .i64 0, .string { data := #[] }, .slice none 0 0, .slice (some ⟨ib, 0, none⟩) 1 1] rfl fun gb => ?_
 refine wXR ?_
 obtain ⟨e, he1, he2⟩ := Dump_c (a := some ⟨gb, 0, none⟩) 1 (l := [exQ ib]) (fun h => by cases h) (exQ_small ib) (exQ_ok ib) 0
 obtain rfl : e = true := he1.2 exM_ask
 have hx : (if true = true then dumpS ([exQ ib].map (·.c)) 0 else []) = [67, 77, 1, 91, 1, 64, 0] := exM_dump
 rw [hx] at he2
 refine call1 (he2 [.app 3 1 [.int .i64 0] (some ⟨ib, 0, none⟩) 1 1, .app 57 5 [.int .i64 6, .int .i64 0, .string { data := #[] }, .slice none 0 0, .slice (some ⟨ib, 0, none⟩) 1 1] (some ⟨gb, 0, none⟩) 1 1] (fun w hw => ⟨hw.2.1, fun p hp => by
  rw [List.mem_singleton.1 hp]
  exact ⟨SlAt.nil, hw.1⟩⟩)) ?_
 refine wX ?_
 rfl
end Go.Proofs.YtgogonnnojcioaaGreatDoor
namespace Go.Marshal
open Go.Core
structure PS where
 s : B
 g : List Cell
 cells : List Int
 ss : List B
 e : Int
def failM (st : PS) (e : Int) : PS := if st.e = 0 then { st with e := e } else st
def nextM (st : PS) : UInt8 × PS := if st.e ≠ 0 then (0, st) else match st.s with
 | [] => (0, { st with e := 14 })
 | x :: s => (x, { st with s := s })
def rdQ : Nat → B → B
 | _, [] => []
 | i, x :: s => if i = 0 ∧ x = 128 ∨ 9 ≤ i then s else if x.toNat < 128 then s else rdQ (i + 1) s
def numM (most : Nat) (st : PS) : Nat × PS := if st.e ≠ 0 then (0, st) else match rd most st.s with
 | .ok (n, _) => (n, { st with s := rdQ 0 st.s })
 | .error e => (0, { st with s := rdQ 0 st.s, e := e })
def textM (most : Nat) (st : PS) : B × PS :=
 if (numM maxN st).2.e ≠ 0 then ([], (numM maxN st).2)
 else if most < (numM maxN st).1 then ([], { (numM maxN st).2 with e := 4 })
 else if (numM maxN st).2.s.length < (numM maxN st).1 then ([], { (numM maxN st).2 with e := 14 })
 else ((numM maxN st).2.s.take (numM maxN st).1, { (numM maxN st).2 with s := (numM maxN st).2.s.drop (numM maxN st).1 })
def symM (x : UInt8) (st : PS) : B × PS :=
 if x = 58 then
  ((textM 40 st).1, { (if (textM 40 st).2.e = 0 ∧ (textM 40 st).1 ∈ (textM 40 st).2.ss then failM (textM 40 st).2 4 else (textM 40 st).2) with ss := (textM 40 st).2.ss ++ [(textM 40 st).1] })
 else if x = 59 then
  if (numM maxN st).2.e = 0 ∧ (numM maxN st).1 < (numM maxN st).2.ss.length then ((numM maxN st).2.ss.getD (numM maxN st).1 [], (numM maxN st).2) else ([], failM (numM maxN st).2 4)
 else ([], failM st 4)
def itemsM (f : PS → Int × PS) : Nat → List Int → PS → List Int × PS
 | 0, l, st => (l, st)
 | n + 1, l, st => if st.e = 0 then itemsM f n (l ++ [(f st).1]) (f st).2 else (l, st)
def nameM (ns : List B) (st : PS) : B × PS :=
 ((symM (nextM st).1 (nextM st).2).1, if (symM (nextM st).1 (nextM st).2).2.e = 0 ∧ ((symM (nextM st).1 (nextM st).2).1 ∈ ns ∨ Go.Scan.iiB (symM (nextM st).1 (nextM st).2).1 = false) then failM (symM (nextM st).1 (nextM st).2).2 4 else (symM (nextM st).1 (nextM st).2).2)
def attrsM (f : PS → Int × PS) : Nat → List B → List Int → PS → (List B × List Int) × PS
 | 0, ns, l, st => ((ns, l), st)
 | n + 1, ns, l, st => if st.e = 0 then attrsM f n (ns ++ [(nameM ns st).1]) (l ++ [(f (nameM ns st).2).1]) (f (nameM ns st).2).2 else ((ns, l), st)
def classM (st : PS) : B × PS :=
 ((symM (nextM st).1 (nextM st).2).1, if (symM (nextM st).1 (nextM st).2).2.e = 0 ∧ Go.Scan.icB (symM (nextM st).1 (nextM st).2).1 = false then failM (symM (nextM st).1 (nextM st).2).2 4 else (symM (nextM st).1 (nextM st).2).2)
def objM (f : PS → Int × PS) (st : PS) : Cell × PS :=
 (⟨8, 0, (classM st).1, (attrsM f (numM maxN (classM st).2).1 [] [] (numM maxN (classM st).2).2).1.1, (attrsM f (numM maxN (classM st).2).1 [] [] (numM maxN (classM st).2).2).1.2⟩, (attrsM f (numM maxN (classM st).2).1 [] [] (numM maxN (classM st).2).2).2)
def innerM (f : PS → Int × PS) (x : UInt8) (st : PS) : Cell × PS :=
 if x = 84 then (⟨1, 0, [], [], []⟩, st)
 else if x = 70 then (⟨2, 0, [], [], []⟩, st)
 else if x = 105 then (⟨3, unsgn (numM (2 * maxN) st).1, [], [], []⟩, (numM (2 * maxN) st).2)
 else if x = 34 then (⟨4, 0, (textM maxN st).1, [], []⟩, (textM maxN st).2)
 else if x = 58 ∨ x = 59 then (⟨5, 0, (symM x st).1, [], []⟩, (symM x st).2)
 else if x = 91 then (⟨6, 0, [], [], (itemsM f (numM maxN st).1 [] (numM maxN st).2).1⟩, (itemsM f (numM maxN st).1 [] (numM maxN st).2).2)
 else if x = 123 then (⟨7, 0, [], [], (itemsM f (2 * (numM maxN st).1) [] (numM maxN st).2).1⟩, (itemsM f (2 * (numM maxN st).1) [] (numM maxN st).2).2)
 else if x = 111 then objM f st
 else (nilC, st)
def openM (x : UInt8) (st : PS) : PS := { st with g := st.g ++ [nilC], cells := if x ∈ named then st.cells ++ [(st.g.length : Int)] else st.cells }
def refM (st : PS) : Int × PS :=
 let k := numM maxN st
 if k.2.e ≠ 0 then (0, k.2) else if k.2.cells.length ≤ k.1 then (0, failM k.2 4) else (k.2.cells.getD k.1 0, k.2)
def cellM : Nat → PS → Int × PS
 | 0, st => (0, failM st 99)
 | n + 1, st =>
  let x := nextM st
  if x.2.e ≠ 0 then (0, x.2)
  else if x.1 = 64 then refM x.2
  else if 500 ≤ x.2.g.length ∨ x.1 ∉ begins then (0, failM x.2 4)
  else let c := innerM (cellM n) x.1 (openM x.1 x.2)
   ((x.2.g.length : Int), { c.2 with g := c.2.g.set x.2.g.length c.1 })
def toS (st : PS) : St := ⟨st.s, st.g, st.cells, st.ss⟩
def ofS (st : St) : PS := ⟨st.s, st.g, st.cells, st.ss, 0⟩
theorem ofS_toS {st : PS} (h : st.e = 0) : ofS (toS st) = st := by cases st; simp only at h; subst h; rfl
structure Ref {α : Type} (F : St → Except Int (α × St)) (M : PS → α × PS) : Prop where
 ok : ∀ st a st', st.e = 0 → F (toS st) = .ok (a, st') → M st = (a, ofS st')
 err : ∀ st e, st.e = 0 → F (toS st) = .error e → (M st).2.e = e ∧ e ≠ 0
 dead : ∀ st, st.e ≠ 0 → (M st).2.e = st.e
theorem Ref.ret {α : Type} (a : α) : Ref (fun st => .ok (a, st)) (fun st => (a, st)) :=
 ⟨fun st a' st' h e => by cases e; rw [ofS_toS h], (fun st e _ h => by cases h), fun _ _ => rfl⟩
theorem Ref.bnd {α β : Type} {F : St → Except Int (α × St)} {M : PS → α × PS} {G : α → St → Except Int (β × St)} {N : α → PS → β × PS} (hF : Ref F M) (hG : ∀ a, Ref (G a) (N a)) (hd : ∀ a st, st.e ≠ 0 → (N a st).2.e = st.e) : Ref (fun st => bnd (F st) G) (fun st => N (M st).1 (M st).2) := by
 refine ⟨fun st b st2 h0 h => ?_, fun st e h0 h => ?_, fun st h => ?_⟩
 ·cases hf : F (toS st) with
  | error e => simp only [hf] at h; cases h
  | ok p =>
   obtain ⟨a, st1⟩ := p
   simp only [hf] at h
   rw [hF.ok st a st1 h0 hf]
   exact (hG a).ok (ofS st1) b st2 rfl h
 ·cases hf : F (toS st) with
  | error e1 =>
   simp only [hf] at h
   obtain rfl : e1 = e := by have : Except.error e1 = (Except.error e : Except Int (β × St)) := h; exact Except.error.inj this
   obtain ⟨h1, h2⟩ := hF.err st _ h0 hf
   exact ⟨by rw [hd _ _ (by rw [h1]; exact h2), h1], h2⟩
  | ok p =>
   obtain ⟨a, st1⟩ := p
   simp only [hf] at h
   rw [hF.ok st a st1 h0 hf]
   exact (hG a).err (ofS st1) e rfl h
 ·have h1 := hF.dead st h
  show (N (M st).1 (M st).2).2.e = _
  rw [hd _ _ (by rw [h1]; exact h), h1]
theorem Ref.map {α β : Type} {F : St → Except Int (α × St)} {M : PS → α × PS} (hF : Ref F M) (φ : α → β) : Ref (fun st => Marshal.bnd (F st) fun a st => .ok (φ a, st)) (fun st => (φ (M st).1, (M st).2)) :=
 hF.bnd (fun a => Ref.ret (φ a)) (fun _ _ _ => rfl)
theorem fail_dead {st : PS} (h : st.e ≠ 0) (e : Int) : failM st e = st := by unfold failM; rw [if_neg h]
theorem fail_e {st : PS} (h : st.e = 0) (e : Int) : (failM st e).e = e := by unfold failM; rw [if_pos h]
theorem fail_keep (st : PS) (e : Int) (h : st.e ≠ 0) : (failM st e).e = st.e := by rw [fail_dead h]
theorem Ref.next : Ref nextS nextM := by
 refine ⟨fun st a st' h0 h => ?_, fun st e h0 h => ?_, fun st h => ?_⟩
 ·unfold nextS toS at h
  unfold nextM
  rw [if_neg (by simp [h0])]
  cases hs : st.s with
  | nil => rw [hs] at h; cases h
  | cons x s =>
   rw [hs] at h
   cases h
   cases st
   simp only at h0
   subst h0
   rfl
 ·unfold nextS toS at h
  unfold nextM
  rw [if_neg (by simp [h0])]
  cases hs : st.s with
  | nil => rw [hs] at h; cases h; exact ⟨rfl, by decide⟩
  | cons x s => rw [hs] at h; cases h
 ·unfold nextM
  rw [if_pos h]
theorem rdQ_rest {most : Nat} : ∀ (s : B) (i n a : Nat) (r : B), rdF most i n s = .ok (a, r) → rdQ i s = r
 | [], _, _, _, _, h => by unfold rdF at h; cases h
 | x :: s, i, n, a, r, h => by
  unfold rdF at h
  unfold rdQ
  split at h
  ·cases h
  rename_i h1
  rw [if_neg h1]
  split at h
  ·rename_i h2
   rw [if_pos h2]
   split at h
   ·cases h; rfl
   ·cases h
  ·rename_i h2
   rw [if_neg h2]
   exact rdQ_rest s _ _ a r h
theorem rdF_err {most : Nat} : ∀ (s : B) (i n : Nat) (e : Int), rdF most i n s = .error e → e ≠ 0
 | [], _, _, _, h => by unfold rdF at h; cases h; decide
 | x :: s, i, n, e, h => by
  unfold rdF at h
  split at h
  ·cases h; decide
  split at h
  ·split at h
   ·cases h
   ·cases h; decide
  ·exact rdF_err s _ _ e h
theorem Ref.num (most : Nat) : Ref (numS most) (numM most) := by
 refine ⟨fun st a st' h0 h => ?_, fun st e h0 h => ?_, fun st h => ?_⟩
 ·unfold numS toS at h
  simp only at h
  unfold numM
  rw [if_neg (by simp [h0])]
  cases hr : rd most st.s with
  | error e => rw [hr] at h; cases h
  | ok p =>
   obtain ⟨n, r⟩ := p
   rw [hr] at h
   cases h
   have := rdQ_rest st.s 0 0 _ _ hr
   simp only
   rw [this]
   cases st
   simp only at h0
   subst h0
   rfl
 ·unfold numS toS at h
  simp only at h
  unfold numM
  rw [if_neg (by simp [h0])]
  cases hr : rd most st.s with
  | error e1 => rw [hr] at h; cases h; exact ⟨rfl, rdF_err _ _ _ _ hr⟩
  | ok p => rw [hr] at h; cases h
 ·unfold numM
  rw [if_pos h]
theorem num_dead {most : Nat} {st : PS} (h : st.e ≠ 0) : numM most st = (0, st) := by unfold numM; rw [if_pos h]
theorem textS_eq (most : Nat) : textS most = fun st => bnd (numS maxN st) fun n st => if most < n then .error 4 else if st.s.length < n then .error 14 else .ok (st.s.take n, { st with s := st.s.drop n }) := by
 funext st
 unfold textS rdT numS
 cases rd maxN st.s with
 | error e => rfl
 | ok p =>
  obtain ⟨n, r⟩ := p
  simp only [bnd]
  by_cases h1 : most < n
  ·rw [if_pos h1, if_pos h1]
  ·rw [if_neg h1, if_neg h1]
   by_cases h2 : r.length < n
   ·rw [if_pos h2, if_pos h2]
   ·rw [if_neg h2, if_neg h2]
theorem Ref.err4 {α : Type} {G : St → Except Int (α × St)} {N : PS → α × PS} (h : ∀ st, G st = .error 4) (hN : ∀ st, st.e = 0 → (N st).2.e = 4) (hd : ∀ st, st.e ≠ 0 → (N st).2.e = st.e) : Ref G N :=
 ⟨(fun st a st' _ e => by rw [h] at e; cases e), (fun st e h0 he => by rw [h] at he; cases he; exact ⟨hN st h0, by decide⟩), hd⟩
theorem Ref.text (most : Nat) : Ref (textS most) (textM most) := by
 rw [textS_eq]
 refine Ref.bnd (Ref.num maxN) (G := fun n st => if most < n then .error 4 else if st.s.length < n then .error 14 else .ok (st.s.take n, { st with s := st.s.drop n }))
  (N := fun n st => if st.e ≠ 0 then (([] : B), st) else if most < n then ([], { st with e := 4 }) else if st.s.length < n then ([], { st with e := 14 }) else (st.s.take n, { st with s := st.s.drop n }))
  (fun n => ⟨fun st a st' h0 h => ?_, fun st e h0 h => ?_, fun st h => ?_⟩) (fun n st h => ?_)
 ·rw [if_neg (by simp [h0])]
  split at h
  ·cases h
  rename_i h1
  split at h
  ·cases h
  rename_i h2
  cases h
  have h3 : ¬ st.s.length < n := h2
  rw [if_neg h1, if_neg h3]
  cases st
  simp only at h0
  subst h0
  rfl
 ·rw [if_neg (by simp [h0])]
  split at h
  ·rename_i h1
   cases h
   rw [if_pos h1]
   exact ⟨rfl, by decide⟩
  rename_i h1
  split at h
  ·rename_i h2
   cases h
   have h3 : st.s.length < n := h2
   rw [if_neg h1, if_pos h3]
   exact ⟨rfl, by decide⟩
  ·cases h
 ·rw [if_pos h]
 ·rw [if_pos h]
theorem Ref.sym (x : UInt8) : Ref (symS x) (symM x) := by
 by_cases h58 : x = 58
 ·subst h58
  have e1 : symS 58 = fun st => Marshal.bnd (textS 40 st) fun t st => if t ∈ st.ss then .error 4 else .ok (t, { st with ss := st.ss ++ [t] }) := by
   funext st
   unfold symS rdSym textS
   rw [if_neg (by decide), if_pos rfl]
   cases rdT 40 st.s with
   | error e => rfl
   | ok p =>
    obtain ⟨t, r⟩ := p
    simp only
    by_cases h : t ∈ st.ss
    ·rw [if_pos h]
     show _ = if t ∈ st.ss then _ else _
     rw [if_pos h]
    ·rw [if_neg h]
     show _ = if t ∈ st.ss then _ else _
     rw [if_neg h]
  rw [e1]
  refine Ref.bnd (Ref.text 40) (N := fun t st => (t, { (if st.e = 0 ∧ t ∈ st.ss then failM st 4 else st) with ss := st.ss ++ [t] })) (fun t => ⟨fun st a st' h0 h => ?_, fun st e h0 h => ?_, fun st h => ?_⟩) (fun t st h => ?_)
  ·by_cases hm : t ∈ st.ss
   ·have hm2 : t ∈ (toS st).ss := hm
    rw [if_pos hm2] at h; cases h
   ·have hm2 : t ∉ (toS st).ss := hm
    rw [if_neg hm2] at h
    cases h
    rw [if_neg (by simp [hm])]
    cases st
    simp only at h0
    subst h0
    rfl
  ·by_cases hm : t ∈ st.ss
   ·have hm2 : t ∈ (toS st).ss := hm
    rw [if_pos hm2] at h
    cases h
    rw [if_pos ⟨h0, hm⟩]
    exact ⟨fail_e h0 4, by decide⟩
   ·have hm2 : t ∉ (toS st).ss := hm
    rw [if_neg hm2] at h; cases h
  ·rw [if_neg (by simp [h])]
  ·rw [if_neg (by simp [h])]
 ·by_cases h59 : x = 59
  ·subst h59
   have e1 : symS 59 = fun st => Marshal.bnd (numS maxN st) fun k st => match st.ss[k]? with
     | some t => .ok (t, st)
     | none => .error 4 := by
    funext st
    unfold symS rdSym numS
    rw [if_pos rfl]
    cases rd maxN st.s with
    | error e => rfl
    | ok p =>
     obtain ⟨k, r⟩ := p
     simp only
     show _ = (match st.ss[k]? with
      | some t => .ok (t, ⟨r, st.g, st.cells, st.ss⟩)
      | none => .error 4 : Except Int (B × St))
     cases st.ss[k]? with
     | none => rfl
     | some t => rfl
   rw [e1]
   have e2 : symM 59 = fun st => (fun k st => if st.e = 0 ∧ k < st.ss.length then (st.ss.getD k [], st) else ([], failM st 4)) (numM maxN st).1 (numM maxN st).2 := by
    funext st
    unfold symM
    rw [if_neg (by decide), if_pos rfl]
   rw [e2]
   refine Ref.bnd (Ref.num maxN) (G := fun k st => match st.ss[k]? with
     | some t => .ok (t, st)
     | none => .error 4) (N := fun k st => if st.e = 0 ∧ k < st.ss.length then (st.ss.getD k [], st) else ([], failM st 4)) (fun k => ⟨fun st a st' h0 h => ?_, fun st e h0 h => ?_, fun st h => ?_⟩) (fun k st h => ?_)
   ·cases hk : (toS st).ss[k]? with
    | none => rw [hk] at h; cases h
    | some t =>
     rw [hk] at h
     cases h
     have hk2 : st.ss[k]? = some a := hk
     have := (List.getElem?_eq_some_iff.1 hk2).1
     rw [if_pos ⟨h0, this⟩, ofS_toS h0, List.getD_eq_getElem?_getD, hk2]
     rfl
   ·cases hk : (toS st).ss[k]? with
    | none =>
     rw [hk] at h
     cases h
     have hk2 : st.ss[k]? = none := hk
     have := List.getElem?_eq_none_iff.1 hk2
     rw [if_neg (by omega)]
     exact ⟨fail_e h0 4, by decide⟩
    | some t => rw [hk] at h; cases h
   ·rw [if_neg (by simp [h])]
    exact fail_keep st 4 h
   ·rw [if_neg (by simp [h])]
    exact fail_keep st 4 h
  ·have e1 : symS x = fun _ => .error 4 := by
    funext st
    unfold symS rdSym
    rw [if_neg h59, if_neg h58]
   have e2 : symM x = fun st => ([], failM st 4) := by
    funext st
    unfold symM
    rw [if_neg h58, if_neg h59]
   rw [e1, e2]
   exact Ref.err4 (fun _ => rfl) (fun st h => fail_e h 4) (fun st h => fail_keep st 4 h)
end Go.Marshal
namespace Go.Marshal
open Go.Core
theorem next_dead {st : PS} (h : st.e ≠ 0) : nextM st = (0, st) := by unfold nextM; rw [if_pos h]
theorem sym_dead {st : PS} (h : st.e ≠ 0) : (symM 0 st).2 = st := by
 unfold symM
 rw [if_neg (by decide), if_neg (by decide), fail_dead h]
theorem sym_dead_e {x : UInt8} {st : PS} (h : st.e ≠ 0) : (symM x st).2.e = st.e := (Ref.sym x).dead st h
theorem Ref.items {f : St → Except Int (Int × St)} {g : PS → Int × PS} (hf : Ref f g) : ∀ (n : Nat) (l : List Int), Ref (itemsA f n l) (itemsM g n l)
 | 0, l => Ref.ret l
 | n + 1, l => by
  have h := Ref.bnd hf (G := fun i st => itemsA f n (l ++ [i]) st) (N := fun i st => itemsM g n (l ++ [i]) st) (fun i => Ref.items hf n (l ++ [i])) (fun i st hd => (Ref.items hf n (l ++ [i])).dead st hd)
  refine ⟨fun st a st' h0 hs => ?_, fun st e h0 hs => ?_, fun st hd => ?_⟩
  ·have := h.ok st a st' h0 hs
   unfold itemsM
   rw [if_pos h0]
   exact this
  ·have := h.err st e h0 hs
   unfold itemsM
   rw [if_pos h0]
   exact this
  ·unfold itemsM
   rw [if_neg hd]
theorem Ref.guard {P : Prop} [Decidable P] {β : Type} {G : St → Except Int (β × St)} {N : PS → β × PS} (hG : Ref G N) (hd : ∀ st, st.e ≠ 0 → (N st).2.e = st.e) : Ref (fun st => if P then G st else .error 4) (fun st => N (if st.e = 0 ∧ ¬ P then failM st 4 else st)) := by
 refine ⟨fun st a st' h0 h => ?_, fun st e h0 h => ?_, fun st h => ?_⟩
 ·by_cases hp : P
  ·rw [if_pos hp] at h
   rw [if_neg (by simp [hp])]
   exact hG.ok st a st' h0 h
  ·rw [if_neg hp] at h; cases h
 ·by_cases hp : P
  ·rw [if_pos hp] at h
   rw [if_neg (by simp [hp])]
   exact hG.err st e h0 h
  ·rw [if_neg hp] at h
   cases h
   rw [if_pos ⟨h0, hp⟩]
   have := hd (failM st 4) (by rw [fail_e h0]; decide)
   rw [this, fail_e h0]
   exact ⟨rfl, by decide⟩
 ·rw [if_neg (by simp [h])]
  exact hd st h
theorem Ref.attrs {f : St → Except Int (Int × St)} {g : PS → Int × PS} (hf : Ref f g) : ∀ (n : Nat) (ns : List B) (l : List Int), Ref (attrsA f n ns l) (attrsM g n ns l)
 | 0, ns, l => Ref.ret (ns, l)
 | n + 1, ns, l => by
  have h := Ref.bnd Ref.next (G := fun x st => Marshal.bnd (symS x st) fun t st => if Go.Scan.iiB t = true ∧ t ∉ ns then Marshal.bnd (f st) fun i st => attrsA f n (ns ++ [t]) (l ++ [i]) st else .error 4)
   (N := fun x st => (fun t st => (fun st => attrsM g n (ns ++ [t]) (l ++ [(g st).1]) (g st).2) (if st.e = 0 ∧ ¬ (Go.Scan.iiB t = true ∧ t ∉ ns) then failM st 4 else st)) (symM x st).1 (symM x st).2)
   (fun x => Ref.bnd (Ref.sym x) (fun t => Ref.guard (Ref.bnd hf (fun i => Ref.attrs hf n (ns ++ [t]) (l ++ [i])) (fun i st hd => (Ref.attrs hf n (ns ++ [t]) (l ++ [i])).dead st hd)) (fun st hd => by
    rw [(Ref.attrs hf n (ns ++ [t]) (l ++ [(g st).1])).dead _ (by rw [hf.dead st hd]; exact hd), hf.dead st hd]))
    (fun t st hd => by
     rw [if_neg (by simp [hd])]
     rw [(Ref.attrs hf n (ns ++ [t]) (l ++ [(g st).1])).dead _ (by rw [hf.dead st hd]; exact hd), hf.dead st hd]))
   (fun x st hd => by
    have h1 := sym_dead_e (x := x) hd
    simp only
    rw [if_neg (by simp [h1, hd])]
    rw [(Ref.attrs hf n _ _).dead _ (by rw [hf.dead _ (by rw [h1]; exact hd), h1]; exact hd), hf.dead _ (by rw [h1]; exact hd), h1])
  have key : ∀ st : PS, st.e = 0 → attrsM g (n + 1) ns l st = (fun x st => (fun t st => (fun st => attrsM g n (ns ++ [t]) (l ++ [(g st).1]) (g st).2) (if st.e = 0 ∧ ¬ (Go.Scan.iiB t = true ∧ t ∉ ns) then failM st 4 else st)) (symM x st).1 (symM x st).2) (nextM st).1 (nextM st).2 := fun st h0 => by
   conv => lhs; unfold attrsM
   rw [if_pos h0]
   have e : (nameM ns st).2 = if (symM (nextM st).1 (nextM st).2).2.e = 0 ∧ ¬ (Go.Scan.iiB (symM (nextM st).1 (nextM st).2).1 = true ∧ (symM (nextM st).1 (nextM st).2).1 ∉ ns) then failM (symM (nextM st).1 (nextM st).2).2 4 else (symM (nextM st).1 (nextM st).2).2 := by
    unfold nameM
    simp only
    by_cases h1 : (symM (nextM st).1 (nextM st).2).2.e = 0 ∧ ((symM (nextM st).1 (nextM st).2).1 ∈ ns ∨ Go.Scan.iiB (symM (nextM st).1 (nextM st).2).1 = false)
    ·rw [if_pos h1, if_pos]
     refine ⟨h1.1, fun h2 => ?_⟩
     rcases h1.2 with h3 | h3
     ·exact h2.2 h3
     ·rw [h2.1] at h3; cases h3
    ·rw [if_neg h1, if_neg]
     rintro ⟨h2, h3⟩
     refine h1 ⟨h2, ?_⟩
     by_cases h4 : (symM (nextM st).1 (nextM st).2).1 ∈ ns
     ·exact .inl h4
     ·refine .inr ?_
      cases h5 : Go.Scan.iiB (symM (nextM st).1 (nextM st).2).1 with
      | false => rfl
      | true => exact absurd ⟨h5, h4⟩ h3
   rw [e]
   rfl
  refine ⟨fun st a st' h0 hs => ?_, fun st e h0 hs => ?_, fun st hd => ?_⟩
  ·rw [key st h0]
   exact h.ok st a st' h0 hs
  ·rw [key st h0]
   exact h.err st e h0 hs
  ·unfold attrsM
   rw [if_neg hd]
theorem attrs_dead {g : PS → Int × PS} (n : Nat) (ns : List B) (l : List Int) {st : PS} (h : st.e ≠ 0) : attrsM g n ns l st = ((ns, l), st) := by
 cases n with
 | zero => rfl
 | succ n => unfold attrsM; rw [if_neg h]
theorem items_dead {g : PS → Int × PS} (n : Nat) (l : List Int) {st : PS} (h : st.e ≠ 0) : itemsM g n l st = (l, st) := by
 cases n with
 | zero => rfl
 | succ n => unfold itemsM; rw [if_neg h]
theorem Ref.inner {f : St → Except Int (Int × St)} {g : PS → Int × PS} (hf : Ref f g) {x : UInt8} (hx : x ∈ begins) : Ref (innerF f x) (innerM g x) := by
 have hnum : ∀ m, Ref (numS m) (numM m) := Ref.num
 unfold begins at hx
 simp only [List.mem_cons, List.not_mem_nil, or_false] at hx
 rcases hx with rfl | rfl | rfl | rfl | rfl | rfl | rfl | rfl | rfl | rfl
 ·exact Ref.ret _
 ·exact Ref.ret _
 ·exact Ref.ret _
 ·exact (Ref.num (2 * maxN)).map fun n => (⟨3, unsgn n, [], [], []⟩ : Cell)
 ·exact (Ref.text maxN).map fun t => (⟨4, 0, t, [], []⟩ : Cell)
 ·exact (Ref.sym 58).map fun t => (⟨5, 0, t, [], []⟩ : Cell)
 ·exact (Ref.sym 59).map fun t => (⟨5, 0, t, [], []⟩ : Cell)
 ·exact Ref.bnd (Ref.num maxN) (N := fun n st => ((⟨6, 0, [], [], (itemsM g n [] st).1⟩ : Cell), (itemsM g n [] st).2)) (fun n => (Ref.items hf n []).map fun l => (⟨6, 0, [], [], l⟩ : Cell)) (fun n st hd => by rw [items_dead n [] hd])
 ·exact Ref.bnd (Ref.num maxN) (N := fun n st => ((⟨7, 0, [], [], (itemsM g (2 * n) [] st).1⟩ : Cell), (itemsM g (2 * n) [] st).2)) (fun n => (Ref.items hf (2 * n) []).map fun l => (⟨7, 0, [], [], l⟩ : Cell)) (fun n st hd => by rw [items_dead _ [] hd])
 ·have h := Ref.bnd Ref.next (G := fun y st => Marshal.bnd (symS y st) fun t st => if Go.Scan.icB t = true then Marshal.bnd (numS maxN st) fun n st => Marshal.bnd (attrsA f n [] [] st) fun p st => .ok ((⟨8, 0, t, p.1, p.2⟩ : Cell), st) else .error 4)
   (N := fun y st => (fun t st => (fun st => (fun n st => ((⟨8, 0, t, (attrsM g n [] [] st).1.1, (attrsM g n [] [] st).1.2⟩ : Cell), (attrsM g n [] [] st).2)) (numM maxN st).1 (numM maxN st).2) (if st.e = 0 ∧ ¬ (Go.Scan.icB t = true) then failM st 4 else st)) (symM y st).1 (symM y st).2)
   (fun y => Ref.bnd (Ref.sym y) (fun t => Ref.guard (Ref.bnd (Ref.num maxN) (fun n => (Ref.attrs hf n [] []).map fun p => (⟨8, 0, t, p.1, p.2⟩ : Cell)) (fun n st hd => by rw [attrs_dead n [] [] hd])) (fun st hd => by rw [num_dead hd, attrs_dead _ _ _ hd]))
    (fun t st hd => by
     rw [if_neg (by simp [hd]), num_dead hd, attrs_dead _ _ _ hd]))
   (fun y st hd => by
    have h1 := sym_dead_e (x := y) hd
    simp only
    rw [if_neg (by simp [h1, hd]), num_dead (by rw [h1]; exact hd), attrs_dead _ _ _ (by rw [h1]; exact hd), h1])
  have e : innerM g 111 = fun st => (fun y st => (fun t st => (fun st => (fun n st => ((⟨8, 0, t, (attrsM g n [] [] st).1.1, (attrsM g n [] [] st).1.2⟩ : Cell), (attrsM g n [] [] st).2)) (numM maxN st).1 (numM maxN st).2) (if st.e = 0 ∧ ¬ (Go.Scan.icB t = true) then failM st 4 else st)) (symM y st).1 (symM y st).2) (nextM st).1 (nextM st).2 := by
   funext st
   show objM g st = _
   unfold objM
   have e2 : (classM st).2 = if (symM (nextM st).1 (nextM st).2).2.e = 0 ∧ ¬ (Go.Scan.icB (symM (nextM st).1 (nextM st).2).1 = true) then failM (symM (nextM st).1 (nextM st).2).2 4 else (symM (nextM st).1 (nextM st).2).2 := by
    unfold classM
    simp only [Bool.not_eq_true]
   rw [e2]
   rfl
  rw [e]
  exact h
end Go.Marshal
namespace Go.Marshal
open Go.Core
theorem head_ok : ∀ (hs s r : B), headF hs s = .ok r → s = hs ++ r
 | [], s, r, h => by cases h; rfl
 | x :: hs, [], r, h => by cases h
 | x :: hs, y :: s, r, h => by
  unfold headF at h
  split at h
  ·rename_i e
   rw [e, head_ok hs s r h]
   rfl
  ·cases h
end Go.Marshal
namespace Go.Marshal
open Go.Core
theorem toS_open (x : UInt8) (st : PS) : toS (openM x st) = openS x (toS st) := rfl
theorem Ref.cell : ∀ n : Nat, Ref (formF n) (cellM n)
 | 0 => ⟨(fun st a st' h0 h => by cases h), (fun st e h0 h => by cases h; exact ⟨fail_e h0 99, by decide⟩), fun st h => fail_keep st 99 h⟩
 | n + 1 => by
  have ih := Ref.cell n
  refine Ref.bnd Ref.next (N := fun x st => if st.e ≠ 0 then (0, st) else if x = 64 then refM st else if 500 ≤ st.g.length ∨ x ∉ begins then (0, failM st 4) else ((st.g.length : Int), { (innerM (cellM n) x (openM x st)).2 with g := (innerM (cellM n) x (openM x st)).2.g.set st.g.length (innerM (cellM n) x (openM x st)).1 }))
   (fun x => ⟨fun st a st' h0 h => ?_, fun st e h0 h => ?_, fun st h => ?_⟩) (fun x st h => by rw [if_pos h])
  ·rw [if_neg (by simp [h0])]
   by_cases h64 : x = 64
   ·rw [if_pos h64] at h ⊢
    cases hn : numS maxN (toS st) with
    | error e => rw [hn] at h; cases h
    | ok p =>
     obtain ⟨k, st1⟩ := p
     rw [hn] at h
     have h1 := (Ref.num maxN).ok st k st1 h0 hn
     have h2 : (match st1.cells[k]? with
      | some c => .ok (c, st1)
      | none => .error 4 : Except Int (Int × St)) = .ok (a, st') := h
     unfold refM
     rw [h1]
     simp only
     rw [if_neg (by simp [ofS])]
     cases hc : st1.cells[k]? with
     | none => rw [hc] at h2; cases h2
     | some c =>
      rw [hc] at h2
      cases h2
      have := (List.getElem?_eq_some_iff.1 hc).1
      have hcl : ¬ (ofS st').cells.length ≤ k := by show ¬ st'.cells.length ≤ k; omega
      rw [if_neg hcl]
      show ((st'.cells.getD k 0 : Int), ofS st') = _
      rw [List.getD_eq_getElem?_getD, hc]
      rfl
   ·rw [if_neg h64] at h ⊢
    have e1 : (toS st).g.length = st.g.length := rfl
    rw [e1] at h
    by_cases hb : 500 ≤ st.g.length ∨ x ∉ begins
    ·rw [if_pos hb] at h; cases h
    ·rw [if_neg hb] at h ⊢
     have hx : x ∈ begins := Classical.byContradiction fun hx => hb (.inr hx)
     rw [← toS_open] at h
     have hi := Ref.inner ih hx
     cases hn : innerF (formF n) x (toS (openM x st)) with
     | error e => rw [hn] at h; cases h
     | ok p =>
      obtain ⟨c, st1⟩ := p
      rw [hn] at h
      have h1 := hi.ok (openM x st) c st1 h0 hn
      cases h
      rw [h1]
      rfl
  ·rw [if_neg (by simp [h0])]
   by_cases h64 : x = 64
   ·rw [if_pos h64] at h ⊢
    unfold refM
    cases hn : numS maxN (toS st) with
    | error e1 =>
     rw [hn] at h
     have : Except.error e1 = (Except.error e : Except Int (Int × St)) := h
     cases this
     obtain ⟨h1, h2⟩ := (Ref.num maxN).err st _ h0 hn
     simp only
     rw [if_pos (by rw [h1]; exact h2)]
     exact ⟨h1, h2⟩
    | ok p =>
     obtain ⟨k, st1⟩ := p
     rw [hn] at h
     have h1 := (Ref.num maxN).ok st k st1 h0 hn
     have h2 : (match st1.cells[k]? with
      | some c => .ok (c, st1)
      | none => .error 4 : Except Int (Int × St)) = .error e := h
     rw [h1]
     simp only
     rw [if_neg (by simp [ofS])]
     cases hc : st1.cells[k]? with
     | some c => rw [hc] at h2; cases h2
     | none =>
      rw [hc] at h2
      cases h2
      have := List.getElem?_eq_none_iff.1 hc
      have hcl : (ofS st1).cells.length ≤ k := by show st1.cells.length ≤ k; omega
      rw [if_pos hcl]
      exact ⟨fail_e rfl 4, by decide⟩
   ·rw [if_neg h64] at h ⊢
    have e1 : (toS st).g.length = st.g.length := rfl
    rw [e1] at h
    by_cases hb : 500 ≤ st.g.length ∨ x ∉ begins
    ·rw [if_pos hb] at h ⊢
     cases h
     exact ⟨fail_e h0 4, by decide⟩
    ·rw [if_neg hb] at h ⊢
     have hx : x ∈ begins := Classical.byContradiction fun hx => hb (.inr hx)
     rw [← toS_open] at h
     have hi := Ref.inner ih hx
     cases hn : innerF (formF n) x (toS (openM x st)) with
     | error e1 =>
      rw [hn] at h
      have : Except.error e1 = (Except.error e : Except Int (Int × St)) := h
      cases this
      exact hi.err (openM x st) _ h0 hn
     | ok p => rw [hn] at h; cases h
  ·rw [if_pos h]
theorem cell_dead (n : Nat) {st : PS} (h : st.e ≠ 0) : cellM (n + 1) st = (0, st) := by
 unfold cellM
 simp only
 rw [next_dead h, if_pos h]
def headM : B → PS → PS
 | [], st => st
 | h :: hs, st => headM hs (if (nextM st).1 ≠ h then failM (nextM st).2 4 else (nextM st).2)
def endM (st : PS) : PS := if st.e = 0 ∧ st.s ≠ [] then failM st 4 else st
open Classical in
noncomputable def checkM (st : PS) : PS := if st.e = 0 then { st with e := if ValidP st.g then 0 else 1 } else st
noncomputable def readM (s : B) : PS := checkM (endM (cellM (s.length + 1) (headM headB ⟨s, [], [], [], 0⟩)).2)
theorem head_dead : ∀ (hs : B) {st : PS}, st.e ≠ 0 → headM hs st = st
 | [], _, _ => rfl
 | h :: hs, st, hd => by
  unfold headM
  rw [next_dead hd]
  simp only
  split
  ·rw [fail_dead hd]; exact head_dead hs hd
  ·exact head_dead hs hd
theorem head_ref : ∀ (hs : B) (st : PS), st.e = 0 → (∀ r, headF hs st.s = .ok r → headM hs st = { st with s := r }) ∧ ∀ e, headF hs st.s = .error e → (headM hs st).e = e ∧ e ≠ 0
 | [], st, h0 => ⟨fun r h => by cases h; rfl, fun e h => by cases h⟩
 | x :: hs, st, h0 => by
  cases hs2 : st.s with
  | nil =>
   refine ⟨(fun r h => by cases h), fun e h => ?_⟩
   cases h
   have hn : nextM st = (0, { st with e := 14 }) := by unfold nextM; rw [if_neg (by simp [h0]), hs2]
   unfold headM
   rw [hn]
   simp only
   have hd : ({ st with e := 14 } : PS).e ≠ 0 := by show (14 : Int) ≠ 0; decide
   split
   ·rw [fail_dead hd, head_dead hs hd]
    exact ⟨rfl, by decide⟩
   ·rw [head_dead hs hd]
    exact ⟨rfl, by decide⟩
  | cons y s =>
   have hn : nextM st = (y, { st with s := s }) := by unfold nextM; rw [if_neg (by simp [h0]), hs2]
   unfold headM headF
   rw [hn]
   simp only
   by_cases hy : y = x
   ·rw [if_pos hy, if_neg (by simp [hy])]
    have ih := head_ref hs { st with s := s } h0
    exact ih
   ·rw [if_neg hy, if_pos hy]
    refine ⟨(fun r h => by cases h), fun e h => ?_⟩
    cases h
    have h4 : (failM ({ st with s := s } : PS) 4).e = 4 := fail_e (st := { st with s := s }) h0 4
    have hd : (failM ({ st with s := s } : PS) 4).e ≠ 0 := by rw [h4]; decide
    rw [head_dead hs hd]
    exact ⟨h4, by decide⟩
theorem end_dead {st : PS} (h : st.e ≠ 0) : endM st = st := by unfold endM; rw [if_neg (by simp [h])]
theorem check_dead {st : PS} (h : st.e ≠ 0) : checkM st = st := by unfold checkM; rw [if_neg h]
theorem load_ref {s : B} (hs : s.length ≤ 20000) : (∀ p, loadS s = .ok p → (readM s).e = 0 ∧ (readM s).g = p.1 ∧ (readM s).ss = p.2) ∧ ∀ e, loadS s = .error e → (readM s).e = e ∧ e ≠ 0 := by
 unfold loadS
 rw [if_neg (by omega)]
 have hh := head_ref headB ⟨s, [], [], [], 0⟩ rfl
 unfold readM
 cases hr : headF headB s with
 | error e1 =>
  obtain ⟨h1, h2⟩ := hh.2 e1 hr
  refine ⟨(fun p h => by cases h), fun e h => ?_⟩
  cases h
  have hd : (headM headB ⟨s, [], [], [], 0⟩).e ≠ 0 := by rw [h1]; exact h2
  rw [cell_dead _ hd, end_dead hd, check_dead hd]
  exact ⟨h1, h2⟩
 | ok r =>
  have h1 := hh.1 r hr
  rw [h1]
  have hl : r.length ≤ s.length := by rw [head_ok _ _ _ hr, List.length_append]; omega
  have hc := Ref.cell (s.length + 1)
  have hst : formF (r.length + 1) ⟨r, [], [], []⟩ = formF (s.length + 1) ⟨r, [], [], []⟩ := form_stab _ _ _ (Nat.lt_succ_self _) (by show r.length < _; omega)
  simp only
  rw [hst]
  cases hf : formF (s.length + 1) ⟨r, [], [], []⟩ with
  | error e1 =>
   obtain ⟨h2, h3⟩ := hc.err ⟨r, [], [], [], 0⟩ e1 rfl hf
   refine ⟨(fun p h => by cases h), fun e h => ?_⟩
   cases h
   have hd : (cellM (s.length + 1) ⟨r, [], [], [], 0⟩).2.e ≠ 0 := by rw [h2]; exact h3
   rw [end_dead hd, check_dead hd]
   exact ⟨h2, h3⟩
  | ok q =>
   obtain ⟨i, st⟩ := q
   have h2 := hc.ok ⟨r, [], [], [], 0⟩ i st rfl hf
   rw [h2]
   simp only
   by_cases hn : st.s = []
   ·have he : endM (ofS st) = ofS st := by
     unfold endM
     rw [if_neg]
     rintro ⟨_, h⟩
     exact h hn
    rw [if_neg (by simp [hn]), he]
    unfold checkM
    rw [if_pos (show (ofS st).e = 0 from rfl)]
    have hg : (ofS st).g = st.g := rfl
    rw [hg]
    by_cases hv : ValidP st.g
    ·rw [if_pos hv, if_pos hv]
     exact ⟨fun p h => by cases h; exact ⟨rfl, rfl, rfl⟩, fun e h => by cases h⟩
    ·rw [if_neg hv, if_neg hv]
     exact ⟨(fun p h => by cases h), fun e h => by cases h; exact ⟨rfl, by decide⟩⟩
   ·have he : endM (ofS st) = failM (ofS st) 4 := by
     unfold endM
     rw [if_pos ⟨rfl, hn⟩]
    have h4 : (failM (ofS st) 4).e = 4 := fail_e rfl 4
    rw [if_pos hn, he, check_dead (by rw [h4]; decide)]
    exact ⟨(fun p h => by cases h), fun e h => by cases h; exact ⟨h4, by decide⟩⟩
end Go.Marshal
namespace Go.Marshal
open Go.Core
structure Le (k : Nat) (st st' : PS) : Prop where
 pot : st'.ss.length + st'.s.length ≤ st.ss.length + st.s.length + k
 s : st'.s.length ≤ st.s.length
 g : st.g.length ≤ st'.g.length
 g5 : st.g.length ≤ 500 → st'.g.length ≤ 500
 cl : st'.cells.length + st.g.length ≤ st.cells.length + st'.g.length
theorem Le.refl (st : PS) : Le 0 st st := ⟨by omega, by omega, by omega, fun h => h, by omega⟩
theorem Le.trans {k j : Nat} {a b c : PS} (h : Le k a b) (h2 : Le j b c) : Le (k + j) a c :=
 ⟨by have := h.pot; have := h2.pot; omega, Nat.le_trans h2.s h.s, Nat.le_trans h.g h2.g, fun h0 => h2.g5 (h.g5 h0), by have := h.cl; have := h2.cl; have := h.g; have := h2.g; omega⟩
theorem Le.mono {k j : Nat} {a b : PS} (h : Le k a b) (hj : k ≤ j) : Le j a b := ⟨by have := h.pot; omega, h.s, h.g, h.g5, h.cl⟩
theorem fail_le (st : PS) (e : Int) : Le 0 st (failM st e) := by unfold failM; split <;> exact ⟨by simp, by simp, by simp, fun h => h, by simp⟩
theorem next_le (st : PS) : Le 0 st (nextM st).2 := by
 unfold nextM
 split
 ·exact Le.refl st
 split
 ·exact ⟨by simp, by simp, by simp, fun h => h, by simp⟩
 ·rename_i x s h
  refine ⟨?_, ?_, by simp, fun h => h, by simp⟩ <;> · rw [h]; simp
theorem next_lt {st : PS} (h : (nextM st).2.e = 0 ∨ (nextM st).1 ≠ 0) : (nextM st).2.s.length + 1 ≤ st.s.length ∧ (nextM st).2.ss = st.ss ∧ (nextM st).2.g = st.g ∧ (nextM st).2.cells = st.cells ∧ (nextM st).2.e = st.e ∧ st.e = 0 := by
 unfold nextM at h ⊢
 split at h
 ·rename_i h1
  rcases h with h | h
  ·exact absurd h h1
  ·exact absurd rfl h
 rename_i h1
 rw [if_neg h1]
 cases hs : st.s with
 | nil =>
  rw [hs] at h
  rcases h with h | h
  ·exact absurd h (by show (14 : Int) ≠ 0; decide)
  ·exact absurd rfl h
 | cons x s => exact ⟨by simp, rfl, rfl, rfl, rfl, Classical.not_not.1 h1⟩
theorem rdQ_le : ∀ (s : B) (i : Nat), (rdQ i s).length ≤ s.length
 | [], _ => Nat.le_refl _
 | x :: s, i => by
  unfold rdQ
  split
  ·simp
  split
  ·simp
  ·exact Nat.le_trans (rdQ_le s _) (by simp)
theorem num_le (most : Nat) (st : PS) : Le 0 st (numM most st).2 := by
 have h := rdQ_le st.s 0
 unfold numM
 split
 ·exact Le.refl st
 split <;> exact ⟨by show st.ss.length + (rdQ 0 st.s).length ≤ _; omega, h, Nat.le_refl _, fun h => h, Nat.le_refl _⟩
theorem rdF_most {most : Nat} : ∀ (s : B) (i n a : Nat) (r : B), rdF most i n s = .ok (a, r) → a ≤ most
 | [], _, _, _, _, h => by unfold rdF at h; cases h
 | x :: s, i, n, a, r, h => by
  unfold rdF at h
  split at h
  ·cases h
  split at h
  ·split at h
   ·rename_i h3
    cases h
    exact h3
   ·cases h
  ·exact rdF_most s _ _ a r h
theorem num_most (most : Nat) (st : PS) : (numM most st).1 ≤ most := by
 unfold numM
 split
 ·exact Nat.zero_le _
 split
 ·rename_i n r h
  exact rdF_most _ _ _ _ _ h
 ·exact Nat.zero_le _
theorem text_le (most : Nat) (st : PS) : Le 0 st (textM most st).2 := by
 have h := num_le maxN st
 unfold textM
 split
 ·exact h
 split
 ·exact h.trans (k := 0) (j := 0) ⟨by simp, by simp, by simp, fun h => h, by simp⟩
 split
 ·exact h.trans (k := 0) (j := 0) ⟨by simp, by simp, by simp, fun h => h, by simp⟩
 ·exact h.trans (k := 0) (j := 0) ⟨by simp, by simp, by simp, fun h => h, by simp⟩
theorem sym_le (x : UInt8) (st : PS) : Le (if x = 58 then 1 else 0) st (symM x st).2 := by
 unfold symM
 split
 ·have h := text_le 40 st
  have h2 : Le 0 (textM 40 st).2 (if (textM 40 st).2.e = 0 ∧ (textM 40 st).1 ∈ (textM 40 st).2.ss then failM (textM 40 st).2 4 else (textM 40 st).2) := by
   split
   ·exact fail_le _ _
   ·exact Le.refl _
  have h3 := h.trans h2
  generalize (if (textM 40 st).2.e = 0 ∧ (textM 40 st).1 ∈ (textM 40 st).2.ss then failM (textM 40 st).2 4 else (textM 40 st).2) = q at h2 h3 ⊢
  have h4 := h.pot
  have h5 := h2.s
  exact ⟨by simp; omega, h3.s, h3.g, h3.g5, h3.cl⟩
 split
 ·have h := num_le maxN st
  split
  ·exact h
  ·exact h.trans (fail_le _ _)
 ·exact fail_le _ _
theorem nextsym_le (st : PS) : Le 0 st (symM (nextM st).1 (nextM st).2).2 := by
 have h := sym_le (nextM st).1 (nextM st).2
 by_cases hx : (nextM st).1 = 58
 ·rw [if_pos hx] at h
  obtain ⟨h1, h2, h3, h4, _⟩ := next_lt (st := st) (.inr (by rw [hx]; decide))
  have h5 := h.pot
  have h6 := h.cl
  rw [h2] at h5
  rw [h3, h4] at h6
  exact ⟨by omega, Nat.le_trans h.s (by omega), by rw [← h3]; exact h.g, fun h0 => h.g5 (by rw [h3]; exact h0), h6⟩
 ·rw [if_neg hx] at h
  exact (next_le st).trans h
theorem class_le (st : PS) : Le 0 st (classM st).2 := by
 unfold classM
 simp only
 split
 ·exact (nextsym_le st).trans (fail_le _ _)
 ·exact nextsym_le st
theorem name_le (ns : List B) (st : PS) : Le 0 st (nameM ns st).2 := by
 unfold nameM
 simp only
 split
 ·exact (nextsym_le st).trans (fail_le _ _)
 ·exact nextsym_le st
structure Takes (f : PS → Int × PS) : Prop where
 le : ∀ st, Le 0 st (f st).2
 lt : ∀ st, (f st).2.e = 0 → (f st).2.s.length < st.s.length
def liv (st : PS) : Nat := if st.e = 0 then 1 else 0
theorem items_le {f : PS → Int × PS} (hf : Takes f) : ∀ (n : Nat) (l : List Int) (st : PS), Le 0 st (itemsM f n l st).2 ∧ (itemsM f n l st).1.length + (itemsM f n l st).2.s.length + liv (itemsM f n l st).2 ≤ l.length + st.s.length + liv st
 | 0, l, st => ⟨Le.refl st, Nat.le_refl _⟩
 | n + 1, l, st => by
  unfold itemsM
  split
  ·rename_i h0
   obtain ⟨h1, h2⟩ := items_le hf n (l ++ [(f st).1]) (f st).2
   refine ⟨(hf.le st).trans h1, Nat.le_trans h2 ?_⟩
   have h3 := (hf.le st).s
   have h4 := hf.lt st
   unfold liv
   rw [if_pos h0, List.length_append, List.length_singleton]
   split
   ·rename_i h5
    have := h4 h5
    omega
   ·omega
  ·exact ⟨Le.refl st, Nat.le_refl _⟩
theorem attrs_le {f : PS → Int × PS} (hf : Takes f) : ∀ (n : Nat) (ns : List B) (l : List Int) (st : PS), Le 0 st (attrsM f n ns l st).2 ∧ (attrsM f n ns l st).1.2.length + (attrsM f n ns l st).2.s.length + liv (attrsM f n ns l st).2 ≤ l.length + st.s.length + liv st ∧ (attrsM f n ns l st).1.1.length + l.length = ns.length + (attrsM f n ns l st).1.2.length
 | 0, ns, l, st => ⟨Le.refl st, Nat.le_refl _, rfl⟩
 | n + 1, ns, l, st => by
  unfold attrsM
  split
  ·rename_i h0
   obtain ⟨h1, h2, h6⟩ := attrs_le hf n (ns ++ [(nameM ns st).1]) (l ++ [(f (nameM ns st).2).1]) (f (nameM ns st).2).2
   have h7 := name_le ns st
   refine ⟨(h7.trans (hf.le _)).trans h1, Nat.le_trans h2 ?_, ?_⟩
   ·have h3 := (hf.le (nameM ns st).2).s
    have h4 := hf.lt (nameM ns st).2
    have h8 := h7.s
    unfold liv
    rw [if_pos h0, List.length_append, List.length_singleton]
    split
    ·rename_i h5
     have := h4 h5
     omega
    ·omega
   ·simp only [List.length_append, List.length_singleton] at h6
    omega
  ·exact ⟨Le.refl st, Nat.le_refl _, rfl⟩
theorem inner_le {f : PS → Int × PS} (hf : Takes f) (x : UInt8) (st : PS) : Le (if x = 58 then 1 else 0) st (innerM f x st).2 := by
 have z : ∀ {st' : PS}, Le 0 st st' → Le (if x = 58 then 1 else 0) st st' := fun h => h.mono (Nat.zero_le _)
 have hs := sym_le x st
 generalize (if x = 58 then 1 else 0) = k at z hs ⊢
 unfold innerM
 split
 ·exact z (Le.refl _)
 split
 ·exact z (Le.refl _)
 split
 ·exact z (num_le _ _)
 split
 ·exact z (text_le _ _)
 split
 ·exact hs
 split
 ·exact z ((num_le _ _).trans (items_le hf _ _ _).1)
 split
 ·exact z ((num_le _ _).trans (items_le hf _ _ _).1)
 split
 ·exact z (((class_le st).trans (num_le _ _)).trans (attrs_le hf _ _ _ _).1)
 ·exact z (Le.refl _)
theorem ref_le (st : PS) : Le 0 st (refM st).2 := by
 have h := num_le maxN st
 unfold refM
 simp only
 split
 ·exact h
 split
 ·exact h.trans (fail_le _ _)
 ·exact h
theorem cell_takes : ∀ n : Nat, Takes (cellM n)
 | 0 => ⟨fun st => fail_le st 99, fun st h => by
   unfold cellM failM at h
   split at h
   ·exact absurd h (by show (99 : Int) ≠ 0; decide)
   ·rename_i h2; exact absurd h h2⟩
 | n + 1 => by
  have ih := cell_takes n
  have key : ∀ st, Le 0 st (cellM (n + 1) st).2 ∧ ((cellM (n + 1) st).2.e = 0 → (cellM (n + 1) st).2.s.length < st.s.length) := by
   intro st
   unfold cellM
   simp only
   have h0 := next_le st
   split
   ·rename_i h1
    exact ⟨h0, fun h => absurd h h1⟩
   rename_i h1
   obtain ⟨k1, k2, k3, k4, k5, k6⟩ := next_lt (st := st) (.inl (Classical.not_not.1 h1))
   split
   ·have h2 := ref_le (nextM st).2
    exact ⟨h0.trans h2, fun _ => Nat.lt_of_le_of_lt h2.s (by omega)⟩
   split
   ·have h2 := fail_le (nextM st).2 4
    exact ⟨h0.trans h2, fun _ => Nat.lt_of_le_of_lt h2.s (by omega)⟩
   ·rename_i h2 h3
    have h4 := inner_le ih (nextM st).1 (openM (nextM st).1 (nextM st).2)
    have o1 : (openM (nextM st).1 (nextM st).2).s = (nextM st).2.s := rfl
    have o2 : (openM (nextM st).1 (nextM st).2).ss = (nextM st).2.ss := rfl
    have o3 : (openM (nextM st).1 (nextM st).2).g.length = (nextM st).2.g.length + 1 := by unfold openM; simp
    have o4 : (openM (nextM st).1 (nextM st).2).cells.length ≤ (nextM st).2.cells.length + 1 := by unfold openM; simp only; split <;> simp
    have p1 := h4.pot
    have p2 := h4.s
    have p3 := h4.g
    have p4 := h4.g5
    have p5 := h4.cl
    rw [o1, o2] at p1
    rw [o1] at p2
    rw [o3] at p3 p4 p5
    rw [k2] at p1
    rw [k3] at p3 p4 p5
    rw [k4] at o4
    have hg : ¬ 500 ≤ (nextM st).2.g.length := fun h => h3 (.inl h)
    rw [k3] at hg
    have h58 : (if (nextM st).1 = 58 then 1 else 0) ≤ 1 := by split <;> omega
    refine ⟨⟨?_, ?_, ?_, fun _ => ?_, ?_⟩, fun _ => ?_⟩
    ·show (innerM (cellM n) (nextM st).1 (openM (nextM st).1 (nextM st).2)).2.ss.length + (innerM (cellM n) (nextM st).1 (openM (nextM st).1 (nextM st).2)).2.s.length ≤ _
     omega
    ·show (innerM (cellM n) (nextM st).1 (openM (nextM st).1 (nextM st).2)).2.s.length ≤ _
     omega
    ·show _ ≤ (List.set _ _ _).length
     rw [List.length_set]
     omega
    ·show (List.set _ _ _).length ≤ _
     rw [List.length_set]
     omega
    ·show (innerM (cellM n) (nextM st).1 (openM (nextM st).1 (nextM st).2)).2.cells.length + _ ≤ _ + (List.set _ _ _).length
     rw [List.length_set]
     omega
    ·show (innerM (cellM n) (nextM st).1 (openM (nextM st).1 (nextM st).2)).2.s.length < _
     omega
  exact ⟨fun st => (key st).1, fun st => (key st).2⟩
structure Bd (st : PS) : Prop where
 g : st.g.length ≤ 500
 cl : st.cells.length ≤ st.g.length
 pot : st.ss.length + st.s.length ≤ 30000
theorem Bd.le {st st' : PS} (b : Bd st) (h : Le 0 st st') : Bd st' := ⟨h.g5 b.g, by have := h.cl; have := b.cl; omega, by have := h.pot; have := b.pot; omega⟩
end Go.Marshal
namespace Go.Marshal
open Go.Core
def gS (st : St) (g : List Cell) : St := { st with g := g }
structure FrS {α : Type} (F : St → Except Int (α × St)) : Prop where
 ok : ∀ st a st', F st = .ok (a, st') → ∃ tl, st'.g = st.g ++ tl ∧ ∀ g2, g2.length = st.g.length → F (gS st g2) = .ok (a, gS st' (g2 ++ tl))
 err : ∀ st e, F st = .error e → ∀ g2, g2.length = st.g.length → F (gS st g2) = .error e
theorem FrS.ret {α : Type} (a : α) : FrS fun st => .ok (a, st) :=
 ⟨fun st b st' h => by cases h; exact ⟨[], by simp, fun g2 _ => by rw [List.append_nil]⟩, fun st e h => by cases h⟩
theorem FrS.bnd {α β : Type} {F : St → Except Int (α × St)} {G : α → St → Except Int (β × St)} (hF : FrS F) (hG : ∀ a, FrS (G a)) : FrS fun st => Marshal.bnd (F st) G := by
 refine ⟨fun st b st2 h => ?_, fun st e h g2 hg => ?_⟩
 ·cases hf : F st with
  | error e => simp only [hf] at h; cases h
  | ok p =>
   obtain ⟨a, st1⟩ := p
   simp only [hf] at h
   obtain ⟨t1, e1, k1⟩ := hF.ok st a st1 hf
   obtain ⟨t2, e2, k2⟩ := (hG a).ok st1 b st2 h
   refine ⟨t1 ++ t2, by rw [e2, e1, List.append_assoc], fun g2 hg => ?_⟩
   simp only [k1 g2 hg]
   have := k2 (g2 ++ t1) (by rw [e1, List.length_append, List.length_append, hg])
   rw [List.append_assoc] at this
   exact this
 ·cases hf : F st with
  | error e1 =>
   simp only [hf] at h
   simp only [hF.err st e1 hf g2 hg]
   exact h
  | ok p =>
   obtain ⟨a, st1⟩ := p
   simp only [hf] at h
   obtain ⟨t1, e1, k1⟩ := hF.ok st a st1 hf
   simp only [k1 g2 hg]
   exact (hG a).err st1 e h (g2 ++ t1) (by rw [e1, List.length_append, List.length_append, hg])
theorem FrS.same {α : Type} {F : St → Except Int (α × St)} (h : ∀ st g2, F (gS st g2) = match F st with
  | .ok (a, st') => .ok (a, gS st' g2)
  | .error e => .error e) (hg : ∀ st a st', F st = .ok (a, st') → st'.g = st.g) : FrS F :=
 ⟨fun st a st' e => ⟨[], by rw [hg st a st' e, List.append_nil], fun g2 _ => by rw [h, e, List.append_nil]⟩, fun st e he g2 _ => by rw [h, he]⟩
theorem FrS.next : FrS nextS := by
 refine FrS.same (fun st g2 => ?_) fun st a st' h => ?_
 ·unfold nextS gS
  cases st.s <;> rfl
 ·unfold nextS at h
  split at h
  ·cases h
  ·cases h; rfl
theorem FrS.num (most : Nat) : FrS (numS most) := by
 refine FrS.same (fun st g2 => ?_) fun st a st' h => ?_
 ·unfold numS gS
  cases rd most st.s <;> rfl
 ·unfold numS at h
  split at h
  ·cases h
  ·cases h; rfl
theorem FrS.text (most : Nat) : FrS (textS most) := by
 refine FrS.same (fun st g2 => ?_) fun st a st' h => ?_
 ·unfold textS gS
  cases rdT most st.s <;> rfl
 ·unfold textS at h
  split at h
  ·cases h
  ·cases h; rfl
theorem FrS.items {f : St → Except Int (Int × St)} (hf : FrS f) : ∀ (n : Nat) (l : List Int), FrS (itemsA f n l)
 | 0, l => FrS.ret l
 | n + 1, l => hf.bnd fun i => FrS.items hf n (l ++ [i])
end Go.Marshal
namespace Go.Marshal
open Go.Core
end Go.Marshal
namespace Go.Proofs.YtgogonnnojcioaaGreatDoor
open Go.AX Go.RowKit Go.Core Go.Marshal
set_option maxRecDepth 20000
def Left (S : List UInt8) (st : PS) : Prop := ∃ u, S = u ++ st.s
end Go.Proofs.YtgogonnnojcioaaGreatDoor
namespace Go.Proofs.YtgogonnnojcioaaGreatDoor
open Go.AX Go.RowKit Go.Core Go.Marshal
set_option maxRecDepth 20000
structure RdP where
 m : List CellP
 ga : Option Addr
 gc : Nat
 ca : Option Addr
 cc : Nat
 sa : Option Addr
 sc : Nat
def rdC (st : PS) (p : RdP) : List Value := [.string (bs st.s), .slice p.ga p.m.length p.gc, .slice p.ca st.cells.length p.cc, .slice p.sa st.ss.length p.sc, .int .i64 st.e]
def rdE (rb : Nat) (st : PS) (p : RdP) : List Ent :=
 [.app 84 5 (rdC st p) (some ⟨rb, 0, none⟩) 1 1, .app 57 5 (grC p.m) p.ga p.m.length p.gc, .fact (fun w => ∀ q ∈ p.m, CellF q w), .app 3 1 (iC st.cells) p.ca st.cells.length p.cc, .app 9 1 (strC st.ss) p.sa st.ss.length p.sc]
theorem rdE_ok (rb : Nat) (st : PS) (p : RdP) : okH (rdE rb st p).length (rdE rb st p) := okHB_eq rfl
theorem fail_m (rb : Nat) (st : PS) (p : RdP) (e : Int) : SpecH Tryz.prog 63 [.c (.v (.pointer (some ⟨rb, 0, none⟩))), .c (.v (.int .i64 e))] (rdE rb st p) (RetG (ι := Unit) (fun _ => True) (fun _ => .tuple #[]) fun _ => rdE rb (failM st e) p) := by
 refine ownC hm Tryz.func63 (by kernel_rfl) rfl rfl (fun _ _ => rdE_ok _ _ _) (fun _ _ => Nat.le_refl _) ?_
 refine wX ?_
 refine LdN.one (a := some ⟨rb, 0, none⟩) (q := 4) (.int .i64 st.e) rfl (fun w hw => hw.1) rfl ?_
 refine wX ?_
 refine brd_eq (fun h => ?_) (fun h => ?_)
 ·have e0 : failM st e = { st with e := e } := by unfold failM; rw [if_pos (by simpa using h)]
  rw [e0]
  refine wX ?_
  refine EffW.appTo (i := 0) (q := 4) (ys := [_]) (rdC ({ st with e := e }) p) 5 rfl rfl rfl rfl rfl rfl rfl (Nat.le_of_ble_eq_true rfl) rfl rfl ?_
  refine wX ?_
  exact ⟨(), trivial, rfl, wkH_refl _⟩
 ·have e0 : failM st e = st := by unfold failM; rw [if_neg (by simpa using h)]
  rw [e0]
  refine wX ?_
  exact ⟨(), trivial, rfl, wkH_refl _⟩
theorem fail_mD (rb : Nat) (st : PS) (p : RdP) (h : st.e ≠ 0) (e : Int) : failM st e = st := by unfold failM; rw [if_neg h]
theorem next_m (rb : Nat) (st : PS) (p : RdP) : SpecH Tryz.prog 62 [.c (.v (.pointer (some ⟨rb, 0, none⟩)))] (rdE rb st p) (RetG (ι := Unit) (fun _ => True) (fun _ => .int .u8 ((nextM st).1.toNat : Int)) fun _ => rdE rb (nextM st).2 p) := by
 refine ownC hm Tryz.func62 (by kernel_rfl) rfl rfl (fun _ _ => rdE_ok _ _ _) (fun _ _ => Nat.le_refl _) ?_
 by_cases he : st.e = 0
 ·obtain ⟨s, g, cells, ss, e⟩ := st
  simp only at he
  subst he
  refine wX ?_
  refine LdN.one (a := some ⟨rb, 0, none⟩) (q := 4) (.int .i64 0) rfl (fun w hw => hw.1) rfl ?_
  refine wX ?_
  refine LdN.one (a := some ⟨rb, 0, none⟩) (q := 0) (.string (bs s)) rfl (fun w hw => hw.1) rfl ?_
  cases s with
  | nil =>
   refine wX ?_
   refine callG (fail_m rb ⟨[], g, cells, ss, 0⟩ p 14) [0, 1, 2, 3, 4] rfl ⟨rfl, rfl, rfl, rfl, rfl, trivial⟩ rfl fun _ _ => ?_
   refine wX ?_
   exact ⟨(), trivial, rfl, wkH_refl _⟩
  | cons x s =>
   refine wX ?_
   refine LdN.one (a := some ⟨rb, 0, none⟩) (q := 0) (.string (bs (x :: s))) rfl (fun w hw => hw.1) rfl ?_
   refine wX ?_
   have hz : 0 < (bs (x :: s)).size := by rw [bs_size]; exact Nat.succ_pos _
   refine Nd.mk ⟨Int.le_refl _, by omega⟩ ?_
   refine wX ?_
   refine LdN.one (a := some ⟨rb, 0, none⟩) (q := 0) (.string (bs (x :: s))) rfl (fun w hw => hw.1) rfl ?_
   refine wX ?_
   refine ReadW.str_l rfl (by kernel_rfl) rfl rfl ⟨by decide, by omega⟩ ?_
   have e1 : (bs (x :: s)).extract (Int.toNat 1) (bs (x :: s)).size = bs s := by rw [bs_size]; exact bs_drop (x :: s) 1
   have e2 : byteAt (bs (x :: s)) (Int.toNat 0) = (x.toNat : Int) := rfl
   rw [e1, e2]
   refine wX ?_
   refine EffW.appTo (i := 0) (q := 0) (ys := [_]) (rdC (⟨s, g, cells, ss, 0⟩) p) 5 rfl rfl rfl rfl rfl rfl rfl (Nat.le_of_ble_eq_true rfl) rfl rfl ?_
   refine wX ?_
   exact ⟨(), trivial, rfl, wkH_refl _⟩
 ·have e0 : nextM st = (0, st) := by unfold nextM; rw [if_pos he]
  rw [e0]
  refine wX ?_
  refine LdN.one (a := some ⟨rb, 0, none⟩) (q := 4) (.int .i64 st.e) rfl (fun w hw => hw.1) rfl ?_
  refine wX ?_
  rw [show (st.e != 0) = true by simpa using he]
  refine wX ?_
  refine callG (fail_m rb st p 14) [0, 1, 2, 3, 4] rfl ⟨rfl, rfl, rfl, rfl, rfl, trivial⟩ rfl fun _ _ => ?_
  rw [fail_mD rb st p he]
  refine wX ?_
  exact ⟨(), trivial, rfl, wkH_refl _⟩
end Go.Proofs.YtgogonnnojcioaaGreatDoor
namespace Go.Proofs.YtgogonnnojcioaaGreatDoor
open Go.AX Go.RowKit Go.Core Go.Marshal
set_option maxRecDepth 20000
theorem rdF_cons (most i n : Nat) (x : UInt8) (s : List UInt8) : rdF most i n (x :: s) = if i = 0 ∧ x = 128 ∨ 9 ≤ i then .error 4 else if x.toNat < 128 then (if n * 128 + x.toNat % 128 ≤ most then .ok (n * 128 + x.toNat % 128, s) else .error 4) else rdF most (i + 1) (n * 128 + x.toNat % 128) s := by
 conv => lhs; unfold rdF
theorem rdQ_cons (i : Nat) (x : UInt8) (s : List UInt8) : rdQ i (x :: s) = if i = 0 ∧ x = 128 ∨ 9 ≤ i then s else if x.toNat < 128 then s else rdQ (i + 1) s := by
 conv => lhs; unfold rdQ
theorem and127 (x : UInt8) : IntKind.u8.wrap ((BitVec.ofInt IntKind.u8.bits (x.toNat : Int) &&& BitVec.ofInt IntKind.u8.bits 127).toNat : Int) = ((x.toNat % 128 : Nat) : Int) := by
 show IntKind.u8.wrap ((BitVec.ofInt 8 (x.toNat : Int) &&& BitVec.ofInt 8 127).toNat : Int) = _
 have hx := x.toNat_lt
 rw [BitVec.toNat_and, BitVec.toNat_ofInt, BitVec.toNat_ofInt]
 have e1 : ((x.toNat : Int) % ((2 ^ 8 : Nat) : Int)).toNat = x.toNat := by omega
 have e2 : ((127 : Int) % ((2 ^ 8 : Nat) : Int)).toNat = 2 ^ 7 - 1 := by decide
 rw [e1, e2, Nat.and_two_pow_sub_one_eq_mod]
 rw [wrap_u8 (by omega)]
theorem step7 (n c : Nat) (hn : n < 72057594037927936) (hc : c < 128) : IntKind.i64.wrap ((BitVec.ofInt IntKind.i64.bits (IntKind.i64.wrap ((n : Int) * 2 ^ min (Int.toNat 7) IntKind.i64.bits)) ||| BitVec.ofInt IntKind.i64.bits (IntKind.i64.wrap (c : Int))).toNat : Int) = ((n * 128 + c : Nat) : Int) := by
 rw [show (2 : Int) ^ min (Int.toNat 7) IntKind.i64.bits = 128 from rfl, wrap_i64 (x := (n : Int) * 128) (by omega), wrap_i64 (x := (c : Int)) (by omega)]
 show IntKind.i64.wrap ((BitVec.ofInt 64 ((n : Int) * 128) ||| BitVec.ofInt 64 (c : Int)).toNat : Int) = _
 rw [BitVec.toNat_or, BitVec.toNat_ofInt, BitVec.toNat_ofInt]
 have e1 : (((n : Int) * 128) % ((2 ^ 64 : Nat) : Int)).toNat = n * 128 := by omega
 have e2 : ((c : Int) % ((2 ^ 64 : Nat) : Int)).toNat = c := by omega
 rw [e1, e2]
 have := Nat.shiftLeft_add_eq_or_of_lt (b := c) (i := 7) (by omega) n
 rw [Nat.shiftLeft_eq] at this
 rw [show n * 128 = n * 2 ^ 7 from rfl, ← this, wrap_i64 (by omega)]
theorem next_cons (rb : Nat) (x : UInt8) (s : List UInt8) (g : List Cell) (cells : List Int) (ss : List (List UInt8)) (p : RdP) : SpecH Tryz.prog 62 [.c (.v (.pointer (some ⟨rb, 0, none⟩)))] (rdE rb ⟨x :: s, g, cells, ss, 0⟩ p) (RetG (ι := Unit) (fun _ => True) (fun _ => .int .u8 (x.toNat : Int)) fun _ => rdE rb ⟨s, g, cells, ss, 0⟩ p) :=
 next_m rb ⟨x :: s, g, cells, ss, 0⟩ p
theorem number_m (rb : Nat) (st : PS) (p : RdP) (most : Nat) (hm2 : most ≤ 2000000000000000) : SpecH Tryz.prog 87 [.c (.v (.pointer (some ⟨rb, 0, none⟩))), .c (.v (.int .i64 (most : Int)))] (rdE rb st p) (RetG (ι := Unit) (fun _ => True) (fun _ => .int .i64 ((numM most st).1 : Int)) fun _ => rdE rb (numM most st).2 p) := by
  refine ownC hm Tryz.func87 (by kernel_rfl) rfl rfl (fun _ _ => rdE_ok _ _ _) (fun _ _ => Nat.le_refl _) ?_
  by_cases he : st.e = 0
  · obtain ⟨s0, g, cells, ss, e⟩ := st
    simp only at he
    subst he
    refine wX ?_
    refine LoopN.intro (Nat × Nat × List UInt8) (fun ⟨i, n, s⟩ => rdF most i n s = rdF most 0 0 s0 ∧ rdQ i s = rdQ 0 s0 ∧ i ≤ 9 ∧ n < 128 ^ i)
      (fun ⟨i, n, _⟩ => mkS Tryz.f87.ntmps 0 [(0, .c (.v (.pointer (some ⟨rb, 0, none⟩)))), (1, .c (.v (.int .i64 (most : Int)))), (4, .c (.v (.int .i64 0))), (5, .c (.v (.int .i64 (n : Int)))), (6, .c (.v (.int .i64 (i : Int))))])
      (fun ⟨_, _, s⟩ => rdE rb ⟨s, g, cells, ss, 0⟩ p) (fun ⟨_, _, s⟩ => s.length) [] rfl
      (fun _ => rfl) (fun _ => rfl) (fun _ _ => rdE_ok _ _ _) ⟨(0, 0, s0), ⟨rfl, rfl, by omega, by omega⟩, ?_, wkH_refl _⟩ ?_
    · exact wKK
    rintro ⟨i, n, s⟩ ⟨h1, h2, h3, h4⟩
    have hn : n < 9223372036854775808 := Nat.lt_of_lt_of_le h4 (Nat.le_trans (Nat.pow_le_pow_right (by decide) h3) (by decide))
    cases s with
    | nil =>
      refine wX ?_
      refine callG (next_m rb ⟨[], g, cells, ss, 0⟩ p) [0, 1, 2, 3, 4] rfl ⟨rfl, rfl, rfl, rfl, rfl, trivial⟩ rfl fun _ _ => ?_
      have e0 : numM most ⟨s0, g, cells, ss, 0⟩ = (0, ⟨[], g, cells, ss, 14⟩) := by
        unfold numM rd
        rw [if_neg (by show ¬ (0 : Int) ≠ 0; decide)]
        simp only
        rw [← h1, ← h2]
        rfl
      rw [e0]
      refine wX ?_
      refine LdN.one (a := some ⟨rb, 0, none⟩) (q := 4) (.int .i64 14) rfl (fun w hw => hw.1) rfl ?_
      refine wX ?_
      exact ⟨(), trivial, rfl, wkH_refl _⟩
    | cons x s =>
      have hx128 : ((x.toNat : Int) == 128) = decide (x = 128) := by
        by_cases h : x = 128
        · subst h; rfl
        · rw [decide_eq_false h, beq_eq_false_iff_ne]
          intro h5
          exact h (UInt8.toNat_inj.1 (by have : x.toNat = 128 := by omega
                                         rw [this]; rfl))
      have bad : (i = 0 ∧ x = 128 ∨ 9 ≤ i) → numM most ⟨s0, g, cells, ss, 0⟩ = (0, ⟨s, g, cells, ss, 4⟩) := by
        intro hb
        unfold numM rd
        rw [if_neg (by show ¬ (0 : Int) ≠ 0; decide)]
        simp only
        rw [← h1, ← h2]
        unfold rdF rdQ
        rw [if_pos hb, if_pos hb]
      refine wX ?_
      refine callG (next_cons rb x s g cells ss p) [0, 1, 2, 3, 4] rfl ⟨rfl, rfl, rfl, rfl, rfl, trivial⟩ rfl fun _ _ => ?_
      refine wX ?_
      refine LdN.one (a := some ⟨rb, 0, none⟩) (q := 4) (.int .i64 0) rfl (fun w hw => hw.1) rfl ?_
      refine wX ?_
      by_cases hb : i = 0 ∧ x = 128 ∨ 9 ≤ i
      · rw [bad hb]
        rcases hb with ⟨rfl, rfl⟩ | hb
        · refine wX ?_
          refine callG (fail_m rb ⟨s, g, cells, ss, 0⟩ p 4) [0, 1, 2, 3, 4] rfl ⟨rfl, rfl, rfl, rfl, rfl, trivial⟩ rfl fun _ _ => ?_
          refine wX ?_
          exact ⟨(), trivial, rfl, wkH_refl _⟩
        · obtain rfl : i = 9 := by omega
          refine wX ?_
          refine callG (fail_m rb ⟨s, g, cells, ss, 0⟩ p 4) [0, 1, 2, 3, 4] rfl ⟨rfl, rfl, rfl, rfl, rfl, trivial⟩ rfl fun _ _ => ?_
          refine wX ?_
          exact ⟨(), trivial, rfl, wkH_refl _⟩
      · have f1 := h1
        have f2 := h2
        rw [rdF_cons, if_neg hb] at f1
        rw [rdQ_cons, if_neg hb] at f2
        have hi8 : i ≤ 8 := by omega
        have hn56 : n < 72057594037927936 := Nat.lt_of_lt_of_le h4 (Nat.le_trans (Nat.pow_le_pow_right (by decide) hi8) (by decide))
        by_cases hi : i = 0
        · subst hi
          have hx : x ≠ 128 := fun h => hb (.inl ⟨rfl, h⟩)
          refine wX ?_
          rw [hx128, decide_eq_false hx]
          refine wX ?_
          rw [and127, step7 n (x.toNat % 128) hn56 (Nat.mod_lt _ (by decide))]
          refine brd_dec (fun h5 => ?_) (fun h5 => ?_)
          · have h6 : x.toNat < 128 := by omega
            rw [if_pos h6] at f1 f2
            refine wX ?_
            refine brd_dec (fun h7 => ?_) (fun h7 => ?_)
            · have e0 : numM most ⟨s0, g, cells, ss, 0⟩ = (0, ⟨s, g, cells, ss, 4⟩) := by
                unfold numM rd
                rw [if_neg (by show ¬ (0 : Int) ≠ 0; decide)]
                simp only
                rw [← f1, ← f2, if_neg (by omega)]
              rw [e0]
              refine wX ?_
              refine callG (fail_m rb ⟨s, g, cells, ss, 0⟩ p 4) [0, 1, 2, 3, 4] rfl ⟨rfl, rfl, rfl, rfl, rfl, trivial⟩ rfl fun _ _ => ?_
              refine wX ?_
              exact ⟨(), trivial, rfl, wkH_refl _⟩
            · have e0 : numM most ⟨s0, g, cells, ss, 0⟩ = (n * 128 + x.toNat % 128, ⟨s, g, cells, ss, 0⟩) := by
                unfold numM rd
                rw [if_neg (by show ¬ (0 : Int) ≠ 0; decide)]
                simp only
                rw [← f1, ← f2, if_pos (by omega)]
              rw [e0]
              refine wX ?_
              exact ⟨(), trivial, rfl, wkH_refl _⟩
          · have h6 : ¬ x.toNat < 128 := by omega
            rw [if_neg h6] at f1 f2
            refine wX ?_
            refine ⟨(0 + 1, n * 128 + x.toNat % 128, s), ⟨f1, f2, by omega, by have h9 : n + 1 ≤ 128 ^ 0 := h4; rw [Nat.pow_succ]; have := Nat.mul_le_mul_right 128 h9; omega⟩, by show s.length < s.length + 1; omega, ?_, wHH⟩
            exact wKK
        · refine wX ?_
          rw [show ((i : Int) == 0) = false by rw [beq_eq_false_iff_ne]; omega]
          refine wX ?_
          rw [show ((i : Int) == 9) = false by rw [beq_eq_false_iff_ne]; omega]
          refine wX ?_
          rw [and127, step7 n (x.toNat % 128) hn56 (Nat.mod_lt _ (by decide))]
          refine brd_dec (fun h5 => ?_) (fun h5 => ?_)
          · have h6 : x.toNat < 128 := by omega
            rw [if_pos h6] at f1 f2
            refine wX ?_
            refine brd_dec (fun h7 => ?_) (fun h7 => ?_)
            · have e0 : numM most ⟨s0, g, cells, ss, 0⟩ = (0, ⟨s, g, cells, ss, 4⟩) := by
                unfold numM rd
                rw [if_neg (by show ¬ (0 : Int) ≠ 0; decide)]
                simp only
                rw [← f1, ← f2, if_neg (by omega)]
              rw [e0]
              refine wX ?_
              refine callG (fail_m rb ⟨s, g, cells, ss, 0⟩ p 4) [0, 1, 2, 3, 4] rfl ⟨rfl, rfl, rfl, rfl, rfl, trivial⟩ rfl fun _ _ => ?_
              refine wX ?_
              exact ⟨(), trivial, rfl, wkH_refl _⟩
            · have e0 : numM most ⟨s0, g, cells, ss, 0⟩ = (n * 128 + x.toNat % 128, ⟨s, g, cells, ss, 0⟩) := by
                unfold numM rd
                rw [if_neg (by show ¬ (0 : Int) ≠ 0; decide)]
                simp only
                rw [← f1, ← f2, if_pos (by omega)]
              rw [e0]
              refine wX ?_
              exact ⟨(), trivial, rfl, wkH_refl _⟩
          · have h6 : ¬ x.toNat < 128 := by omega
            rw [if_neg h6] at f1 f2
            refine wX ?_
            refine ⟨(i + 1, n * 128 + x.toNat % 128, s), ⟨f1, f2, by omega, by have h9 : n + 1 ≤ 128 ^ i := h4; rw [Nat.pow_succ]; have := Nat.mul_le_mul_right 128 h9; omega⟩, by show s.length < s.length + 1; omega, ?_, wHH⟩
            exact wKK
  · rw [num_dead he]
    refine wX ?_
    refine LoopN.unroll 1 ?_
    refine wX ?_
    refine callG (next_m rb st p) [0, 1, 2, 3, 4] rfl ⟨rfl, rfl, rfl, rfl, rfl, trivial⟩ rfl fun _ _ => ?_
    rw [next_dead he]
    refine wX ?_
    refine LdN.one (a := some ⟨rb, 0, none⟩) (q := 4) (.int .i64 st.e) rfl (fun w hw => hw.1) rfl ?_
    refine wX ?_
    refine brd_ne (fun _ => ?_) (fun h => absurd h he)
    refine wX ?_
    exact ⟨(), trivial, rfl, wkH_refl _⟩
end Go.Proofs.YtgogonnnojcioaaGreatDoor
namespace Go.Proofs.YtgogonnnojcioaaGreatDoor
open Go.AX Go.RowKit Go.Core Go.Marshal
set_option maxRecDepth 20000
end Go.Proofs.YtgogonnnojcioaaGreatDoor
namespace Go.Proofs.YtgogonnnojcioaaGreatDoor
open Go.AX Go.RowKit Go.Core Go.Marshal
set_option maxRecDepth 20000
theorem text_rd (rb : Nat) (st : PS) (p : RdP) (most : Nat) : SpecH Tryz.prog 104 [.c (.v (.pointer (some ⟨rb, 0, none⟩))), .c (.v (.int .i64 (most : Int)))] (rdE rb st p) (RetG (ι := Unit) (fun _ => True) (fun _ => .string (bs (textM most st).1)) fun _ => rdE rb (textM most st).2 p) := by
 refine ownC hm Tryz.func104 (by kernel_rfl) rfl rfl (fun _ _ => rdE_ok _ _ _) (fun _ _ => Nat.le_refl _) ?_
 have hnum := number_m rb st p maxN (by decide)
 unfold textM
 generalize numM maxN st = q at hnum ⊢
 obtain ⟨n, st1⟩ := q
 simp only at hnum ⊢
 refine wX ?_
 refine callG (hnum) [0, 1, 2, 3, 4] rfl ⟨rfl, rfl, rfl, rfl, rfl, trivial⟩ rfl fun _ _ => ?_
 refine wX ?_
 refine LdN.one (a := some ⟨rb, 0, none⟩) (q := 4) (.int .i64 st1.e) rfl (fun w hw => hw.1) rfl ?_
 refine wX ?_
 refine brd_ne (fun h1 => ?_) (fun h1 => ?_)
 ·rw [if_pos h1]
  refine wX ?_
  exact ⟨(), trivial, rfl, wkH_refl _⟩
 rw [if_neg (fun h => h h1)]
 have e4 : ∀ e : Int, ({ st1 with e := e } : PS) = failM st1 e := fun e => by unfold failM; rw [if_pos h1]
 rw [e4 4, e4 14]
 refine wX ?_
 refine brd_dec (fun h2 => ?_) (fun h2 => ?_)
 ·rw [if_pos (by omega)]
  refine wX ?_
  refine callG (fail_m rb st1 p 4) [0, 1, 2, 3, 4] rfl ⟨rfl, rfl, rfl, rfl, rfl, trivial⟩ rfl fun _ _ => ?_
  refine wX ?_
  exact ⟨(), trivial, rfl, wkH_refl _⟩
 rw [if_neg (by omega)]
 refine wX ?_
 refine LdN.one (a := some ⟨rb, 0, none⟩) (q := 0) (.string (bs st1.s)) rfl (fun w hw => hw.1) rfl ?_
 refine wX ?_
 have hsz := bs_size st1.s
 refine brd_dec (fun h3 => ?_) (fun h3 => ?_)
 ·rw [if_pos (by omega)]
  refine wX ?_
  refine callG (fail_m rb st1 p 14) [0, 1, 2, 3, 4] rfl ⟨rfl, rfl, rfl, rfl, rfl, trivial⟩ rfl fun _ _ => ?_
  refine wX ?_
  exact ⟨(), trivial, rfl, wkH_refl _⟩
 rw [if_neg (by omega)]
 refine wX ?_
 refine LdN.one (a := some ⟨rb, 0, none⟩) (q := 0) (.string (bs st1.s)) rfl (fun w hw => hw.1) rfl ?_
 refine wX ?_
 refine ReadW.str_h rfl (by kernel_rfl) rfl rfl ⟨by omega, by omega⟩ ?_
 rw [bs_take, Int.toNat_natCast]
 refine wX ?_
 refine LdN.one (a := some ⟨rb, 0, none⟩) (q := 0) (.string (bs st1.s)) rfl (fun w hw => hw.1) rfl ?_
 refine wX ?_
 refine ReadW.str_l rfl (by kernel_rfl) rfl rfl ⟨by omega, by omega⟩ ?_
 have e1 : (bs st1.s).extract (Int.toNat (n : Int)) (bs st1.s).size = bs (st1.s.drop n) := by rw [bs_size, Int.toNat_natCast]; exact bs_drop st1.s n
 rw [e1]
 refine wX ?_
 refine EffW.appTo (i := 0) (q := 0) (ys := [_]) (rdC ({ st1 with s := st1.s.drop n }) p) 5 rfl rfl rfl rfl rfl rfl rfl (Nat.le_of_ble_eq_true rfl) rfl rfl ?_
 refine wX ?_
 exact ⟨(), trivial, rfl, wkH_refl _⟩
end Go.Proofs.YtgogonnnojcioaaGreatDoor
namespace Go.Proofs.YtgogonnnojcioaaGreatDoor
open Go.AX Go.RowKit Go.Core Go.Marshal
set_option maxRecDepth 20000
theorem SIndex_m (a : Option Addr) (l : List (List UInt8)) (cap : Nat) (s : List UInt8) (ha : a = none → l = []) (hl : l.length ≤ 1000000) :
  ∀ H, (∀ w, Facts H w → SlAt a (l.length * 1) (strC l) w) → SpecH Tryz.prog 151 (pvs [.slice a l.length cap, .string (bs s)]) H (RetR (fun v => ∃ n : Int, v = .int .i64 n ∧ (0 ≤ n ↔ s ∈ l)) H) := by
 refine factR hm Tryz.func151 (by kernel_rfl) rfl rfl ?_
 refine wX ?_
 refine loopS Nat (fun i => i ≤ l.length ∧ s ∉ l.take i) (fun i => mkS Tryz.f151.ntmps 0 [(0, .c (.v (.slice a l.length cap))), (1, .c (.v (.string (bs s)))), (7, .c (.v (.int .i64 (l.length : Int)))), (8, .c (.v (.int .i64 (i : Int))))]) (fun i => l.length - i) rfl (fun _ => rfl) 0 ⟨Nat.zero_le _, by simp⟩ ?_ ?_
 ·exact wKK
 intro i ⟨hi, hno⟩
 refine wX ?_
 refine brd_dec (fun h1 => ?_) (fun h1 => ?_)
 ·obtain ⟨t, ht⟩ : ∃ t, l[i]? = some t := ⟨_, List.getElem?_eq_getElem (by omega)⟩
  have hsa : a.isSome = true := by
   cases a with
   | none => rw [ha rfl] at ht; cases ht
   | some b => rfl
  refine wX ?_
  refine Nd.mk ⟨hsa, by omega, by omega⟩ ?_
  refine wX ?_
  refine LdN.one (.string (bs t)) rfl (fun w hw => hw.1) (by show (strC l)[Int.toNat _ * 1]? = _; rw [Int.toNat_natCast, Nat.mul_one]; exact strC_get ht) ?_
  refine wX ?_
  refine brd_intro (fun h2 => ?_) (fun h2 => ?_)
  ·have h3 : s = t := eq_of_beq (show (s == t) = true from h2)
   refine wX ?_
   refine ⟨_, rfl, (i : Int), rfl, ⟨fun _ => ?_, fun _ => by omega⟩⟩
   rw [h3]
   exact List.mem_of_getElem? ht
  ·have h3 : (s == t) = false := h2
   refine wX ?_
   refine ⟨i + 1, ⟨by omega, ?_⟩, by omega, ?_, wHH⟩
   ·rw [List.take_add_one, ht]
    simp only [Option.toList_some, List.mem_append, List.mem_singleton, not_or]
    exact ⟨hno, by simpa using h3⟩
   ·exact wKK
 ·have hie : i = l.length := by omega
  subst hie
  rw [List.take_length] at hno
  refine wX ?_
  exact ⟨_, rfl, -1, rfl, ⟨fun h => absurd h (by decide), fun h => absurd h hno⟩⟩
theorem Contains_m (a : Option Addr) (l : List (List UInt8)) (cap : Nat) (s : List UInt8) (ha : a = none → l = []) (hl : l.length ≤ 1000000) :
  ∀ H, (∀ w, Facts H w → SlAt a (l.length * 1) (strC l) w) → SpecH Tryz.prog 130 (pvs [.slice a l.length cap, .string (bs s)]) H (Ret (.bool (decide (s ∈ l))) H) := by
 refine factC hm Tryz.func130 (by kernel_rfl) rfl rfl ?_
 refine wX ?_
 refine callR (SIndex_m a l cap s ha hl _ (fun w hw => hw.1)) fun v hv => ?_
 obtain ⟨n, rfl, hn⟩ := hv
 refine wX ?_
 refine ret_b ?_
 rw [decide_eq_true_eq, decide_eq_true_eq]
 exact hn
end Go.Proofs.YtgogonnnojcioaaGreatDoor
namespace Go.Proofs.YtgogonnnojcioaaGreatDoor
open Go.AX Go.RowKit Go.Core Go.Marshal
set_option maxRecDepth 20000
structure RdOk (st : PS) (p : RdP) : Prop where
 g : p.m.map (·.c) = st.g
 cell : ∀ q ∈ p.m, CellOk q
 ga : p.ga = none → p.m = []
 ca : p.ca = none → st.cells = []
 sa : p.sa = none → st.ss = []
 sw : ∀ t ∈ st.ss, t.length ≤ 30000
 gx : p.ga = none ∨ ∃ b : Nat, p.ga = some ⟨b, 0, none⟩
theorem fail_ss (st : PS) (e : Int) : (failM st e).ss = st.ss ∧ (failM st e).g = st.g ∧ (failM st e).cells = st.cells := by unfold failM; split <;> exact ⟨rfl, rfl, rfl⟩
theorem num_keep (most : Nat) (st : PS) : (numM most st).2.ss = st.ss ∧ (numM most st).2.g = st.g ∧ (numM most st).2.cells = st.cells := by
 unfold numM
 split
 ·exact ⟨rfl, rfl, rfl⟩
 split <;> exact ⟨rfl, rfl, rfl⟩
theorem text_keep (most : Nat) (st : PS) : (textM most st).2.ss = st.ss ∧ (textM most st).2.g = st.g ∧ (textM most st).2.cells = st.cells := by
 have h := num_keep maxN st
 unfold textM
 split
 ·exact h
 split
 ·exact h
 split <;> exact h
theorem symbol_rd (rb : Nat) (x : UInt8) (st : PS) (p : RdP) (ok : RdOk st p) (hss : st.ss.length < 100000) : SpecH Tryz.prog 105 [.c (.v (.pointer (some ⟨rb, 0, none⟩))), .c (.v (.int .u8 (x.toNat : Int)))] (rdE rb st p) (RetG (ι := Option Addr × Nat) (fun i => i.1 = none → (symM x st).2.ss = []) (fun _ => .string (bs (symM x st).1)) fun i => rdE rb (symM x st).2 { p with sa := i.1, sc := i.2 }) := by
  refine ownC hm Tryz.func105 (by kernel_rfl) rfl rfl (fun _ _ => rdE_ok _ _ _) (fun _ _ => Nat.le_refl _) ?_
  have htext := text_rd rb st p 40
  have hnum := number_m rb st p maxN (by decide)
  have kt := text_keep 40 st
  have kn := num_keep maxN st
  unfold symM
  generalize textM 40 st = qt at htext kt ⊢
  generalize numM maxN st = qn at hnum kn ⊢
  obtain ⟨t, st1⟩ := qt
  obtain ⟨n, st2⟩ := qn
  simp only at htext hnum kt kn ⊢
  by_cases h58 : x = 58
  · subst h58
    rw [if_pos rfl]
    have hsa : p.sa = none → st1.ss = [] := fun h => by rw [kt.1]; exact ok.sa h
    have hl1 : st1.ss.length < 100000 := by rw [kt.1]; exact hss
    refine wX ?_
    refine callG (htext) [0, 1, 2, 3, 4] rfl ⟨rfl, rfl, rfl, rfl, rfl, trivial⟩ rfl fun _ _ => ?_
    refine wX ?_
    refine LdN.one (a := some ⟨rb, 0, none⟩) (q := 4) (.int .i64 st1.e) rfl (fun w hw => hw.1) rfl ?_
    refine wX ?_
    by_cases he : st1.e = 0
    · rw [show (st1.e == 0) = true by rw [he]; rfl]
      refine wX ?_
      refine LdN.one (a := some ⟨rb, 0, none⟩) (q := 3) (.slice p.sa st1.ss.length p.sc) rfl (fun w hw => hw.1) rfl ?_
      refine wX ?_
      refine call1 (Contains_m p.sa st1.ss p.sc t hsa (by omega) _ (fun w hw => hw.2.2.2.2.1)) ?_
      refine wX ?_
      refine brd_dec (fun hm => ?_) (fun hm => ?_)
      · refine wX ?_
        refine callG (fail_m rb st1 p 4) [0, 1, 2, 3, 4] rfl ⟨rfl, rfl, rfl, rfl, rfl, trivial⟩ rfl fun _ _ => ?_
        rw [if_pos ⟨he, hm⟩, show ({ failM st1 4 with ss := st1.ss ++ [t] } : PS) = { failM st1 4 with ss := (failM st1 4).ss ++ [t] } by rw [(fail_ss st1 4).1]]
        have hl2 : (failM st1 4).ss.length < 100000 := by rw [(fail_ss st1 4).1]; exact hl1
        generalize failM st1 4 = st3 at hl2 ⊢
        refine wX ?_
        refine LdN.one (a := some ⟨rb, 0, none⟩) (q := 3) (.slice p.sa (st3).ss.length p.sc) rfl (fun w hw => hw.1) rfl ?_
        refine wX ?_
        refine Nd.mk ⟨Nat.le_refl 1, rfl, rfl⟩ ?_
        (conv => whnf)
        refine AppN.grow 4 (strC (st3).ss) [.string (bs t)] rfl rfl ⟨Nat.le_refl 1, ⟨by show ((st3).ss.length + 1) * 16 ≤ _; omega, by omega⟩, by decide⟩ fun b' cap' h1 h2 => ?_
        refine wX ?_
        refine EffW.appTo (i := 0) (q := 3) (ys := [_]) (rdC { (st3) with ss := (st3).ss ++ [t] } { p with sa := some ⟨b', 0, none⟩, sc := cap' }) 5 rfl rfl rfl rfl rfl rfl rfl (Nat.le_of_ble_eq_true rfl) (by simp [rdC]) rfl ?_
        refine wX ?_
        refine ⟨(some ⟨b', 0, none⟩, cap'), (fun h => by cases h), rfl, wkE_refl _, wkE_refl _, wkE_refl _, wkE_refl _, ?_, trivial⟩
        rw [show strC (st3).ss ++ [.string (bs t)] = strC ((st3).ss ++ [t]) by simp [strC], show (st3).ss.length + 1 = ((st3).ss ++ [t]).length by simp]
        exact wkE_refl _
      · rw [if_neg (fun h => hm h.2)]
        refine wX ?_
        refine LdN.one (a := some ⟨rb, 0, none⟩) (q := 3) (.slice p.sa (st1).ss.length p.sc) rfl (fun w hw => hw.1) rfl ?_
        refine wX ?_
        refine Nd.mk ⟨Nat.le_refl 1, rfl, rfl⟩ ?_
        (conv => whnf)
        refine AppN.grow 4 (strC (st1).ss) [.string (bs t)] rfl rfl ⟨Nat.le_refl 1, ⟨by show ((st1).ss.length + 1) * 16 ≤ _; omega, by omega⟩, by decide⟩ fun b' cap' h1 h2 => ?_
        refine wX ?_
        refine EffW.appTo (i := 0) (q := 3) (ys := [_]) (rdC { (st1) with ss := (st1).ss ++ [t] } { p with sa := some ⟨b', 0, none⟩, sc := cap' }) 5 rfl rfl rfl rfl rfl rfl rfl (Nat.le_of_ble_eq_true rfl) (by simp [rdC]) rfl ?_
        refine wX ?_
        refine ⟨(some ⟨b', 0, none⟩, cap'), (fun h => by cases h), rfl, wkE_refl _, wkE_refl _, wkE_refl _, wkE_refl _, ?_, trivial⟩
        rw [show strC (st1).ss ++ [.string (bs t)] = strC ((st1).ss ++ [t]) by simp [strC], show (st1).ss.length + 1 = ((st1).ss ++ [t]).length by simp]
        exact wkE_refl _
    · rw [show (st1.e == 0) = false by simpa using he, if_neg (fun h => he h.1)]
      refine wX ?_
      refine LdN.one (a := some ⟨rb, 0, none⟩) (q := 3) (.slice p.sa (st1).ss.length p.sc) rfl (fun w hw => hw.1) rfl ?_
      refine wX ?_
      refine Nd.mk ⟨Nat.le_refl 1, rfl, rfl⟩ ?_
      (conv => whnf)
      refine AppN.grow 4 (strC (st1).ss) [.string (bs t)] rfl rfl ⟨Nat.le_refl 1, ⟨by show ((st1).ss.length + 1) * 16 ≤ _; omega, by omega⟩, by decide⟩ fun b' cap' h1 h2 => ?_
      refine wX ?_
      refine EffW.appTo (i := 0) (q := 3) (ys := [_]) (rdC { (st1) with ss := (st1).ss ++ [t] } { p with sa := some ⟨b', 0, none⟩, sc := cap' }) 5 rfl rfl rfl rfl rfl rfl rfl (Nat.le_of_ble_eq_true rfl) (by simp [rdC]) rfl ?_
      refine wX ?_
      refine ⟨(some ⟨b', 0, none⟩, cap'), (fun h => by cases h), rfl, wkE_refl _, wkE_refl _, wkE_refl _, wkE_refl _, ?_, trivial⟩
      rw [show strC (st1).ss ++ [.string (bs t)] = strC ((st1).ss ++ [t]) by simp [strC], show (st1).ss.length + 1 = ((st1).ss ++ [t]).length by simp]
      exact wkE_refl _
  by_cases h59 : x = 59
  · subst h59
    rw [if_neg (by decide), if_pos rfl]
    refine wX ?_
    refine callG (hnum) [0, 1, 2, 3, 4] rfl ⟨rfl, rfl, rfl, rfl, rfl, trivial⟩ rfl fun _ _ => ?_
    refine wX ?_
    refine LdN.one (a := some ⟨rb, 0, none⟩) (q := 4) (.int .i64 st2.e) rfl (fun w hw => hw.1) rfl ?_
    refine wX ?_
    by_cases he : st2.e = 0
    · rw [show (st2.e == 0) = true by rw [he]; rfl]
      refine wX ?_
      refine LdN.one (a := some ⟨rb, 0, none⟩) (q := 3) (.slice p.sa st2.ss.length p.sc) rfl (fun w hw => hw.1) rfl ?_
      refine wX ?_
      refine brd_dec (fun hlt => ?_) (fun hlt => ?_)
      · have hn : n < st2.ss.length := by omega
        rw [if_pos ⟨he, hn⟩]
        have hsa : p.sa.isSome = true := by
          cases h : p.sa with
          | none =>
            have := ok.sa h
            rw [kn.1, this] at hn
            exact absurd hn (Nat.not_lt_zero _)
          | some b => rfl
        have hget : st2.ss[n]? = some (st2.ss.getD n []) := by rw [List.getD_eq_getElem?_getD, List.getElem?_eq_getElem hn]; rfl
        refine wX ?_
        refine LdN.one (a := some ⟨rb, 0, none⟩) (q := 3) (.slice p.sa st2.ss.length p.sc) rfl (fun w hw => hw.1) rfl ?_
        refine wX ?_
        refine Nd.mk ⟨hsa, by omega, by omega⟩ ?_
        refine wX ?_
        refine LdN.one (.string (bs (st2.ss.getD n []))) rfl (fun w hw => hw.2.2.2.2.1) (by show (strC st2.ss)[Int.toNat _ * 1]? = _; rw [Int.toNat_natCast, Nat.mul_one]; exact strC_get hget) ?_
        refine wX ?_
        exact ⟨(p.sa, p.sc), (fun h => by show st2.ss = []; rw [kn.1]; exact ok.sa h), rfl, wkH_refl _⟩
      · rw [if_neg (fun h => hlt (by omega))]
        refine wX ?_
        refine callG (fail_m rb st2 p 4) [0, 1, 2, 3, 4] rfl ⟨rfl, rfl, rfl, rfl, rfl, trivial⟩ rfl fun _ _ => ?_
        refine wX ?_
        exact ⟨(p.sa, p.sc), (fun h => by rw [(fail_ss _ _).1, kn.1]; exact ok.sa h), rfl, wkH_refl _⟩
    · rw [show (st2.e == 0) = false by simpa using he, if_neg (fun h => he h.1)]
      refine wX ?_
      refine callG (fail_m rb st2 p 4) [0, 1, 2, 3, 4] rfl ⟨rfl, rfl, rfl, rfl, rfl, trivial⟩ rfl fun _ _ => ?_
      refine wX ?_
      exact ⟨(p.sa, p.sc), (fun h => by rw [(fail_ss _ _).1, kn.1]; exact ok.sa h), rfl, wkH_refl _⟩
  · rw [if_neg h58, if_neg h59]
    have e1 : ((x.toNat : Int) == 58) = false := by
      rw [beq_eq_false_iff_ne]
      intro h5
      exact h58 (UInt8.toNat_inj.1 (by have : x.toNat = 58 := by omega
                                       rw [this]; rfl))
    have e2 : ((x.toNat : Int) == 59) = false := by
      rw [beq_eq_false_iff_ne]
      intro h5
      exact h59 (UInt8.toNat_inj.1 (by have : x.toNat = 59 := by omega
                                       rw [this]; rfl))
    refine wX ?_
    rw [e1]
    refine wX ?_
    rw [e2]
    refine wX ?_
    refine callG (fail_m rb st p 4) [0, 1, 2, 3, 4] rfl ⟨rfl, rfl, rfl, rfl, rfl, trivial⟩ rfl fun _ _ => ?_
    refine wX ?_
    exact ⟨(p.sa, p.sc), (fun h => by rw [(fail_ss _ _).1]; exact ok.sa h), rfl, wkH_refl _⟩
end Go.Proofs.YtgogonnnojcioaaGreatDoor
namespace Go.Proofs.YtgogonnnojcioaaGreatDoor
open Go.AX Go.RowKit Go.Core Go.Marshal
set_option maxRecDepth 20000
def CellC (n : Nat) : Prop := ∀ (rb : Nat) (st : PS) (p : RdP), RdOk st p → Bd st → (st.s.length < n ∨ st.e ≠ 0) → SpecH Tryz.prog 64 [.c (.v (.pointer (some ⟨rb, 0, none⟩)))] (rdE rb st p) (RetG (ι := RdP) (fun p' => RdOk (cellM n st).2 p') (fun _ => .int .i64 (cellM n st).1) fun p' => rdE rb (cellM n st).2 p')
def ownI (l : List Int) (a : Option Addr) (cap : Nat) : Ent := .app 3 1 (iC l) a l.length cap
structure ItP where
 i : Nat
 l : List Int
 st : PS
 p : RdP
 a : Option Addr
 cap : Nat
theorem items_rd (n : Nat) (hc : CellC n) (rb : Nat) (st : PS) (p : RdP) (ok : RdOk st p) (bd : Bd st) (hn : st.s.length < n ∨ st.e ≠ 0) (m : Nat) (hm2 : m ≤ 4000000000000000) : SpecH Tryz.prog 106 [.c (.v (.pointer (some ⟨rb, 0, none⟩))), .c (.v (.int .i64 (m : Int)))] (rdE rb st p ++ [.app 3 1 [] none 0 0]) (RetG (ι := RdP × Option Addr × Nat) (fun i => RdOk (itemsM (cellM n) m [] st).2 i.1 ∧ (i.2.1 = none → (itemsM (cellM n) m [] st).1 = []) ∧ (itemsM (cellM n) m [] st).1.length ≤ i.2.2) (fun i => .slice i.2.1 (itemsM (cellM n) m [] st).1.length i.2.2) fun i => rdE rb (itemsM (cellM n) m [] st).2 i.1 ++ [ownI (itemsM (cellM n) m [] st).1 i.2.1 i.2.2]) := by
 refine ownC hm Tryz.func106 (by kernel_rfl) rfl rfl (fun _ _ => okHB_eq rfl) (fun _ _ => Nat.le_of_ble_eq_true rfl) ?_
 have hI : ∀ k l st', itemsM (cellM n) (k + 1) l st' = if st'.e = 0 then itemsM (cellM n) k (l ++ [(cellM n st').1]) (cellM n st').2 else (l, st') := fun k l st' => by conv => lhs; unfold itemsM
 obtain ⟨R, hR⟩ : ∃ R, itemsM (cellM n) m [] st = R := ⟨_, rfl⟩
 rw [hR]
 have htk := cell_takes n
 refine wX ?_
 refine LoopN.intro ItP (fun ⟨i, l, st, p, a, cap⟩ => itemsM (cellM n) (m - i) l st = R ∧ i ≤ m ∧ RdOk st p ∧ Bd st ∧ (st.s.length < n ∨ st.e ≠ 0) ∧ l.length + st.s.length + liv st ≤ 30001 ∧ (a = none → l = []) ∧ l.length ≤ cap)
  (fun ⟨i, l, _, _, a, cap⟩ => mkS Tryz.f106.ntmps 0 [(0, .c (.v (.pointer (some ⟨rb, 0, none⟩)))), (1, .c (.v (.int .i64 (m : Int)))), (4, .c (.v (.slice none 0 0))), (5, .c (.v (.slice a l.length cap))), (6, .c (.v (.int .i64 (i : Int))))])
  (fun ⟨_, l, st, p, a, cap⟩ => rdE rb st p ++ [ownI l a cap]) (fun ⟨_, _, st, _, _, _⟩ => if st.e = 0 then st.s.length + 1 else 0) [] rfl
  (fun _ => rfl) (fun _ => rfl) (fun _ _ => okHB_eq rfl) ⟨⟨0, [], st, p, none, 0⟩, ⟨hR, Nat.zero_le _, ok, bd, hn, ?_, fun _ => rfl, Nat.le_refl _⟩, ?_, wkH_refl _⟩ ?_
 ·have := bd.pot
  unfold liv
  show 0 + st.s.length + _ ≤ _
  split <;> omega
 ·exact wKK
 rintro ⟨i, l, st1, p1, a, cap⟩ ⟨h1, h2, h3, h4, h5, h6, h7, h8⟩
 refine wX ?_
 by_cases hi : i < m
 ·rw [show decide ((i : Int) < (m : Int)) = true by simpa using hi]
  obtain ⟨k, hk⟩ : ∃ k, m - i = k + 1 := ⟨m - i - 1, by omega⟩
  rw [hk, hI] at h1
  refine wX ?_
  refine LdN.one (a := some ⟨rb, 0, none⟩) (q := 4) (.int .i64 st1.e) rfl (fun w hw => hw.1) rfl ?_
  refine wX ?_
  by_cases he : st1.e = 0
  ·rw [show (st1.e == 0) = true by rw [he]; rfl]
   rw [if_pos he] at h1
   refine wX ?_
   refine callG (hc rb st1 p1 h3 h4 h5) [0, 1, 2, 3, 4] rfl ⟨rfl, rfl, rfl, rfl, rfl, trivial⟩ rfl fun p2 hp2 => ?_
   have hle := htk.le st1
   have hlt := htk.lt st1
   have hll : l.length ≤ 30001 := by omega
   generalize cellM n st1 = r at h1 hp2 hle hlt ⊢
   obtain ⟨z, st2⟩ := r
   simp only at h1 hp2 hle hlt
   refine wX ?_
   refine Nd.mk ⟨Nat.le_refl 1, rfl, rfl⟩ ?_
   (conv => whnf)
   refine AppN.grow 5 (iC l) [.int .i64 z] rfl rfl ⟨Nat.le_refl 1, ⟨by show (l.length + 1) * 8 ≤ _; omega, by omega⟩, by decide⟩ fun b' cap' g1 g2 => ?_
   refine wX ?_
   have e1 : iC l ++ [.int .i64 z] = iC (l ++ [z]) := by simp [iC]
   have e2 : l.length + 1 = (l ++ [z]).length := by simp
   rw [e1, e2]
   refine ⟨⟨i + 1, l ++ [z], st2, p2, some ⟨b', 0, none⟩, cap'⟩, ⟨by rw [← h1, show m - (i + 1) = k by omega], by show i + 1 ≤ m; omega, hp2, h4.le hle, ?_, ?_, (fun h => by cases h), by rw [← e2]; exact g1⟩, ?_, ?_, ?_⟩
   ·show st2.s.length < n ∨ _
    have := hle.s
    rcases h5 with h | h
    ·left; omega
    ·exact absurd he h
   ·show (l ++ [z]).length + st2.s.length + liv st2 ≤ _
    rw [List.length_append, List.length_singleton]
    have hs := hle.s
    unfold liv at h6 ⊢
    rw [if_pos he] at h6
    split
    ·rename_i h9
     have := hlt h9
     omega
    ·omega
   ·show (if st2.e = 0 then st2.s.length + 1 else 0) < if st1.e = 0 then st1.s.length + 1 else 0
    rw [if_pos he]
    split
    ·rename_i h9
     have := hlt h9
     omega
    ·omega
   ·exact wKK
   ·exact ⟨wkE_refl _, wkE_refl _, wkE_refl _, wkE_refl _, wkE_refl _, wkE_refl _, wkH_nil _⟩
  ·rw [show (st1.e == 0) = false by simpa using he]
   rw [if_neg he] at h1
   subst h1
   refine wX ?_
   exact ⟨(p1, a, cap), ⟨h3, h7, h8⟩, rfl, wkH_refl _⟩
 ·rw [show decide ((i : Int) < (m : Int)) = false by simpa using hi]
  rw [show m - i = 0 by omega] at h1
  have h1 : (l, st1) = R := h1
  subst h1
  refine wX ?_
  exact ⟨(p1, a, cap), ⟨h3, h7, h8⟩, rfl, wkH_refl _⟩
end Go.Proofs.YtgogonnnojcioaaGreatDoor
namespace Go.Marshal
open Go.Core
theorem text_len (most : Nat) (st : PS) : (textM most st).1.length ≤ st.s.length := by
 have h := (num_le maxN st).s
 unfold textM
 split
 ·simp
 split
 ·simp
 split
 ·simp
 ·rw [List.length_take]
  omega
theorem next_keep (st : PS) : (nextM st).2.ss = st.ss ∧ (nextM st).2.g = st.g ∧ (nextM st).2.cells = st.cells := by
 unfold nextM
 split
 ·exact ⟨rfl, rfl, rfl⟩
 split <;> exact ⟨rfl, rfl, rfl⟩
theorem symM_len (x : UInt8) (st : PS) (hs : st.s.length ≤ 30000) (hw : ∀ t ∈ st.ss, t.length ≤ 30000) : (symM x st).1.length ≤ 30000 := by
 unfold symM
 split
 ·exact Nat.le_trans (text_len 40 st) hs
 split
 ·split
  ·rename_i h
   have hk : (numM maxN st).2.ss = st.ss := by
    unfold numM
    split
    ·rfl
    split <;> rfl
   rw [hk] at h ⊢
   rw [List.getD_eq_getElem?_getD, List.getElem?_eq_getElem h.2]
   exact hw _ (List.getElem_mem _)
  ·exact Nat.zero_le _
 ·exact Nat.zero_le _
theorem valid_one {c : Cell} (hk : c.kind = 8) : ValidP [c] ↔ (plainS c && rangeB 1 c) = true := by
 unfold ValidP
 constructor
 ·intro ⟨_, h, _⟩
  have := h c (by simp)
  rw [cell_eq]
  exact this
 ·intro h
  refine ⟨by simp, fun d hd => ?_, fun d hd h7 => ?_⟩
  ·obtain rfl := List.mem_singleton.1 hd
   rw [cell_eq] at h
   exact h
  ·obtain rfl := List.mem_singleton.1 hd
   rw [hk] at h7
   exact absurd h7 (by decide)
theorem valid_class (t : B) : ValidP [⟨8, 0, t, [], []⟩] ↔ Go.Scan.icB t = true := by
 rw [valid_one rfl]
 unfold plainS rangeB
 simp [maxI]
theorem valid_name (t : B) : ValidP [⟨8, 0, [65], [t], [0]⟩] ↔ Go.Scan.iiB t = true := by
 rw [valid_one rfl]
 unfold plainS rangeB
 have h : Go.Scan.icB [65] = true := by decide +kernel
 simp [maxI, h]
end Go.Marshal
namespace Go.Proofs.YtgogonnnojcioaaGreatDoor
open Go.AX Go.RowKit Go.Core Go.Marshal
set_option maxRecDepth 20000
theorem RdOk.same {st st' : PS} {p : RdP} (ok : RdOk st p) (h : st'.ss = st.ss ∧ st'.g = st.g ∧ st'.cells = st.cells) : RdOk st' p :=
 ⟨by rw [h.2.1]; exact ok.g, ok.cell, ok.ga, by rw [h.2.2]; exact ok.ca, by rw [h.1]; exact ok.sa, by rw [h.1]; exact ok.sw, ok.gx⟩
theorem sym_keep (x : UInt8) (st : PS) : (symM x st).2.g = st.g ∧ (symM x st).2.cells = st.cells := by
 have kt := text_keep 40 st
 have kn := num_keep maxN st
 unfold symM
 split
 ·simp only
  split
  ·have k4 := fail_ss (textM 40 st).2 4
   exact ⟨by rw [k4.2.1, kt.2.1], by rw [k4.2.2, kt.2.2]⟩
  ·exact kt.2
 split
 ·split
  ·exact kn.2
  ·have k4 := fail_ss (numM maxN st).2 4
   exact ⟨by rw [k4.2.1, kn.2.1], by rw [k4.2.2, kn.2.2]⟩
 ·exact (fail_ss st 4).2
theorem sym_sw (x : UInt8) (st : PS) (hs : st.s.length ≤ 30000) (hw : ∀ t ∈ st.ss, t.length ≤ 30000) : ∀ t ∈ (symM x st).2.ss, t.length ≤ 30000 := by
 have kt := text_keep 40 st
 have kn := num_keep maxN st
 have tl := text_len 40 st
 unfold symM
 split
 ·intro t ht
  simp only at ht
  rw [kt.1] at ht
  rcases List.mem_append.1 ht with h | h
  ·exact hw t h
  ·rw [List.mem_singleton.1 h]; omega
 split
 ·split
  ·rw [kn.1]; exact hw
  ·rw [(fail_ss _ _).1, kn.1]; exact hw
 ·rw [(fail_ss _ _).1]; exact hw
theorem RdOk.sym {st : PS} {p : RdP} (ok : RdOk st p) (hs : st.s.length ≤ 30000) (x : UInt8) {i : Option Addr × Nat} (hi : i.1 = none → (symM x st).2.ss = []) : RdOk (symM x st).2 { p with sa := i.1, sc := i.2 } :=
 ⟨by rw [(sym_keep x st).1]; exact ok.g, ok.cell, ok.ga, by rw [(sym_keep x st).2]; exact ok.ca, hi, sym_sw x st hs ok.sw, ok.gx⟩
end Go.Proofs.YtgogonnnojcioaaGreatDoor
namespace Go.Proofs.YtgogonnnojcioaaGreatDoor
open Go.AX Go.RowKit Go.Core Go.Marshal
set_option maxRecDepth 20000
theorem Left.same {S : List UInt8} {a b : PS} (h : Left S a) (e : b.s = a.s) : Left S b := by unfold Left; rw [e]; exact h
theorem rdQ_left : ∀ (s : List UInt8) (i : Nat), ∃ u, s = u ++ rdQ i s
 | [], i => ⟨[], rfl⟩
 | x :: s, i => by
  unfold rdQ
  split
  ·exact ⟨[x], rfl⟩
  split
  ·exact ⟨[x], rfl⟩
  ·obtain ⟨u, hu⟩ := rdQ_left s (i + 1)
   exact ⟨x :: u, by rw [List.cons_append, ← hu]⟩
theorem Left.step {S u : List UInt8} {a b : PS} (h : Left S a) (e : a.s = u ++ b.s) : Left S b := by
 obtain ⟨v, hv⟩ := h
 exact ⟨v ++ u, by rw [hv, e, List.append_assoc]⟩
theorem Left.num {S : List UInt8} {st : PS} (h : Left S st) (most : Nat) : Left S (numM most st).2 := by
 obtain ⟨u, hu⟩ := rdQ_left st.s 0
 unfold numM
 split
 ·exact h
 split
 ·exact h.step (u := u) hu
 ·exact h.step (u := u) hu
theorem Left.next {S : List UInt8} {st : PS} (h : Left S st) : Left S (nextM st).2 := by
 unfold nextM
 split
 ·exact h
 split
 ·rename_i hs
  exact h.same rfl
 ·rename_i x s hs
  exact h.step (u := [x]) hs
theorem Left.text {S : List UInt8} {st : PS} (h : Left S st) (most : Nat) : Left S (textM most st).2 := by
 have hn := h.num maxN
 unfold textM
 split
 ·exact hn
 split
 ·exact hn.same rfl
 split
 ·exact hn.same rfl
 ·exact hn.step (u := (numM maxN st).2.s.take (numM maxN st).1) (List.take_append_drop _ _).symm
end Go.Proofs.YtgogonnnojcioaaGreatDoor
namespace Go.Marshal
open Go.Core
def putI (k : Nat) (i : Int) (st : St) : St := { st with g := st.g.set k { st.g.getD k nilC with items := (st.g.getD k nilC).items ++ [i] } }
def putA (k : Nat) (t : B) (i : Int) (st : St) : St := { st with g := st.g.set k { st.g.getD k nilC with names := (st.g.getD k nilC).names ++ [t], items := (st.g.getD k nilC).items ++ [i] } }
def itemsD (f : St → Except Int (Int × St)) (k : Nat) : Nat → St → Except Int (Unit × St)
 | 0, st => .ok ((), st)
 | n + 1, st => bnd (f st) fun i st => itemsD f k n (putI k i st)
def attrsD (f : St → Except Int (Int × St)) (k : Nat) : Nat → St → Except Int (Unit × St)
 | 0, st => .ok ((), st)
 | n + 1, st => bnd (nextS st) fun x st => bnd (symS x st) fun t st =>
  if Go.Scan.iiB t = true ∧ t ∉ (st.g.getD k nilC).names then bnd (f st) fun i st => attrsD f k n (putA k t i st) else .error 4
theorem set_app {l t : List Cell} {k : Nat} (c : Cell) (h : k < l.length) : (l ++ t).set k c = l.set k c ++ t := by
 rw [List.set_append_left _ _ h]
theorem FrS.at {α : Type} {f : St → Except Int (α × St)} (hf : FrS f) (k : Nat) (c : Cell) (st : St) (h : k < st.g.length) : f (gS st (st.g.set k c)) = match f st with
  | .ok (a, st') => .ok (a, gS st' (st'.g.set k c))
  | .error e => .error e := by
 cases hr : f st with
 | error e => exact hf.err st e hr _ (by simp)
 | ok p =>
  obtain ⟨a, st'⟩ := p
  obtain ⟨tl, e1, k1⟩ := hf.ok st a st' hr
  rw [k1 _ (by simp)]
  simp only
  rw [e1, set_app c h]
structure Free {α : Type} (f : St → Except Int (α × St)) : Prop where
 eq : ∀ st g2, f (gS st g2) = match f st with
  | .ok (a, st') => .ok (a, gS st' g2)
  | .error e => .error e
 keep : ∀ st a st', f st = .ok (a, st') → st'.g = st.g
theorem Free.num (most : Nat) : Free (numS most) := by
 refine ⟨fun st g2 => ?_, fun st a st' h => ?_⟩
 ·unfold numS gS
  cases rd most st.s <;> rfl
 ·unfold numS at h
  split at h
  ·cases h
  ·cases h; rfl
theorem Free.text (most : Nat) : Free (textS most) := by
 refine ⟨fun st g2 => ?_, fun st a st' h => ?_⟩
 ·unfold textS gS
  cases rdT most st.s <;> rfl
 ·unfold textS at h
  split at h
  ·cases h
  ·cases h; rfl
theorem Free.next : Free nextS := by
 refine ⟨fun st g2 => ?_, fun st a st' h => ?_⟩
 ·unfold nextS gS
  cases st.s <;> rfl
 ·unfold nextS at h
  split at h
  ·cases h
  ·cases h; rfl
end Go.Marshal
