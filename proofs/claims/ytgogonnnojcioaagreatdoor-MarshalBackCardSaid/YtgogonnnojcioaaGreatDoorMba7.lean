/-
  Lemmas (Z1 U1 Q1 Q2 O1 O2 K1 Q3 Q4 Q5 W3 W4 W5 U2 U3 W6 U4 Z2 Z3 Z4 Y1 Y2 Z5 Ax58 MC3 MP3 MP4 MP5 MP6 MP7 MP8 MC4 MP9).
-/
import Derived.Test.YtgogonnnojcioaaGreatDoorChecked
import Derived.Tactics
import Derived.Tactics2
import Derived.Defers
import Derived.Laws.Pointers
import Derived.Laws.LoneSync
import Derived.RegionTactic
import Derived.RegionCalls
import Derived.ChangeAlike
import Derived.Lib.ItoaLen
import Derived.Lib.AppendIntMem
import Derived.Test.YtgogonnnojcioaaGreatDoorMba6
set_option linter.unusedVariables false
set_option linter.unusedSimpArgs false
namespace Go.Core
def seenI (L : List Int) : List (Int × Value) := L.map fun i => (i, .bool true)
theorem seenI_get (L : List Int) (i : Int) : ((seenI L).lookup i).getD (.bool false) = .bool (decide (i ∈ L)) := by
 unfold seenI
 induction L with
 | nil => rfl
 | cons q R ih =>
  rw [List.map_cons, List.lookup_cons]
  by_cases h : i = q
  ·subst h
   rw [beq_self_eq_true]
   simp
  ·rw [show (i == q) = false by simp [h], ih]
   simp [h]
theorem seenI_put {L : List Int} {i : Int} (h : ¬ i ∈ L) : Go.AX.upd i (.bool true) (seenI L) = seenI (L ++ [i]) := by
 unfold seenI
 induction L with
 | nil => rfl
 | cons q R ih =>
  simp only [List.mem_cons, not_or] at h
  rw [List.map_cons, Go.AX.upd, if_neg h.1, ih h.2]
  rfl
theorem foldl_take {β : Type} {f : β → Int → β} {l : List Int} {k : Nat} {x : Int} {b : β} (h : l[k]? = some x) : (l.take (k + 1)).foldl f b = f ((l.take k).foldl f b) x := by
 rw [List.take_add_one, h, List.foldl_append]
 rfl
theorem reach_sub (g : List Cell) : ∀ (n : Nat) (L : List Int) (i x : Int), x ∈ L → x ∈ reachF g n L i
 | 0, _, _, _, h => h
 | n + 1, L, i, x, h => by
  have hf : ∀ (ks L : List Int), x ∈ L → x ∈ ks.foldl (reachF g n) L := by
   intro ks
   induction ks with
   | nil => exact fun _ h => h
   | cons k ks ih => exact fun L h => ih _ (reach_sub g n L k x h)
  unfold reachF
  split
  ·exact h
  ·exact hf _ _ (by simp [h])
theorem fold_sub (g : List Cell) (n : Nat) (x : Int) : ∀ (ks L : List Int), x ∈ L → x ∈ ks.foldl (reachF g n) L
 | [], _, h => h
 | k :: ks, L, h => fold_sub g n x ks _ (reach_sub g n L k x h)
theorem fold_len {g : List Cell} {f : List Int → Int → List Int} (hf : ∀ L k, InI g k → (f L k).length + freeN g (f L k) ≤ L.length + freeN g L) : ∀ (ks L : List Int), (∀ k ∈ ks, InI g k) → (ks.foldl f L).length + freeN g (ks.foldl f L) ≤ L.length + freeN g L
 | [], _, _ => Nat.le_refl _
 | k :: ks, L, h => Nat.le_trans (fold_len hf ks (f L k) fun x hx => h x (by simp [hx])) (hf L k (h k (by simp)))
theorem reach_len {g : List Cell} (hg : InG g) : ∀ (n : Nat) (L : List Int) (i : Int), InI g i → (reachF g n L i).length + freeN g (reachF g n L i) ≤ L.length + freeN g L
 | 0, _, _, _ => Nat.le_refl _
 | n + 1, L, i, hi => by
  unfold reachF
  split
  ·exact Nat.le_refl _
  ·rename_i hm
   have h1 := fold_len (g := g) (fun L k hk => reach_len hg n L k hk) (outs g i) (L ++ [i]) (fun k hk => outs_in hg hi hk)
   have h2 := free_lt hi hm (t := L ++ [i]) (fun x hx => by simp [hx]) (by simp)
   simp only [List.length_append, List.length_cons, List.length_nil] at h1
   omega
end Go.Core
namespace Go.Proofs.YtgogonnnojcioaaGreatDoor
open Go.AX Go.RowKit Go.Core
set_option maxRecDepth 20000
theorem intT : KeyT Tryz.prog 3 (fun k : Int => .int .i64 k) := intKeyT (by kernel_rfl)
def rcF (a : Option Addr) (ca : Nat) (l : List CellP) (sb ob gb fb mb : Nat) (w : World) : Prop :=
 GrF a l w ∧ SlAt (some ⟨sb, 0, none⟩) 1 [.map (some mb)] w ∧ SlAt (some ⟨gb, 0, none⟩) 1 [.slice a l.length ca] w ∧ SlAt (some ⟨fb, 0, none⟩) 1 [.func (.func 81) #[] #[.pointer (some ⟨sb, 0, none⟩), .pointer (some ⟨ob, 0, none⟩), .pointer (some ⟨gb, 0, none⟩), .pointer (some ⟨fb, 0, none⟩)]] w
def rcA (i : Int) (sb ob gb fb : Nat) : List AV := pvs [.int .i64 i, .pointer (some ⟨sb, 0, none⟩), .pointer (some ⟨ob, 0, none⟩), .pointer (some ⟨gb, 0, none⟩), .pointer (some ⟨fb, 0, none⟩)]
structure WSt where
 es : Array MapEntry
 c : Nat
 o : BSt
def WSt.ok (L : List Int) (st : WSt) : Prop := KeysAre (fun k : Int => .int .i64 k) st.es.toList (seenI L) ∧ st.o.ok L.length
def rcH (F : World → Prop) (mb ob : Nat) (L : List Int) (st : WSt) : List Ent := [.mp mb st.es st.c, .app 22 1 [.slice (at0 st.o.ob) L.length st.o.cap] (some ⟨ob, 0, none⟩) 1 1, .app 3 1 (iC L) (at0 st.o.ob) L.length st.o.cap, .fact F]
theorem rcH_ok (F : World → Prop) (mb ob : Nat) (L : List Int) (st : WSt) : okH (rcH F mb ob L st).length (rcH F mb ob L st) := okHB_eq rfl
set_option maxHeartbeats 4000000 in
theorem rwalk_c (a : Option Addr) (ca : Nat) (l : List CellP) (ha : a = none → l = []) (hs : Small l) (hok : ∀ p ∈ l, CellOk p) (hg : InG (l.map (·.c))) (sb ob gb fb mb : Nat) : ∀ (n : Nat) (L : List Int) (st : WSt) (i : Int), InI (l.map (·.c)) i → freeN (l.map (·.c)) L < n → L.length + freeN (l.map (·.c)) L ≤ 3000 → st.ok L →
  SpecH Tryz.prog 81 (rcA i sb ob gb fb) (rcH (rcF a ca l sb ob gb fb mb) mb ob L st) (RetG (ι := WSt) (fun st => st.ok (reachF (l.map (·.c)) n L i)) (fun _ => .tuple #[]) (fun st => rcH (rcF a ca l sb ob gb fb mb) mb ob (reachF (l.map (·.c)) n L i) st)) := by
 intro n
 induction n with
 | zero => intro L st i _ h; omega
 | succ n ih =>
  rintro L ⟨es, c, o⟩ i0 hi hn hlen ⟨hk, ho⟩
  simp only at hk ho
  obtain ⟨i, rfl⟩ : ∃ i : Nat, i0 = (i : Int) := ⟨i0.toNat, by have := hi.1; omega⟩
  have hil : i < l.length := by have := hi.2; simp only [List.length_map] at this; omega
  obtain ⟨p, hp⟩ : ∃ x, l[i]? = some x := ⟨_, List.getElem?_eq_getElem hil⟩
  have hpm := List.mem_of_getElem? hp
  have hpo := hok p hpm
  have hps := hs.2 p hpm
  have hl := hs.1
  have hsa : a.isSome = true := by
   cases a with
   | none => rw [ha rfl] at hil; exact absurd hil (Nat.not_lt_zero _)
   | some b => rfl
  refine ownC hm Tryz.func81 (by kernel_rfl) rfl rfl (fun _ _ => rcH_ok _ _ _ _ _) (fun _ _ => Nat.le_refl _) ?_
  refine wX ?_
  refine LdN.one (a := some ⟨sb, 0, none⟩) (q := 0) (.map (some mb)) rfl (fun w hw => hw.2.2.2.1.2.1) rfl ?_
  refine wX ?_
  refine ReadW.keyMap (et := 4) (p := (i : Int)) (seenI L) rfl (by kernel_rfl) intT rfl rfl rfl rfl (fun w hw => hw.1) hk ?_
  rw [seenI_get]
  refine wX ?_
  refine brd_dec (fun hmem => ?_) (fun hmem => ?_)
  ·have hsf : reachF (l.map (·.c)) (n + 1) L (i : Int) = L := by unfold reachF; rw [if_pos hmem]
   rw [hsf]
   refine wX ?_
   exact ⟨⟨es, c, o⟩, ⟨hk, ho⟩, rfl, wkH_refl _⟩
  have hsf : reachF (l.map (·.c)) (n + 1) L (i : Int) = (outs (l.map (·.c)) (i : Int)).foldl (reachF (l.map (·.c)) n) (L ++ [(i : Int)]) := by
   conv => lhs; unfold reachF
   rw [if_neg hmem]
  rw [hsf, show outs (l.map (·.c)) (i : Int) = p.c.items by unfold outs; rw [at_map hp]]
  have hlt := free_lt hi hmem (t := L ++ [(i : Int)]) (fun x hx => by simp [hx]) (by simp)
  refine wX ?_
  refine LdN.one (a := some ⟨sb, 0, none⟩) (q := 0) (.map (some mb)) rfl (fun w hw => hw.2.2.2.1.2.1) rfl ?_
  refine wX ?_
  refine EffW.setMap (et := 4) (p := (i : Int)) 0 (seenI L) rfl (by kernel_rfl) intT rfl rfl rfl rfl hk fun es2 c2 hk2 => ?_
  rw [seenI_put hmem] at hk2
  obtain ⟨ob0, ocap⟩ := o
  refine wX ?_
  refine LdN.one (a := some ⟨ob, 0, none⟩) (q := 0) (.slice (at0 ob0) L.length ocap) rfl (fun w hw => hw.2.1) rfl ?_
  refine wX ?_
  try refine Nd.mk ⟨Nat.le_refl 1, rfl, rfl⟩ ?_
  (conv => whnf)
  refine AppN.grow 2 (iC L) [.int .i64 (i : Int)] rfl rfl ⟨Nat.le_refl 1, ⟨by show (L.length + 1) * 8 ≤ _; omega, by omega⟩, Nat.one_ne_zero⟩ fun wb wc hwc _ => ?_
  have hcl : iC L ++ [.int .i64 (i : Int)] = iC (L ++ [(i : Int)]) := by simp [iC]
  have hll : L.length + 1 = (L ++ [(i : Int)]).length := by simp
  have hlen2 : (L ++ [(i : Int)]).length + freeN (l.map (·.c)) (L ++ [(i : Int)]) ≤ 3000 := by rw [← hll]; omega
  rw [hcl, hll]
  have hwc2 : (L ++ [(i : Int)]).length ≤ wc := by rw [← hll]; exact hwc
  generalize L ++ [(i : Int)] = L2 at *
  refine wX ?_
  refine EffW.appTo (i := 1) (q := 0) (ys := [.slice (some ⟨wb, 0, none⟩) L2.length wc]) [.slice (some ⟨wb, 0, none⟩) L2.length wc] 1 rfl rfl rfl rfl rfl rfl rfl (Nat.le_of_ble_eq_true rfl) rfl rfl ?_
  refine wX ?_
  refine LdN.one (a := some ⟨gb, 0, none⟩) (q := 0) (.slice a l.length ca) rfl (fun w hw => hw.2.2.2.1.2.2.1) rfl ?_
  refine wX ?_
  refine Nd.mk ⟨hsa, by omega, by omega⟩ ?_
  refine wX ?_
  refine LdN.fld (.slice p.ia p.c.items.length p.ic) rfl (fun w hw => hw.2.2.2.1.1.1) (by rw [Int.toNat_natCast]; exact grC_get l i 4 (by decide) hp) ?_
  refine wX ?_
  have hitem : ∀ x ∈ p.c.items, InI (l.map (·.c)) x := fun x hx => outs_in hg hi (by unfold outs; rw [at_map hp]; exact hx)
  obtain ⟨f, hf⟩ : ∃ f, f = reachF (l.map (·.c)) n := ⟨_, rfl⟩
  have hfl : ∀ k, ((p.c.items.take k).foldl f L2).length + freeN (l.map (·.c)) ((p.c.items.take k).foldl f L2) ≤ 3000 := fun k => by
   rw [hf]
   have := fold_len (g := l.map (·.c)) (fun L k hk => reach_len hg n L k hk) (p.c.items.take k) L2 (fun x hx => hitem x (List.mem_of_mem_take hx))
   omega
  have hff : ∀ k, freeN (l.map (·.c)) ((p.c.items.take k).foldl f L2) < n := fun k => by
   rw [hf]
   have := free_mono (g := l.map (·.c)) (s := L2) (t := (p.c.items.take k).foldl (reachF (l.map (·.c)) n) L2) (fun x hx => fold_sub _ n x _ _ hx)
   omega
  rw [← hf] at ih ⊢
  refine LoopN.intro (Nat × WSt) (fun ⟨k, st⟩ => k ≤ p.c.items.length ∧ st.ok ((p.c.items.take k).foldl f L2))
   (fun ⟨k, st⟩ => mkS Tryz.f81.ntmps 0 [(4, .c (.v (.pointer (some ⟨fb, 0, none⟩)))), (21, .c (.v (.slice p.ia p.c.items.length p.ic))), (22, .c (.v (.int .i64 (p.c.items.length : Int)))), (23, .c (.v (.int .i64 (k : Int))))])
   (fun ⟨k, st⟩ => rcH (rcF a ca l sb ob gb fb mb) mb ob ((p.c.items.take k).foldl f L2) st ++ [.dead]) (fun ⟨k, _⟩ => p.c.items.length - k) [] rfl (fun ⟨_, _⟩ => rfl) (fun ⟨_, _⟩ => rfl) (fun ⟨_, _⟩ _ => okHB_eq rfl) ?_ ?_
  ·refine ⟨(0, ⟨es2, c2, ⟨some wb, wc⟩⟩), ⟨Nat.zero_le _, hk2, (fun h => by cases h), hwc2, fun h => by have : wc = 0 := h; omega⟩, ?_, wkE_refl _, wkE_refl _, wkE_refl _, wkE_refl _, trivial, trivial⟩
   exact wKK
  rintro ⟨k, st⟩ ⟨hk3, hst⟩
  refine wX ?_
  refine brd_dec (fun h1 => ?_) (fun h1 => ?_)
  ·obtain ⟨x, hx⟩ : ∃ z, p.c.items[k]? = some z := ⟨_, List.getElem?_eq_getElem (by omega)⟩
   have hxa : p.ia.isSome = true := by
    cases hq : p.ia with
    | none => rw [hpo.ia hq] at hx; cases hx
    | some b => rfl
   refine wX ?_
   refine Nd.mk ⟨hxa, by omega, by omega⟩ ?_
   refine wX ?_
   refine LdN.one (.int .i64 x) rfl (fun w hw => (hw.2.2.2.1.1.2 p hpm).2) (by rw [Int.toNat_natCast]; show (iC p.c.items)[k * 1]? = _; rw [Nat.mul_one]; exact iC_get hx) ?_
   refine wX ?_
   refine LdN.one (a := some ⟨fb, 0, none⟩) (q := 0) (.func (.func 81) #[] #[.pointer (some ⟨sb, 0, none⟩), .pointer (some ⟨ob, 0, none⟩), .pointer (some ⟨gb, 0, none⟩), .pointer (some ⟨fb, 0, none⟩)]) rfl (fun w hw => hw.2.2.2.1.2.2.2) rfl ?_
   refine wX ?_
   refine SpecH.args (args' := rcA x sb ob gb fb) (by simp [rcA, pvs, opvs, opv, nth, plainEv]; try rfl) ?_
   refine callG (ih ((p.c.items.take k).foldl f L2) st x (hitem x (List.mem_of_getElem? hx)) (hff k) (hfl k) hst) [0, 1, 2, 3] rfl ⟨rfl, rfl, rfl, rfl, trivial⟩ rfl fun st2 hst2 => ?_
   have hnx : f ((p.c.items.take k).foldl f L2) x = (p.c.items.take (k + 1)).foldl f L2 := (foldl_take hx).symm
   rw [hnx] at hst2 ⊢
   refine wX ?_
   refine ⟨(k + 1, st2), ⟨by omega, hst2⟩, by show p.c.items.length - (k + 1) < p.c.items.length - k; omega, ?_, wkH_refl _⟩
   exact wKK
  ·have hkl : k = p.c.items.length := by omega
   subst hkl
   rw [List.take_length] at hst ⊢
   refine wX ?_
   exact ⟨st, hst, rfl, wkE_refl _, wkE_refl _, wkE_refl _, wkE_refl _, trivial⟩
end Go.Proofs.YtgogonnnojcioaaGreatDoor
namespace Go.Core
def withinT (c : Cell) : List UInt8 := frontT c ++ markT c ++ backT c
end Go.Core
namespace Go.Proofs.YtgogonnnojcioaaGreatDoor
open Go.AX Go.RowKit Go.Core Go.Scan
set_option maxRecDepth 20000
theorem rHas_c (a : Option Addr) (c : Nat) (l : List Int) (x : Int) (ha : a = none → l = []) (hl : l.length ≤ 200000000000000) : ∀ H, (∀ w, Facts H w → SlAt a (l.length * 1) (iC l) w) → SpecH Tryz.prog 69 (pvs [.slice a l.length c, .int .i64 x]) H (Ret (.bool (decide (x ∈ l))) H) := by
 refine factC hm Tryz.func69 (by kernel_rfl) rfl rfl ?_
 refine wX ?_
 refine loopS Nat (fun i => i ≤ l.length ∧ x ∉ l.take i) (fun i => mkS Tryz.f69.ntmps 0 [(0, .c (.v (.slice a l.length c))), (1, .c (.v (.int .i64 x))), (5, .c (.v (.int .i64 (i : Int))))]) (fun i => l.length - i) rfl (fun _ => rfl) 0 ⟨Nat.zero_le _, by simp⟩ ?_ ?_
 ·exact wKK
 intro i ⟨hi, hno⟩
 refine wX ?_
 refine brd_dec (fun h1 => ?_) (fun h1 => ?_)
 ·obtain ⟨s, hs⟩ : ∃ s, l[i]? = some s := ⟨_, List.getElem?_eq_getElem (by omega)⟩
  have hsa : a.isSome = true := by
   cases a with
   | none => rw [ha rfl] at hs; cases hs
   | some b => rfl
  refine wX ?_
  refine Nd.mk ⟨hsa, by omega, by omega⟩ ?_
  refine wX ?_
  refine LdN.one (.int .i64 s) rfl (fun w hw => hw.1) (by rw [Int.toNat_natCast]; show (iC l)[i * 1]? = _; rw [Nat.mul_one]; exact iC_get hs) ?_
  refine wX ?_
  refine brd_eq (fun h2 => ?_) (fun h2 => ?_)
  ·refine wX ?_
   exact out_bool (decide_eq_true (h2 ▸ List.mem_of_getElem? hs)).symm
  ·refine wX ?_
   refine ⟨i + 1, ⟨by omega, ?_⟩, by omega, ?_, wHH⟩
   ·rw [List.take_add_one, hs]
    intro h
    rcases List.mem_append.1 h with h | h
    ·exact hno h
    ·exact h2 (List.mem_singleton.1 (show x ∈ [s] from h)).symm
   ·exact wKK
 ·have hin : i = l.length := by omega
  subst hin
  rw [List.take_length] at hno
  refine wX ?_
  exact out_bool (decide_eq_false hno).symm
set_option maxHeartbeats 1000000 in
theorem parts_c0 (kind num : Int) (text : List UInt8) (names : List (List UInt8)) (items : List Int) (na : Option Addr) (nc : Nat) (ia : Option Addr) (ic : Nat) (hk : kind = 6 ∨ kind = 7 ∨ kind = 8) (ht : text.length ≤ 2000) : ∀ H, SpecH Tryz.prog 68 (pvs [.agg #[.int .i64 kind, .int .i64 num, .string (bs text), .slice na names.length nc, .slice ia items.length ic]]) H
  (Ret (.tuple #[.string (bs (firstD ⟨kind, num, text, names, items⟩)), .string (bs (backT ⟨kind, num, text, names, items⟩)), .string (bs (withinT ⟨kind, num, text, names, items⟩))]) H) := by
 refine pureC hm Tryz.func68 (by kernel_rfl) rfl rfl ?_
 rcases hk with rfl | rfl | rfl
 ·refine wX ?_
  rfl
 ·refine wX ?_
  rfl
 ·refine wX ?_
  refine brd_eq (fun h0 => ?_) (fun h0 => ?_)
  ·have hn : names = [] := List.eq_nil_of_length_eq_zero (by omega)
   refine wX ?_
   refine Nd.mk (by show 2 + (bs text).size < _; rw [bs_size]; omega) ?_
   rw [show (({ data := #[35, 60] } : ByteArray) ++ bs text) = bs ([35, 60] ++ text) by rw [← bs_app]; rfl]
   refine wX ?_
   refine Nd.mk (by show 2 + (bs text).size < _; rw [bs_size]; omega) ?_
   rw [show (({ data := #[35, 60] } : ByteArray) ++ bs text) = bs ([35, 60] ++ text) by rw [← bs_app]; rfl]
   refine wX ?_
   refine Nd.mk (by show (bs ([35, 60] ++ text)).size + 5 < _; rw [bs_size]; simp; omega) ?_
   rw [show (bs ([35, 60] ++ text) ++ ({ data := #[32, 46, 46, 46, 62] } : ByteArray)) = bs ([35, 60] ++ text ++ [32, 46, 46, 46, 62]) by rw [← bs_app]; rfl]
   refine wX ?_
   rw [show firstD ⟨8, num, text, names, items⟩ = [35, 60] ++ text by unfold firstD; rw [if_neg (fun h => h.2 hn)]; rfl, show withinT ⟨8, num, text, names, items⟩ = [35, 60] ++ text ++ [32, 46, 46, 46, 62] by unfold withinT; show ([35, 60] ++ text) ++ [32, 46, 46, 46] ++ [62] = _; simp]
   rfl
  ·have hn : names ≠ [] := fun e => by rw [e] at h0; exact h0 rfl
   refine wX ?_
   refine Nd.mk (by show 2 + (bs text).size < _; rw [bs_size]; omega) ?_
   rw [show (({ data := #[35, 60] } : ByteArray) ++ bs text) = bs ([35, 60] ++ text) by rw [← bs_app]; rfl]
   refine wX ?_
   refine Nd.mk (by show (bs ([35, 60] ++ text)).size + 1 < _; rw [bs_size]; simp; omega) ?_
   rw [show (bs ([35, 60] ++ text) ++ ({ data := #[32] } : ByteArray)) = bs ([35, 60] ++ text ++ [32]) by rw [← bs_app]; rfl]
   refine wX ?_
   refine Nd.mk (by show 2 + (bs text).size < _; rw [bs_size]; omega) ?_
   rw [show (({ data := #[35, 60] } : ByteArray) ++ bs text) = bs ([35, 60] ++ text) by rw [← bs_app]; rfl]
   refine wX ?_
   refine Nd.mk (by show (bs ([35, 60] ++ text)).size + 5 < _; rw [bs_size]; simp; omega) ?_
   rw [show (bs ([35, 60] ++ text) ++ ({ data := #[32, 46, 46, 46, 62] } : ByteArray)) = bs ([35, 60] ++ text ++ [32, 46, 46, 46, 62]) by rw [← bs_app]; rfl]
   refine wX ?_
   rw [show firstD ⟨8, num, text, names, items⟩ = [35, 60] ++ text ++ [32] by unfold firstD; rw [if_pos ⟨rfl, hn⟩]; rfl, show withinT ⟨8, num, text, names, items⟩ = [35, 60] ++ text ++ [32, 46, 46, 46, 62] by unfold withinT; show ([35, 60] ++ text) ++ [32, 46, 46, 46] ++ [62] = _; simp]
   rfl
end Go.Proofs.YtgogonnnojcioaaGreatDoor
namespace Go.Proofs.YtgogonnnojcioaaGreatDoor
open Go.AX Go.RowKit
set_option maxRecDepth 20000
end Go.Proofs.YtgogonnnojcioaaGreatDoor
namespace Go.Proofs.YtgogonnnojcioaaGreatDoor
set_option maxRecDepth 100000
set_option maxHeartbeats 1600000
end Go.Proofs.YtgogonnnojcioaaGreatDoor
namespace Go.Proofs.YtgogonnnojcioaaGreatDoor
set_option maxRecDepth 100000
set_option maxHeartbeats 3200000
end Go.Proofs.YtgogonnnojcioaaGreatDoor
namespace Go.Proofs.YtgogonnnojcioaaGreatDoor
open Go.AX Go.RowKit Go.Scan
set_option maxRecDepth 20000
theorem flat_le {f : UInt8 → List UInt8} {m : Nat} (h : ∀ c, (f c).length ≤ m) (s : List UInt8) : (s.flatMap f).length ≤ m * s.length := by
 induction s with
 | nil => simp
 | cons c r ih =>
  have := h c
  rw [List.flatMap_cons, List.length_append, List.length_cons, Nat.mul_add, Nat.mul_one]
  omega
def qt (c : UInt8) : List UInt8 := if c == 92 then [92, 92] else if c == 34 then [92, 34] else if c == 35 then [92, 35] else if c == 10 then [92, 110] else if c == 0 then [92, 48] else [c]
theorem qt_2 (c : UInt8) : (qt c).length ≤ 2 := by
 unfold qt
 repeat' split
 all_goals first | decide | exact Nat.le_of_ble_eq_true rfl
set_option maxHeartbeats 1000000 in
theorem RQuote_c (s : List UInt8) (hs : s.length ≤ 100000) : ∀ H, SpecH Tryz.prog 67 (pvs [.string (bs s)]) H (Ret (.string (bs (s.flatMap qt))) H) := by
 refine pureC hm Tryz.func67 (by kernel_rfl) rfl rfl ?_
 have hz := bs_size s
 refine wX ?_
 refine loopS Nat (fun i => i ≤ s.length) (fun i => mkS Tryz.f67.ntmps 0 [(0, .c (.v (.string (bs s)))), (3, .c (.v (.string (bs ((s.take i).flatMap qt))))), (4, .c (.v (.int .i64 (i : Int))))]) (fun i => s.length - i) rfl (fun _ => rfl) 0 (Nat.zero_le _) ?_ fun i hi => ?_
 ·exact wKK
 refine wX ?_
 rw [hz]
 refine brd_dec (fun h1 => ?_) (fun h1 => ?_)
 ·obtain ⟨c, hc⟩ : ∃ c, s[i]? = some c := ⟨_, List.getElem?_eq_getElem (by omega)⟩
  have hnext : (s.take (i + 1)).flatMap qt = (s.take i).flatMap qt ++ qt c := by rw [take_snoc hc, List.flatMap_append]; simp
  have hle := flat_le qt_2 (s.take i)
  have hsl : (s.take (i + 1)).drop i = [c] := by rw [take_snoc hc, List.drop_left' (by simp; omega)]
  rw [List.length_take] at hle
  generalize (s.take i).flatMap qt = P at *
  refine wX ?_
  rw [Int.toNat_natCast, byteAt_get hc]
  by_cases h92 : c = 92
  ·subst h92
   have hq : qt 92 = [92, 92] := rfl
   refine wX ?_
   rw [show (⟨#[92]⟩ : ByteArray) = bs [92] from rfl]
   refine Nd.mk (by rw [bs_size, bs_size]; show _ < _; simp; omega) ?_
   rw [bs_app]
   refine wX ?_
   refine ReadW.sl_lh i (i + 1) rfl Tryz.underlying9 rfl rfl rfl ⟨rfl, by rw [wrap_i64 (by omega)]; rfl, by omega, by omega⟩ ?_
   rw [hsl]
   refine wX ?_
   refine Nd.mk (by rw [bs_size, bs_size]; show _ < _; simp; omega) ?_
   rw [bs_app, List.append_assoc]
   refine wX ?_
   refine ⟨i + 1, by omega, by omega, ?_, wHH⟩
   (repeat' (first | exact trivial | refine And.intro (by with_reducible rfl) ?_ | (with_reducible exact wkC_refl _) | (with_reducible exact wkCs_refl _) | refine And.intro ?_ ?_))
   ·rw [hnext]; rfl
   ·exact av_int (by omega)
  by_cases h34 : c = 34
  ·subst h34
   have hq : qt 34 = [92, 34] := rfl
   refine wX ?_
   rw [show (⟨#[92]⟩ : ByteArray) = bs [92] from rfl]
   refine Nd.mk (by rw [bs_size, bs_size]; show _ < _; simp; omega) ?_
   rw [bs_app]
   refine wX ?_
   refine ReadW.sl_lh i (i + 1) rfl Tryz.underlying9 rfl rfl rfl ⟨rfl, by rw [wrap_i64 (by omega)]; rfl, by omega, by omega⟩ ?_
   rw [hsl]
   refine wX ?_
   refine Nd.mk (by rw [bs_size, bs_size]; show _ < _; simp; omega) ?_
   rw [bs_app, List.append_assoc]
   refine wX ?_
   refine ⟨i + 1, by omega, by omega, ?_, wHH⟩
   (repeat' (first | exact trivial | refine And.intro (by with_reducible rfl) ?_ | (with_reducible exact wkC_refl _) | (with_reducible exact wkCs_refl _) | refine And.intro ?_ ?_))
   ·rw [hnext]; rfl
   ·exact av_int (by omega)
  by_cases h35 : c = 35
  ·subst h35
   have hq : qt 35 = [92, 35] := rfl
   refine wX ?_
   rw [show (⟨#[92]⟩ : ByteArray) = bs [92] from rfl]
   refine Nd.mk (by rw [bs_size, bs_size]; show _ < _; simp; omega) ?_
   rw [bs_app]
   refine wX ?_
   refine ReadW.sl_lh i (i + 1) rfl Tryz.underlying9 rfl rfl rfl ⟨rfl, by rw [wrap_i64 (by omega)]; rfl, by omega, by omega⟩ ?_
   rw [hsl]
   refine wX ?_
   refine Nd.mk (by rw [bs_size, bs_size]; show _ < _; simp; omega) ?_
   rw [bs_app, List.append_assoc]
   refine wX ?_
   refine ⟨i + 1, by omega, by omega, ?_, wHH⟩
   (repeat' (first | exact trivial | refine And.intro (by with_reducible rfl) ?_ | (with_reducible exact wkC_refl _) | (with_reducible exact wkCs_refl _) | refine And.intro ?_ ?_))
   ·rw [hnext]; rfl
   ·exact av_int (by omega)
  by_cases h10 : c = 10
  ·subst h10
   have hq : qt 10 = [92, 110] := rfl
   refine wX ?_
   rw [show (⟨#[92, 110]⟩ : ByteArray) = bs [92, 110] from rfl]
   refine Nd.mk (by first | (rw [bs_size, bs_size]; show _ < _; simp; omega) | (rw [bs_size]; show _ < _; simp; omega)) ?_
   rw [bs_app]
   refine wX ?_
   refine ⟨i + 1, by omega, by omega, ?_, wHH⟩
   (repeat' (first | exact trivial | refine And.intro (by with_reducible rfl) ?_ | (with_reducible exact wkC_refl _) | (with_reducible exact wkCs_refl _) | refine And.intro ?_ ?_))
   ·rw [hnext]; first | rfl | (rw [hq])
   ·exact av_int (by omega)
  by_cases h0 : c = 0
  ·subst h0
   have hq : qt 0 = [92, 48] := rfl
   refine wX ?_
   rw [show (⟨#[92, 48]⟩ : ByteArray) = bs [92, 48] from rfl]
   refine Nd.mk (by first | (rw [bs_size, bs_size]; show _ < _; simp; omega) | (rw [bs_size]; show _ < _; simp; omega)) ?_
   rw [bs_app]
   refine wX ?_
   refine ⟨i + 1, by omega, by omega, ?_, wHH⟩
   (repeat' (first | exact trivial | refine And.intro (by with_reducible rfl) ?_ | (with_reducible exact wkC_refl _) | (with_reducible exact wkCs_refl _) | refine And.intro ?_ ?_))
   ·rw [hnext]; first | rfl | (rw [hq])
   ·exact av_int (by omega)
  have e92 : ((c.toNat : Int) == 92) = false := (u8_eq (n := 92) (by decide)).trans (by simpa using h92)
  have e34 : ((c.toNat : Int) == 34) = false := (u8_eq (n := 34) (by decide)).trans (by simpa using h34)
  have e35 : ((c.toNat : Int) == 35) = false := (u8_eq (n := 35) (by decide)).trans (by simpa using h35)
  have e10 : ((c.toNat : Int) == 10) = false := (u8_eq (n := 10) (by decide)).trans (by simpa using h10)
  have e0 : ((c.toNat : Int) == 0) = false := (u8_eq (n := 0) (by decide)).trans (by simpa using h0)
  have hq : qt c = [c] := by unfold qt; simp [h92, h34, h35, h10, h0]
  refine wX ?_
  rw [e92]
  refine wX ?_
  rw [e34]
  refine wX ?_
  rw [e35]
  refine wX ?_
  rw [e10]
  refine wX ?_
  rw [e0]
  refine wX ?_
  refine ReadW.sl_lh i (i + 1) rfl Tryz.underlying9 rfl rfl rfl ⟨rfl, by rw [wrap_i64 (by omega)]; rfl, by omega, by omega⟩ ?_
  rw [hsl]
  refine wX ?_
  refine Nd.mk (by first | (rw [bs_size, bs_size]; show _ < _; simp; omega) | (rw [bs_size]; show _ < _; simp; omega)) ?_
  rw [bs_app]
  refine wX ?_
  refine ⟨i + 1, by omega, by omega, ?_, wHH⟩
  (repeat' (first | exact trivial | refine And.intro (by with_reducible rfl) ?_ | (with_reducible exact wkC_refl _) | (with_reducible exact wkCs_refl _) | refine And.intro ?_ ?_))
  ·rw [hnext]; first | rfl | (rw [hq])
  ·exact av_int (by omega)
 ·have hil : i = s.length := by omega
  subst hil
  rw [List.take_length]
  exact wZ
end Go.Proofs.YtgogonnnojcioaaGreatDoor
namespace Go.Proofs.YtgogonnnojcioaaGreatDoor
open Go.AX Go.RowKit
set_option maxRecDepth 20000
end Go.Proofs.YtgogonnnojcioaaGreatDoor
namespace Go.Proofs.YtgogonnnojcioaaGreatDoor
open Go.AX Go.RowKit Go.Scan
set_option maxRecDepth 20000
end Go.Proofs.YtgogonnnojcioaaGreatDoor
namespace Go.AX
theorem BlindW.min2 {P : Program} {o : Oper} {s : List AV} {K : AV → Prop} {x y : Operand} {args : Array Operand} {ts : Array TypeId} {a b : Int} (ho : o.op = .call { callee := .builtin .min, args := args, argTypes := ts }) (ha : args = #[x, y])
  (hx : opv s x = .c (.v (.int .i64 a))) (hy : opv s y = .c (.v (.int .i64 b))) (hk : K (.c (.v (.int .i64 (minI a b))))) : ∃ x, BlindW P o s K x := by
 subst ha
 refine ⟨.int .i64 (minI a b), ?_, fun w => execOp_blt ho fun consts => ?_, hk⟩
 ·rw [ho]
  show allPlain s [x, y] = true
  simp [allPlain, hx, hy]
 ·have e1 : plainEv s x = .int .i64 a := by unfold plainEv; rw [hx]
  have e2 : plainEv s y = .int .i64 b := by unfold plainEv; rw [hy]
  simp [builtin, Builtin.min_, Builtin.min2, e1, e2, minI]
end Go.AX
namespace Go.Proofs.YtgogonnnojcioaaGreatDoor
open Go.AX Go.RowKit Go.Core Go.Scan
set_option maxRecDepth 20000
def gF (a : Option Addr) (l : List CellP) (E : World → Prop) : World → Prop := fun w => GrF a l w ∧ E w
end Go.Proofs.YtgogonnnojcioaaGreatDoor
namespace Go.Proofs.YtgogonnnojcioaaGreatDoor
open Go.AX Go.RowKit Go.Core Go.Scan
set_option maxRecDepth 20000
def textP (lf : Cell → List UInt8) (g : List Cell) (u : Int) : List UInt8 := (writeS 20000 lf g (g.length + 2) [] [] u).take 20000
def TabF (w : World) : Prop := Lib.TabIs Tryz.prog w "internal/strconv.uint64pow10" .u64 Lib.pow10Tab
def qL (s : List UInt8) : List UInt8 := s.flatMap qt
def itL (x : Int) : List UInt8 := if -9223372036854775808 ≤ x ∧ x ≤ 9223372036854775807 then Lib.itoa x else []
theorem qL_le (s : List UInt8) : (qL s).length ≤ 2 * s.length := flat_le qt_2 s
theorem itL_le (x : Int) : (itL x).length ≤ 30 := by
 unfold itL
 split
 ·have := Lib.itoa_length_le x (by omega) (by omega); omega
 ·exact Nat.zero_le _
theorem Itoa_c (n : Int) (hn : -9223372036854775808 ≤ n ∧ n ≤ 9223372036854775807) : ∀ H, (∀ w, Facts H w → TabF w) → SpecH Tryz.prog 66 (pvs [.int .i64 n]) H (Ret (.string (bs (itL n))) H) := fun H hF => by
 rw [show itL n = Lib.itoa n from if_pos hn]
 exact SpecH.rawP (R := fun r => r = .string (bs (Lib.itoa n))) (callOk Tryz.func66 (by kernel_rfl) rfl) (fun w hw => (Tryz.strconv_Itoa n (by omega) (by omega) w (hF w hw)).mono fun e w' ⟨he, k, os, hw'⟩ => ⟨_, he, rfl, by subst hw'; exact Lib.below_grow _ _ (Nat.le_refl _) k os⟩) fun r hr => by subst hr; exact ⟨rfl, rfl⟩
theorem cellD_num {n : Nat} {c : Cell} (h : cellD n c = true) (h3 : c.kind = 3) : -9223372036854775808 ≤ c.num ∧ c.num ≤ 9223372036854775807 := by
 unfold cellD at h
 rw [if_pos h3] at h
 simp only [Bool.and_eq_true, decide_eq_true_eq] at h
 have h1 := h.2.1.2
 have h2 := h.2.2
 unfold Go.Core.maxI at h1 h2
 omega
end Go.Proofs.YtgogonnnojcioaaGreatDoor
namespace Go.Core
theorem docS_leaf {M : Nat} {leafT : Cell → List UInt8} {g : List Cell} {n : Nat} {out : List UInt8} {way : List Int} {u : Int} {c : Cell} (hc : at_ g u = c) (hl : isLeaf c = true) : docS M leafT g (n + 1) out way u = out ++ leafT c := by
 subst hc
 conv => lhs; unfold docS
 rw [if_pos hl]
theorem docS_in {M : Nat} {leafT : Cell → List UInt8} {g : List Cell} {n : Nat} {out : List UInt8} {way : List Int} {u : Int} {c : Cell} (hc : at_ g u = c) (hl : ¬ isLeaf c = true) : docS M leafT g (n + 1) out way u = if u ∈ way then out ++ withinT c else
  foldD M (fun o k => docS M leafT g n o (way ++ [u]) k) (preD c) 0 c.items (out ++ firstD c) ++ backT c := by
 subst hc
 conv => lhs; unfold docS
 rw [if_neg hl]
 rfl
theorem foldD_at {M : Nat} {f : List UInt8 → Int → List UInt8} {pre : Nat → List UInt8} {l : List Int} {k : Nat} {x : Int} {out : List UInt8} (h : l[k]? = some x) (ho : out.length < M) : foldD M f pre k (l.drop k) out = foldD M f pre (k + 1) (l.drop (k + 1)) (f (out ++ pre k) x) := by
 have hk := (List.getElem?_eq_some_iff.1 h).1
 rw [List.drop_eq_getElem_cons hk, (List.getElem?_eq_some_iff.1 h).2]
 conv => lhs; unfold foldD
 rw [if_pos ho]
theorem foldD_end {M : Nat} {f : List UInt8 → Int → List UInt8} {pre : Nat → List UInt8} {l : List Int} {k : Nat} {out : List UInt8} (h : ¬ (k < l.length ∧ out.length < M)) : foldD M f pre k (l.drop k) out = out := by
 rcases Nat.lt_or_ge k l.length with h1 | h1
 ·rw [List.drop_eq_getElem_cons h1]
  unfold foldD
  rw [if_neg (fun h2 => h ⟨h1, h2⟩)]
 ·rw [List.drop_of_length_le h1]; rfl
theorem preD_6 {c : Cell} (h : c.kind = 6) (k : Nat) : preD c k = if 0 < k then [44, 32] else [] := by
 unfold preD
 rw [if_neg (by omega), if_neg (show ¬ c.kind = 8 by omega), List.append_nil]
theorem preD_7 {c : Cell} (h : c.kind = 7) (k : Nat) : preD c k = if k % 2 = 1 then [32, 61, 62, 32] else if 0 < k then [44, 32] else [] := by
 unfold preD
 rw [if_neg (show ¬ c.kind = 8 by omega), List.append_nil]
 by_cases h2 : k % 2 = 1
 ·rw [if_pos ⟨h, h2⟩, if_pos h2]
 ·rw [if_neg (fun e => h2 e.2), if_neg h2]
theorem preD_8 {c : Cell} (h : c.kind = 8) (k : Nat) : preD c k = (if 0 < k then [44, 32] else []) ++ (c.names.getD k [] ++ [61]) := by
 unfold preD
 rw [if_neg (by omega), if_pos h]
theorem within_le {text : List UInt8} (h : text.length ≤ 2000) (num : Int) (names : List (List UInt8)) (items : List Int) (k : Int) : (withinT ⟨k, num, text, names, items⟩).length ≤ 2010 := by
 have h1 := mark_le (⟨k, num, text, names, items⟩ : Cell)
 have h2 := back_le (⟨k, num, text, names, items⟩ : Cell)
 have h3 : (frontT (⟨k, num, text, names, items⟩ : Cell)).length ≤ 2002 := by
  unfold frontT
  split
  ·simp
  split
  ·simp; omega
  ·simp
 unfold withinT
 simp only [List.length_append]
 omega
end Go.Core
namespace Go.Proofs.YtgogonnnojcioaaGreatDoor
open Go.AX Go.RowKit Go.Core Go.Scan
set_option maxRecDepth 20000
section
attribute [local irreducible] Int.decLt
end
end Go.Proofs.YtgogonnnojcioaaGreatDoor
namespace Go.Proofs.YtgogonnnojcioaaGreatDoor
open Go.AX Go.RowKit Go.Core Go.Scan
set_option maxRecDepth 20000
theorem small_as {l m : List CellP} (hs : Small l) (h : m.map (·.c) = l.map (·.c)) : Small m := by
 refine ⟨by have := congrArg List.length h; simp at this; have := hs.1; omega, fun p hp => ?_⟩
 have h1 : p.c ∈ l.map (·.c) := h ▸ List.mem_map_of_mem hp
 obtain ⟨q, hq, e⟩ := List.mem_map.1 h1
 rw [← e]
 exact hs.2 q hq
theorem RIs_c (a : Option Addr) (ca : Nat) (l : List CellP) (ha : a = none → l = []) (hl : l.length ≤ 200000000000000) (hok : ∀ p ∈ l, CellOk p) (u : Int) :
  ∀ H, (∀ w, Facts H w → GrF a l w) → ∃ b : Bool, (b = true ↔ AskP (l.map (·.c)) [u]) ∧ SpecH Tryz.prog 42 (pvs [.slice a l.length ca, .int .i64 u]) H (Ret (.bool b) H) := by
 intro H hH
 obtain ⟨b, hb⟩ : ∃ b : Bool, b = true ↔ AskP (l.map (·.c)) [u] := by
  by_cases h : AskP (l.map (·.c)) [u]
  ·exact ⟨true, fun _ => h, fun _ => rfl⟩
  ·exact ⟨false, (fun h => by cases h), fun h2 => absurd h2 h⟩
 refine ⟨b, hb, ?_⟩
 have hgl : (l.map (·.c)).length = l.length := by simp
 refine factC hm Tryz.func42 (by kernel_rfl) rfl rfl ?_ H hH
 refine wX ?_
 obtain ⟨v, hv1, hv2⟩ := Valid_c a ca l ha hl hok [.fact (GrF a l)] (fun w hw => hw.1)
 refine call1 hv2 ?_
 cases v with
 | false =>
  refine wX ?_
  exact out_bool (by
   cases b with
   | false => rfl
   | true => exact absurd (hv1.2 (hb.1 rfl).1) (by decide))
 | true =>
  refine wX ?_
  refine brd_dec (fun h1 => ?_) (fun h1 => ?_)
  ·refine wX ?_
   refine out_bool ?_
   rw [Bool.eq_iff_iff, hb, decide_eq_true_eq]
   constructor
   ·intro h
    exact ⟨hv1.1 rfl, fun x hx => by rw [List.mem_singleton.1 hx]; omega⟩
   ·intro h
    have := h.2 u (by simp)
    omega
  ·refine wX ?_
   refine out_bool ?_
   cases b with
   | false => rfl
   | true => have := (hb.1 rfl).2 u (by simp); omega
def textD (lf : Cell → List UInt8) (g : List Cell) (u : Int) : List UInt8 := (docS 20000 lf g (g.length + 2) [] [] u).take 20000
theorem text_eq {lf : Cell → List UInt8} {g : List Cell} (hv : ValidP g) (u : Int) : textP lf g u = textD lf g u := by
 unfold textP textD
 exact write_doc (fun a h8 => by
  rcases at_cases g a with h | h
  ·exact cellD_lens (hv.2.1 _ h) h8
  ·rw [h] at h8; exact absurd h8 (by decide)) _ _ _ _
end Go.Proofs.YtgogonnnojcioaaGreatDoor
namespace Go.Proofs.YtgogonnnojcioaaGreatDoor
open Go.AX Go.RowKit Go.Core
set_option maxRecDepth 20000
def IntR (L : List Int) (v : Value) (G : World → Prop) : Prop := ∃ (oa : Option Addr) (oc : Nat), v = .slice oa L.length oc ∧ (oa = none → L = []) ∧ ∀ w, G w → SlAt oa (L.length * 1) (iC L) w
def IntE (e : Bool) (L : List Int) (v : Value) (G : World → Prop) : Prop := ∃ (oa : Option Addr) (oc : Nat), v = .tuple #[.slice oa L.length oc, errI e] ∧ (oa = none → L = []) ∧ ∀ w, G w → SlAt oa (L.length * 1) (iC L) w
def reachL (g : List Cell) (i : Int) : List Int := reachF g (g.length + 1) [] i
set_option maxHeartbeats 4000000 in
theorem reach_c {a : Option Addr} (ca : Nat) {l : List CellP} (ha : a = none → l = []) (hs : Small l) (hok : ∀ p ∈ l, CellOk p) (hg : InG (l.map (·.c))) (i : Int) (hi : InI (l.map (·.c)) i) :
  SpecF Tryz.prog 54 [.slice a l.length ca, .int .i64 i] (GrF a l) (IntR (reachL (l.map (·.c)) i)) := by
 refine specF hm Tryz.func54 (by kernel_rfl) rfl rfl ?_
 (conv => whnf)
 refine BoxN.known [.slice a l.length ca] rfl fun gb => ?_
 refine wXB ?_
 refine EffW.mkMap rfl fun mb => ?_
 refine wXB ?_
 refine BoxN.known [.map none] rfl fun sb => ?_
 refine wXB ?_
 refine EffW.appTo (i := 3) (q := 0) (ys := [.map (some mb)]) [.map (some mb)] 1 rfl rfl rfl rfl rfl rfl rfl (Nat.le_of_ble_eq_true rfl) rfl rfl ?_
 refine wXB ?_
 refine BoxN.known [.slice none 0 0] rfl fun ob => ?_
 refine wXB ?_
 refine BoxN.known [.nilFunc] rfl fun fb => ?_
 refine wXB ?_
 refine EffW.appTo (i := 5) (q := 0) (ys := [.func (.func 81) #[] #[.pointer (some ⟨sb, 0, none⟩), .pointer (some ⟨ob, 0, none⟩), .pointer (some ⟨gb, 0, none⟩), .pointer (some ⟨fb, 0, none⟩)]]) [.func (.func 81) #[] #[.pointer (some ⟨sb, 0, none⟩), .pointer (some ⟨ob, 0, none⟩), .pointer (some ⟨gb, 0, none⟩), .pointer (some ⟨fb, 0, none⟩)]] 1 rfl rfl rfl (by simp [opv, nth, plainEv, avCells, vs]; try rfl) rfl rfl rfl (Nat.le_of_ble_eq_true rfl) rfl rfl ?_
 refine wXB ?_
 refine LdN.one (a := some ⟨fb, 0, none⟩) (q := 0) (.func (.func 81) #[] #[.pointer (some ⟨sb, 0, none⟩), .pointer (some ⟨ob, 0, none⟩), .pointer (some ⟨gb, 0, none⟩), .pointer (some ⟨fb, 0, none⟩)]) rfl (fun w hw => hw.2.2.2.2.2.1) rfl ?_
 refine wXB ?_
 refine SpecH.args (args' := rcA i sb ob gb fb) (by simp [rcA, pvs, opvs, opv, nth, plainEv]; try rfl) ?_
 refine SpecH.pad [.app 3 1 [] none 0 0] rfl ?_
 refine SpecH.turn [.fact (GrF a l), .fact (rcF a ca l sb ob gb fb mb), .mp mb #[] 0, .dead, .app 22 1 [.slice none 0 0] (some ⟨ob, 0, none⟩) 1 1, .dead, .app 3 1 [] none 0 0] ⟨.inr (.inl rfl), .inr (.inr ⟨_, rfl, fun w hw => ⟨hw.1, hw.2.2.1, hw.2.1, hw.2.2.2.1⟩⟩), .inr (.inl rfl), .inl rfl, .inr (.inl rfl), .inl rfl, .inr (.inl rfl), trivial⟩ ?_
 have hfr := free_le (l.map (·.c)) []
 have hgl : (l.map (·.c)).length = l.length := by simp
 have hl := hs.1
 refine callG (rwalk_c a ca l ha hs hok hg sb ob gb fb mb ((l.map (·.c)).length + 1) [] ⟨#[], 0, ⟨none, 0⟩⟩ i hi (by omega) (by simp only [List.length_nil]; omega) ⟨rfl, fun _ => ⟨rfl, rfl⟩, Nat.le_refl _, fun _ => rfl⟩) [2, 4, 6, 1] rfl ⟨rfl, rfl, rfl, rfl, trivial⟩ rfl fun ⟨es, c, ⟨ob2, oc⟩⟩ hst => ?_
 obtain ⟨_, h2⟩ := hst
 have hL : reachF (l.map (·.c)) ((l.map (·.c)).length + 1) [] i = reachL (l.map (·.c)) i := rfl
 rw [hL] at h2 ⊢
 generalize reachL (l.map (·.c)) i = L at *
 refine wX ?_
 refine LdN.one (a := some ⟨ob, 0, none⟩) (q := 0) (.slice (at0 ob2) L.length oc) rfl (fun w hw => hw.2.2.2.1) rfl ?_
 refine wX ?_
 refine fin_p (SlAt (at0 ob2) (L.length * 1) (iC L)) ⟨_, _, rfl, fun h => ?_, fun w hw => hw⟩ fun w hw => ?_
 ·cases ob2 with
  | none => exact List.eq_nil_of_length_eq_zero (h2.1 rfl).1
  | some b => cases h
 ·exact hw.2.2.2.2.1
end Go.Proofs.YtgogonnnojcioaaGreatDoor
namespace Go.Core
end Go.Core
namespace Go.Proofs.YtgogonnnojcioaaGreatDoor
open Go.AX Go.RowKit Go.Core
set_option maxRecDepth 20000
def colour (u d : List Int) (i : Int) : Int := if i ∈ u then 1 else if i ∈ d then 2 else 0
def okC (u d : List Int) (st : Array MapEntry × Nat) : Prop := ∃ R : List (Int × Value), KeysAre (fun k : Int => .int .i64 k) st.1.toList R ∧ ∀ i, (R.lookup i).getD (.int .i64 0) = .int .i64 (colour u d i)
end Go.Proofs.YtgogonnnojcioaaGreatDoor
namespace Go.Proofs.YtgogonnnojcioaaGreatDoor
open Go.AX Go.RowKit Go.Core
set_option maxRecDepth 20000
end Go.Proofs.YtgogonnnojcioaaGreatDoor
namespace Go.Core
def idxP (n : Nat) (p : Int × Int) : Nat := p.1.toNat * n + p.2.toNat
theorem idxP_lt {g : List Cell} {p : Int × Int} (h : InP g p) : idxP g.length p < g.length * g.length := by
 obtain ⟨⟨h1, h2⟩, h3, h4⟩ := h
 unfold idxP
 have : (p.1.toNat + 1) * g.length ≤ g.length * g.length := Nat.mul_le_mul_right _ (by omega)
 rw [Nat.add_mul, Nat.one_mul] at this
 omega
theorem idxP_inj {g : List Cell} {p q : Int × Int} (hp : InP g p) (hq : InP g q) (h : idxP g.length p = idxP g.length q) : p = q := by
 obtain ⟨⟨a1, a2⟩, a3, a4⟩ := hp
 obtain ⟨⟨b1, b2⟩, b3, b4⟩ := hq
 unfold idxP at h
 have m1 : (p.1.toNat * g.length + p.2.toNat) % g.length = p.2.toNat := by rw [Nat.mul_add_mod_self_right]; exact Nat.mod_eq_of_lt (by omega)
 have m2 : (q.1.toNat * g.length + q.2.toNat) % g.length = q.2.toNat := by rw [Nat.mul_add_mod_self_right]; exact Nat.mod_eq_of_lt (by omega)
 have hz : p.2.toNat = q.2.toNat := by rw [← m1, ← m2, h]
 have hx : p.1.toNat = q.1.toNat := Nat.eq_of_mul_eq_mul_right (show 0 < g.length by omega) (by omega)
 exact Prod.ext (by omega) (by omega)
structure SeenS (g : List Cell) (l : List (Int × Int)) (S : List Bool) : Prop where
 len : S.length = g.length * g.length
 get : ∀ p, InP g p → S[idxP g.length p]? = some (decide (p ∈ l))
theorem SeenS.none (g : List Cell) : SeenS g [] (List.replicate (g.length * g.length) false) := ⟨by simp, fun p hp => by rw [List.getElem?_replicate, if_pos (idxP_lt hp)]; simp⟩
theorem SeenS.put {g : List Cell} {l : List (Int × Int)} {S : List Bool} (h : SeenS g l S) {p : Int × Int} (hp : InP g p) : SeenS g (l ++ [p]) (S.set (idxP g.length p) true) := by
 refine ⟨by rw [List.length_set, h.len], fun q hq => ?_⟩
 by_cases e : q = p
 ·subst e
  rw [List.getElem?_set_self (by rw [h.len]; exact idxP_lt hq)]
  simp
 ·rw [List.getElem?_set_ne (fun he => e (idxP_inj hp hq he).symm), h.get q hq]
  simp [e]
def blC (S : List Bool) : List Value := S.map .bool
theorem blC_set (S : List Bool) (i : Nat) (b : Bool) : (blC S).set i (.bool b) = blC (S.set i b) := by unfold blC; rw [List.map_set]
theorem blC_get {S : List Bool} {i : Nat} {b : Bool} (h : S[i]? = some b) : (blC S)[i]? = some (.bool b) := by unfold blC; rw [List.getElem?_map, h]; rfl
def pC (l : List (Int × Int)) : List Value := l.flatMap fun p => [.int .i64 p.1, .int .i64 p.2]
theorem pC_get {l : List (Int × Int)} {i : Nat} {p : Int × Int} (h : l[i]? = some p) : (pC l)[i * 2]? = some (.int .i64 p.1) ∧ (pC l)[i * 2 + 1]? = some (.int .i64 p.2) := by
 unfold pC
 constructor
 ·have := Go.AX.flat_get (m := 2) (g := fun p : Int × Int => [Value.int .i64 p.1, .int .i64 p.2]) (fun _ => rfl) l i 0 (by decide)
  rw [h] at this
  exact this
 ·have := Go.AX.flat_get (m := 2) (g := fun p : Int × Int => [Value.int .i64 p.1, .int .i64 p.2]) (fun _ => rfl) l i 1 (by decide)
  rw [h] at this
  exact this
theorem pC_snoc (l : List (Int × Int)) (p : Int × Int) : pC l ++ [.int .i64 p.1, .int .i64 p.2] = pC (l ++ [p]) := by unfold pC; rw [List.flatMap_append]; rfl
end Go.Core
namespace Go.Proofs.YtgogonnnojcioaaGreatDoor
open Go.AX Go.RowKit Go.Core
set_option maxRecDepth 20000
theorem sq_le {n : Nat} (h : n ≤ 500) : n * n ≤ 250000 := Nat.mul_le_mul h h
theorem mul_wrap {x y : Nat} (hx : x ≤ 500) (hy : y ≤ 500) : IntKind.i64.wrap ((x : Int) * (y : Int)) = ((x * y : Nat) : Int) := by
 have h := Nat.mul_le_mul hx hy
 rw [← Int.natCast_mul]
 exact wrap_i64 (by omega)
structure RSt where
 i : Nat
 L : List (Int × Int)
 lb : Nat
 cap : Nat
 S : List Bool
def RInv (g : List Cell) (Q : Nat) (B : Bool) : RSt → Prop := fun ⟨i, L, _, cap, S⟩ => i ≤ L.length ∧ L.Nodup ∧ (∀ q ∈ L, InP g q) ∧ SeenS g L S ∧ ∃ n, bfsF g n L i = B ∧ Q < n + i
set_option maxHeartbeats 4000000 in
theorem requal_c {a : Option Addr} (ca : Nat) {l : List CellP} (ha : a = none → l = []) (hs : Small l) (hok : ∀ p ∈ l, CellOk p) (hval : ValidP (l.map (·.c))) (u v : Nat) (hu : u < l.length) (hv : v < l.length) :
  ∀ H, (∀ w, Facts H w → GrF a l w) → SpecH Tryz.prog 46 (pvs [.slice a l.length ca, .int .i64 (u : Int), .int .i64 (v : Int)]) H (Ret (.bool (sameB (l.map (·.c)) ((u : Int), (v : Int)))) H) := by
 refine factC hm Tryz.func46 (by kernel_rfl) rfl rfl ?_
 have hgl : (l.map (·.c)).length = l.length := by simp
 have h500 : l.length ≤ 500 := by have := hval.1; omega
 have hsq := sq_le h500
 have hin := valid_in hval
 have hp0 : InP (l.map (·.c)) ((u : Int), (v : Int)) := ⟨⟨by simp, by simp only [hgl]; omega⟩, by simp, by simp only [hgl]; omega⟩
 have hsb : sameB (l.map (·.c)) ((u : Int), (v : Int)) = bfsF (l.map (·.c)) ((l.map (·.c)).length * (l.map (·.c)).length + 1) [((u : Int), (v : Int))] 0 := same_bfs hin hp0 (by omega) (by omega)
 rw [hsb, hgl]
 have hsa : a.isSome = true := by
  cases a with
  | none => rw [ha rfl] at hu; exact absurd hu (Nat.not_lt_zero _)
  | some b => rfl
 have hmul := mul_wrap h500 h500
 have hiw : ∀ x y : Nat, x < l.length → y < l.length → IntKind.i64.wrap (IntKind.i64.wrap ((x : Int) * (l.length : Int)) + (y : Int)) = ((x * l.length + y : Nat) : Int) ∧ x * l.length + y < l.length * l.length := fun x y hx hy => by
  rw [mul_wrap (by omega) h500]
  have h1 : (x + 1) * l.length ≤ l.length * l.length := Nat.mul_le_mul_right _ (by omega)
  rw [Nat.add_mul, Nat.one_mul] at h1
  exact ⟨by rw [wrap_i64 (by omega)]; omega, by omega⟩
 refine wXR ?_
 rw [hmul]
 refine EffW.mkRow (e := 4) (l.length * l.length) (blC (List.replicate (l.length * l.length) false)) rfl (by kernel_rfl) rfl rfl rfl rfl rfl rfl ⟨by omega, by decide⟩ (by unfold blC; rw [List.map_replicate]) fun sb => ?_
 refine wXR ?_
 refine RwN.known [.int .i64 (u : Int), .int .i64 (v : Int)] rfl fun lb => ?_
 refine wXR ?_
 have hS0 := (SeenS.none (l.map (·.c))).put hp0
 rw [hgl] at hS0
 have hi0 : idxP l.length ((u : Int), (v : Int)) = u * l.length + v := rfl
 rw [hi0] at hS0
 rw [(hiw u v hu hv).1]
 have hlt0 := (hiw u v hu hv).2
 refine Nd.mk ⟨rfl, by omega, by omega⟩ ?_
 refine wXR ?_
 refine EffW.appTo (i := 1) (q := u * l.length + v) (ys := [.bool true]) (blC ((List.replicate (l.length * l.length) false).set (u * l.length + v) true)) 1 rfl (by rw [Int.toNat_natCast]; show AV.c (CV.v (Value.pointer (some ((⟨sb, 0, none⟩ : Addr).add ((u * l.length + v) * 1))))) = _; rw [add_lit0, Nat.mul_one]) rfl rfl rfl rfl rfl (by show _ + 1 ≤ _ * 1; omega) (by rw [put_set _ (by simp [blC]; omega), blC_set]) rfl ?_
 generalize (List.replicate (l.length * l.length) false).set (u * l.length + v) true = S0 at *
 refine wXR ?_
 obtain ⟨B, hB⟩ : ∃ B, B = bfsF (l.map (·.c)) (l.length * l.length + 1) [((u : Int), (v : Int))] 0 := ⟨_, rfl⟩
 rw [← hB]
 refine LoopN.intro RSt (RInv (l.map (·.c)) (l.length * l.length) B) (fun ⟨i, L, lb, cap, S⟩ => mkS Tryz.f46.ntmps 0 [(0, .c (.v (.slice a l.length ca))), (7, .c (.v (.slice (some ⟨sb, 0, none⟩) (l.length * l.length) (l.length * l.length)))), (8, .c (.v (.slice (some ⟨lb, 0, none⟩) L.length cap))), (9, .c (.v (.int .i64 (i : Int))))])
  (fun ⟨i, L, lb, cap, S⟩ => [.fact (GrF a l), .app 4 1 (blC S) (some ⟨sb, 0, none⟩) (l.length * l.length) (l.length * l.length), .app 119 2 (pC L) (some ⟨lb, 0, none⟩) L.length cap]) (fun ⟨i, _, _, _, _⟩ => l.length * l.length + 1 - i) [] rfl (fun ⟨_, _, _, _, _⟩ => rfl) (fun ⟨_, _, _, _, _⟩ => rfl) (fun ⟨_, _, _, _, _⟩ _ => okHB_eq rfl) ?_ ?_
 ·refine ⟨⟨0, [((u : Int), (v : Int))], lb, 1, S0⟩, ⟨Nat.zero_le _, by simp, fun q hq => by rw [List.mem_singleton.1 hq]; exact hp0, hS0, ⟨l.length * l.length + 1, hB.symm, by omega⟩⟩, ?_, wkE_refl _, wkE_refl _, wkE_refl _, trivial⟩
  exact wKK
 rintro ⟨i, L, lb2, cap2, S⟩ ⟨hi, hnd, hLi, hSS, n, hbf, hn⟩
 have hLl : L.length ≤ l.length * l.length := by have := nodup_le hnd (b := allP (l.map (·.c)).length) (fun q hq => mem_allP (hLi q hq)); rw [allP_len, hgl] at this; exact this
 refine wX ?_
 refine brd_dec (fun h1 => ?_) (fun h1 => ?_)
 rotate_left
 ·have hil : i = L.length := by omega
  subst hil
  have hbt : bfsF (l.map (·.c)) n L L.length = true := by
   cases n with
   | zero => rfl
   | succ n =>
    unfold bfsF
    rw [List.getElem?_eq_none (Nat.le_refl _)]
  rw [← hbf, hbt]
  exact wZ
 have hil : i < L.length := by omega
 obtain ⟨⟨x0, y0⟩, hq⟩ : ∃ q, L[i]? = some q := ⟨_, List.getElem?_eq_getElem hil⟩
 have hqi := hLi _ (List.mem_of_getElem? hq)
 obtain ⟨xn, rfl⟩ : ∃ n : Nat, x0 = (n : Int) := ⟨x0.toNat, by have := hqi.1; simp only at this; omega⟩
 obtain ⟨yn, rfl⟩ : ∃ n : Nat, y0 = (n : Int) := ⟨y0.toNat, by have := hqi.2; simp only at this; omega⟩
 have hxn : xn < l.length := by have := hqi.1.2; simp only [List.length_map] at this; omega
 have hyn : yn < l.length := by have := hqi.2.2; simp only [List.length_map] at this; omega
 obtain ⟨x, hx⟩ : ∃ x, l[xn]? = some x := ⟨_, List.getElem?_eq_getElem hxn⟩
 obtain ⟨y, hy⟩ : ∃ y, l[yn]? = some y := ⟨_, List.getElem?_eq_getElem hyn⟩
 have hxm := List.mem_of_getElem? hx
 have hym := List.mem_of_getElem? hy
 have hxo := hok x hxm
 have hyo := hok y hym
 have hxs := hs.2 x hxm
 have hys := hs.2 y hym
 refine wX ?_
 refine Nd.mk ⟨rfl, by omega, by omega⟩ ?_
 refine wX ?_
 refine LdN.fld (.int .i64 (xn : Int)) rfl (fun w hw => hw.2.2.1) (by rw [Int.toNat_natCast]; exact (pC_get hq).1) ?_
 refine wX ?_
 refine Nd.mk ⟨hsa, by omega, by omega⟩ ?_
 refine wX ?_
 refine LdN.agg (cellC x) rfl (fun w hw => hw.1.1) rfl (fun k hk => by rw [Int.toNat_natCast]; exact grC_get l xn k hk hx) ?_
 refine wX ?_
 refine Nd.mk ⟨rfl, by omega, by omega⟩ ?_
 refine wX ?_
 refine LdN.fld (.int .i64 (yn : Int)) rfl (fun w hw => hw.2.2.1) (by rw [Int.toNat_natCast]; exact (pC_get hq).2) ?_
 refine wX ?_
 refine Nd.mk ⟨hsa, by omega, by omega⟩ ?_
 refine wX ?_
 refine LdN.agg (cellC y) rfl (fun w hw => hw.1.1) rfl (fun k hk => by rw [Int.toNat_natCast]; exact grC_get l yn k hk hy) ?_
 refine wX ?_
 refine call1 (alike_c x y hxo hyo _ (fun w hw => ⟨hw.1.2 x hxm, hw.1.2 y hym⟩)) ?_
 have hoke : ok (l.map (·.c)) ((xn : Int), (yn : Int)) = alikeB x.c y.c := by unfold ok; rw [at_map hx, at_map hy]
 have hnx : nextP (l.map (·.c)) ((xn : Int), (yn : Int)) = x.c.items.zip y.c.items := by unfold nextP; rw [at_map hx, at_map hy]
 cases n with
 | zero => omega
 | succ n =>
 unfold bfsF at hbf
 rw [hq] at hbf
 simp only [hoke, hnx] at hbf
 cases hal : alikeB x.c y.c with
 | false =>
  rw [hal] at hbf
  rw [← hbf]
  refine wX ?_
  rfl
 | true =>
 rw [hal, if_pos rfl] at hbf
 have h5 := (alike_to hal).2.2.2.2
 have hzl : (x.c.items.zip y.c.items).length = x.c.items.length := by rw [List.length_zip]; omega
 have hzi : ∀ q ∈ x.c.items.zip y.c.items, InP (l.map (·.c)) q := fun q h => next_in hin hqi (by rw [hnx]; exact h)
 refine wX ?_
 refine LoopN.intro RSt (fun ⟨k, L2, _, _, S2⟩ => k ≤ x.c.items.length ∧ L2 = ((x.c.items.zip y.c.items).take k).foldl push L ∧ SeenS (l.map (·.c)) L2 S2) (fun ⟨k, L2, lb, cap, S2⟩ => mkS Tryz.f46.ntmps 0 [(0, .c (.v (.slice a l.length ca))), (7, .c (.v (.slice (some ⟨sb, 0, none⟩) (l.length * l.length) (l.length * l.length)))), (8, .c (.v (.slice (some ⟨lb, 0, none⟩) L2.length cap))), (9, .c (.v (.int .i64 (i : Int)))), (10, .c (.lp 3 0)), (11, .c (.lp 4 0)), (12, .c (.v (.int .i64 (k : Int))))])
  (fun ⟨k, L2, lb, cap, S2⟩ => [.fact (GrF a l), .app 4 1 (blC S2) (some ⟨sb, 0, none⟩) (l.length * l.length) (l.length * l.length), .app 119 2 (pC L2) (some ⟨lb, 0, none⟩) L2.length cap, .blk 87 (vs (cellC x)), .blk 87 (vs (cellC y))]) (fun ⟨k, _, _, _, _⟩ => x.c.items.length - k) [] rfl (fun ⟨_, _, _, _, _⟩ => rfl) (fun ⟨_, _, _, _, _⟩ => rfl) (fun ⟨_, _, _, _, _⟩ _ => okHB_eq rfl) ?_ ?_
 ·refine ⟨⟨0, L, lb2, cap2, S⟩, ⟨Nat.zero_le _, rfl, hSS⟩, ?_, wkE_refl _, wkE_refl _, wkE_refl _, wkE_refl _, wkE_refl _, trivial⟩
  exact wKK
 rintro ⟨k, L2, lb3, cap3, S2⟩ ⟨hk, hL2, hS2⟩
 have hpu := pushes (g := l.map (·.c)) ((x.c.items.zip y.c.items).take k) L hnd
 rw [← hL2] at hpu
 obtain ⟨hnd2, ⟨rr, hrr⟩, _, hmem2⟩ := hpu
 have hLi2 : ∀ q ∈ L2, InP (l.map (·.c)) q := fun q h => (hmem2 q h).elim (hLi q) (fun h => hzi q (List.mem_of_mem_take h))
 have hLl2 : L2.length ≤ l.length * l.length := by have := nodup_le hnd2 (b := allP (l.map (·.c)).length) (fun q hq => mem_allP (hLi2 q hq)); rw [allP_len, hgl] at this; exact this
 refine wX ?_
 refine brd_dec (fun h6 => ?_) (fun h6 => ?_)
 rotate_left
 ·have hkl : k = x.c.items.length := by omega
  subst hkl
  rw [List.take_of_length_le (by omega)] at hL2
  rw [← hL2] at hbf
  refine wX ?_
  refine ⟨⟨i + 1, L2, lb3, cap3, S2⟩, ⟨by rw [hrr, List.length_append]; omega, hnd2, hLi2, hS2, n, hbf, by omega⟩, by show l.length * l.length + 1 - (i + 1) < l.length * l.length + 1 - i; omega, ?_, wkE_refl _, wkE_refl _, wkE_refl _, trivial⟩
  exact wKK
 obtain ⟨xi, hxi⟩ : ∃ z, x.c.items[k]? = some z := ⟨_, List.getElem?_eq_getElem (by omega)⟩
 obtain ⟨yi, hyi⟩ : ∃ z, y.c.items[k]? = some z := ⟨_, List.getElem?_eq_getElem (by omega)⟩
 have hxa : x.ia.isSome = true := by
  cases hq : x.ia with
  | none => rw [hxo.ia hq] at hxi; cases hxi
  | some b => rfl
 have hya : y.ia.isSome = true := by
  cases hq : y.ia with
  | none => rw [hyo.ia hq] at hyi; cases hyi
  | some b => rfl
 have hz : (x.c.items.zip y.c.items)[k]? = some (xi, yi) := List.getElem?_zip_eq_some.2 ⟨hxi, hyi⟩
 have hpi := hzi _ (List.mem_of_getElem? hz)
 obtain ⟨xm, rfl⟩ : ∃ n : Nat, xi = (n : Int) := ⟨xi.toNat, by have := hpi.1; simp only at this; omega⟩
 obtain ⟨ym, rfl⟩ : ∃ n : Nat, yi = (n : Int) := ⟨yi.toNat, by have := hpi.2; simp only at this; omega⟩
 have hxl : xm < l.length := by have := hpi.1.2; simp only [List.length_map] at this; omega
 have hyl : ym < l.length := by have := hpi.2.2; simp only [List.length_map] at this; omega
 have hsg := hS2.get _ hpi
 rw [hgl, show idxP l.length ((xm : Int), (ym : Int)) = xm * l.length + ym from rfl] at hsg
 obtain ⟨hiw1, hiw2⟩ := hiw xm ym hxl hyl
 refine wX ?_
 refine Nd.mk ⟨hxa, by omega, by omega⟩ ?_
 refine wX ?_
 refine LdN.one (.int .i64 (xm : Int)) rfl (fun w hw => (hw.1.2 x hxm).2) (by rw [Int.toNat_natCast]; show (iC x.c.items)[k * 1]? = _; rw [Nat.mul_one]; exact iC_get hxi) ?_
 refine wX ?_
 refine Nd.mk ⟨hya, by omega, by omega⟩ ?_
 refine wX ?_
 refine LdN.one (.int .i64 (ym : Int)) rfl (fun w hw => (hw.1.2 y hym).2) (by rw [Int.toNat_natCast]; show (iC y.c.items)[k * 1]? = _; rw [Nat.mul_one]; exact iC_get hyi) ?_
 refine wX ?_
 rw [hiw1]
 refine Nd.mk ⟨rfl, by omega, by omega⟩ ?_
 refine wX ?_
 refine LdN.one (a := some ⟨sb, 0, none⟩) (.bool (decide (((xm : Int), (ym : Int)) ∈ L2))) rfl (fun w hw => hw.2.1) (by rw [Int.toNat_natCast]; show (blC S2)[(xm * l.length + ym) * 1]? = _; rw [Nat.mul_one]; exact blC_get hsg) ?_
 have hnext : ((x.c.items.zip y.c.items).take (k + 1)).foldl push L = push L2 ((xm : Int), (ym : Int)) := by
  rw [List.take_add_one, hz, List.foldl_append, ← hL2]
  rfl
 cases hin2 : decide (((xm : Int), (ym : Int)) ∈ L2) with
 | true =>
  have hpl : push L2 ((xm : Int), (ym : Int)) = L2 := by unfold push; rw [if_pos (of_decide_eq_true hin2)]
  rw [hpl] at hnext
  refine wX ?_
  refine ⟨⟨k + 1, L2, lb3, cap3, S2⟩, ⟨by omega, hnext.symm, hS2⟩, by show x.c.items.length - (k + 1) < x.c.items.length - k; omega, ?_, wkE_refl _, wkE_refl _, wkE_refl _, wkE_refl _, wkE_refl _, trivial⟩
  exact wKK
 | false =>
  have hni : ¬ ((xm : Int), (ym : Int)) ∈ L2 := of_decide_eq_false hin2
  have hpl : push L2 ((xm : Int), (ym : Int)) = L2 ++ [((xm : Int), (ym : Int))] := by unfold push; rw [if_neg hni]
  rw [hpl] at hnext
  have hS3 := hS2.put hpi
  rw [hgl, show idxP l.length ((xm : Int), (ym : Int)) = xm * l.length + ym from rfl] at hS3
  have hSl : S2.length = l.length * l.length := by rw [hS2.len, hgl]
  refine wX ?_
  refine Nd.mk ⟨rfl, by omega, by omega⟩ ?_
  refine wX ?_
  refine EffW.appTo (i := 1) (q := xm * l.length + ym) (ys := [.bool true]) (blC (S2.set (xm * l.length + ym) true)) 1 rfl (by rw [Int.toNat_natCast]; show AV.c (CV.v (Value.pointer (some ((⟨sb, 0, none⟩ : Addr).add ((xm * l.length + ym) * 1))))) = _; rw [add_lit0, Nat.mul_one]) rfl rfl rfl rfl rfl (by show _ + 1 ≤ _ * 1; omega) (by rw [put_set _ (by simp [blC]; omega), blC_set]) rfl ?_
  generalize S2.set (xm * l.length + ym) true = S3 at *
  refine wX ?_
  refine DrawN.plan [0, 1, 3, 6, 8] [(2, 1), (4, 1), (5, 1), (7, 1), (9, 1), (10, 1), (11, 1), (12, 0)] [(13, 0), (14, 0)] (by decide +kernel) ?_
  refine wX ?_
  refine Nd.mk ⟨hxa, by omega, by omega⟩ ?_
  refine wX ?_
  refine LdN.one (.int .i64 (xm : Int)) rfl (fun w hw => (hw.1.2 x hxm).2) (by rw [Int.toNat_natCast]; show (iC x.c.items)[k * 1]? = _; rw [Nat.mul_one]; exact iC_get hxi) ?_
  refine wX ?_
  refine Nd.mk ⟨hya, by omega, by omega⟩ ?_
  refine wX ?_
  refine LdN.one (.int .i64 (ym : Int)) rfl (fun w hw => (hw.1.2 y hym).2) (by rw [Int.toNat_natCast]; show (iC y.c.items)[k * 1]? = _; rw [Nat.mul_one]; exact iC_get hyi) ?_
  refine wX ?_
  try refine Nd.mk ⟨Nat.le_refl 1, rfl, rfl⟩ ?_
  (conv => whnf)
  refine AppN.grow 2 (pC L2) [.int .i64 (xm : Int), .int .i64 (ym : Int)] rfl rfl ⟨Nat.le_refl 1, ⟨by show (L2.length + 1) * 16 ≤ _; omega, by omega⟩, by decide⟩ fun lb4 cap4 hc4 _ => ?_
  have hps := pC_snoc L2 ((xm : Int), (ym : Int))
  rw [show pC L2 ++ [Value.int .i64 (xm : Int), .int .i64 (ym : Int)] = pC (L2 ++ [((xm : Int), (ym : Int))]) from hps, show L2.length + 1 = (L2 ++ [((xm : Int), (ym : Int))]).length by simp]
  refine wX ?_
  refine ⟨⟨k + 1, L2 ++ [((xm : Int), (ym : Int))], lb4, cap4, S3⟩, ⟨by omega, hnext.symm, hS3⟩, by show x.c.items.length - (k + 1) < x.c.items.length - k; omega, ?_, wkE_refl _, wkE_refl _, wkE_refl _, wkE_refl _, wkE_refl _, trivial⟩
  exact wKK
end Go.Proofs.YtgogonnnojcioaaGreatDoor
namespace Go.Core
theorem ask2 {g : List Cell} {u v : Int} : AskP g [u, v] ↔ AskP g [u] ∧ AskP g [v] := by
 constructor
 ·intro h
  exact ⟨⟨h.1, fun x hx => h.2 x (by rw [List.mem_singleton.1 hx]; simp)⟩, h.1, fun x hx => h.2 x (by rw [List.mem_singleton.1 hx]; simp)⟩
 ·intro ⟨h1, h2⟩
  refine ⟨h1.1, fun x hx => ?_⟩
  rcases List.mem_cons.1 hx with rfl | hx
  ·exact h1.2 x (by simp)
  ·exact h2.2 x hx
end Go.Core
namespace Go.Proofs.YtgogonnnojcioaaGreatDoor
open Go.AX Go.RowKit Go.Core
set_option maxRecDepth 20000
theorem ask_bool (g : List Cell) (cs : List Int) : ∃ b : Bool, b = true ↔ AskP g cs := by
 by_cases h : AskP g cs
 ·exact ⟨true, fun _ => h, fun _ => rfl⟩
 ·exact ⟨false, (fun h => by cases h), fun h2 => absurd h2 h⟩
theorem REqual_c {a : Option Addr} (ca : Nat) {l : List CellP} (ha : a = none → l = []) (hs : Small l) (hok : ∀ p ∈ l, CellOk p) (u v : Int) :
  ∀ H, (∀ w, Facts H w → GrF a l w) → ∃ e : Bool, (e = true ↔ AskP (l.map (·.c)) [u, v]) ∧ SpecH Tryz.prog 20 (pvs [.slice a l.length ca, .int .i64 u, .int .i64 v]) H (Ret (.tuple #[.bool (e && sameB (l.map (·.c)) (u, v)), errI e]) H) := by
 intro H hH
 obtain ⟨e, he⟩ := ask_bool (l.map (·.c)) [u, v]
 have hl := hs.1
 refine ⟨e, he, ?_⟩
 refine factC hm Tryz.func20 (by kernel_rfl) rfl rfl ?_ H hH
 refine wX ?_
 obtain ⟨t, ht1, ht2⟩ := RIs_c a ca l ha (by omega) hok u [.fact (GrF a l)] (fun w hw => hw.1)
 obtain ⟨t2, ht3, ht4⟩ := RIs_c a ca l ha (by omega) hok v [.fact (GrF a l)] (fun w hw => hw.1)
 have hee : e = (t && t2) := by rw [Bool.eq_iff_iff, he, ask2, Bool.and_eq_true, ht1, ht3]
 refine call1 ht2 ?_
 cases t with
 | false =>
  subst hee
  refine wX ?_
  rfl
 | true =>
 refine wX ?_
 refine call1 ht4 ?_
 cases t2 with
 | false =>
  subst hee
  refine wX ?_
  rfl
 | true =>
 obtain rfl : e = true := hee
 have hask := he.1 rfl
 have hu := hask.2 u (by simp)
 have hv := hask.2 v (by simp)
 have hgl : (l.map (·.c)).length = l.length := by simp
 obtain ⟨un, rfl⟩ : ∃ n : Nat, u = (n : Int) := ⟨u.toNat, by omega⟩
 obtain ⟨vn, rfl⟩ : ∃ n : Nat, v = (n : Int) := ⟨v.toNat, by omega⟩
 refine wX ?_
 refine call1 (requal_c ca ha hs hok hask.1 un vn (by omega) (by omega) _ (fun w hw => hw.1)) ?_
 refine wX ?_
 rfl
end Go.Proofs.YtgogonnnojcioaaGreatDoor
namespace Go.Proofs.YtgogonnnojcioaaGreatDoor
open Go.AX Go.RowKit Go.Core
set_option maxRecDepth 20000
set_option maxHeartbeats 4000000 in
theorem Reach_c {a : Option Addr} (ca : Nat) {l : List CellP} (ha : a = none → l = []) (hs : Small l) (hok : ∀ p ∈ l, CellOk p) (u : Int) :
  ∃ e : Bool, (e = true ↔ AskP (l.map (·.c)) [u]) ∧ SpecF Tryz.prog 33 [.slice a l.length ca, .int .i64 u] (GrF a l) (IntE e (if e then reachL (l.map (·.c)) u else [])) := by
 obtain ⟨e, he⟩ := ask_bool (l.map (·.c)) [u]
 refine ⟨e, he, ?_⟩
 refine specF hm Tryz.func33 (by kernel_rfl) rfl rfl ?_
 refine wXR ?_
 refine RwN.known [.int .i64 u] rfl fun rb => ?_
 refine wXR ?_
 obtain ⟨t, ht1, ht2⟩ := asked_c a ca l ha hs hok (some ⟨rb, 0, none⟩) 1 [u] (fun h => by cases h) (by simp) [.fact (GrF a l), .app 3 1 [.int .i64 u] (some ⟨rb, 0, none⟩) 1 1] (fun w hw => ⟨hw.1, hw.2.1⟩)
 obtain rfl : t = e := by rw [Bool.eq_iff_iff, ht1, he]
 refine call1 ht2 ?_
 cases t with
 | false =>
  refine wX ?_
  exact fin_p (fun _ => True) ⟨_, _, rfl, fun _ => rfl, fun w _ => SlAt.nil⟩ fun w hw => trivial
 | true =>
  have hask := he.1 rfl
  have hin := valid_in hask.1
  refine wX ?_
  refine SpecF.call (reach_c ca ha hs hok hin u (hask.2 u (by simp))) (fun w hw => hw.1) fun v G hv => ?_
  obtain ⟨oa, oc, rfl, hoa, hG⟩ := hv
  refine wX ?_
  exact fin_p G ⟨oa, oc, rfl, hoa, hG⟩ fun w hw => hw.2.2.1
end Go.Proofs.YtgogonnnojcioaaGreatDoor
namespace Go.AX
theorem bs_inj2 {a b : List UInt8} (h : bs a = bs b) : a = b := by
 have := congrArg (fun x : ByteArray => x.data.toList) h
 simpa [bs] using this
theorem bs_beq (a b : List UInt8) : (bs a == bs b) = decide (a = b) := by
 rw [Bool.eq_iff_iff, MapKept.bytes_beq, decide_eq_true_eq]
 exact ⟨bs_inj2, fun h => by rw [h]⟩
theorem findNow_seekS (k : List UInt8) : ∀ (es : List MapEntry) (R : List (List UInt8 × Value)) (i : Nat), KeysAre (fun k => .string (bs k)) es R → Instr.findNow .string (.string (bs k)) es i = some (seek k R i)
 | [], [], _, _ => rfl
 | [], _ :: _, _, h => by cases h
 | _ :: _, [], _, h => by cases h
 | e :: es, (q, x) :: R, i, h => by
  unfold KeysAre at h
  simp only [List.map_cons, List.cons.injEq, Prod.mk.injEq] at h
  have ih := findNow_seekS k es R (i + 1) h.2
  unfold seek
  rw [Instr.findNow, h.1.1]
  have hb := bs_beq k q
  by_cases hk : k = q
  ·subst hk
   rw [decide_eq_true rfl] at hb
   simp [Instr.sameNow, h.1.2, hb]
  ·rw [decide_eq_false hk] at hb
   simp [Instr.sameNow, hb, hk, ih]
theorem strKeyT {P : Program} {kt : TypeId} (h : P.underlying kt = some .string) : KeyT P kt (fun k : List UInt8 => .string (bs k)) where
 check := fun w e k => MapKept.run_checkKey (k := .string (bs k)) h (by simp [MapKept.IsKey]) e 9999
 find := fun w k es R hr => MapKept.run_findKey h (findNow_seekS k es R 0 hr)
 stay := fun w k => MapKept.run_keyThatStays (d := .string) (k := .string (bs k)) (by simp [MapKept.IsKey])
section
variable {P : Program} {o : Oper} {s : List AV} {H : List Ent} {t kt et : TypeId} {m k : Operand} {b c : Nat} {es : Array MapEntry} {α : Type} [DecidableEq α] {enc : α → Value} {p : α}
theorem ReadW.askKey {K : AV → Prop} {inf : TypeInfo} {z : Value} (R : List (α × Value)) (ho : o.op = .lookup t m k true) (ht : P.underlying t = some (.map kt et)) (hkt : KeyT P kt enc) (hi : P.info? et = some inf) (hz : inf.zero = some z)
  (hm : opv s m = .c (.v (.map (some b)))) (hk : opv s k = .c (.v (enc p))) (hF : ∀ w, Facts H w → w.heap[b]? = some (.map es c)) (hf : KeysAre enc es.toList R) (h : K (.c (.v (.tuple #[(R.lookup p).getD z, .bool (R.lookup p).isSome])))) : ReadW P o s H K :=
 ReadW.val (.tuple #[(R.lookup p).getD z, .bool (R.lookup p).isSome]) (fun cs b e => by rw [ho] at e; cases e) (by rw [ho]; show allPlain s [m, k] = true; simp [allPlain, hm, hk]) (fun w hw => by
  have hb := hF w hw
  have hc := hkt.check w es.isEmpty p
  have hj := hkt.find w p es.toList R hf
  have hlk := seek_look p R 0
  have hrun : (Instr.lookup t (.map (some b)) (enc p) true).run P w = .ok (.tuple #[(R.lookup p).getD z, .bool (R.lookup p).isSome]) w := by
   cases hr : seek p R 0 with
   | none => rw [hr] at hj hlk; rw [← hlk]; simp [Instr.lookup, run_underlying ht, MapKept.run_getObj_map hb, hc, hj, Result.andThen, run_zeroValue hi hz]
   | some q => rw [hr] at hj hlk; rw [← hlk]; simp [Instr.lookup, run_underlying ht, MapKept.run_getObj_map hb, hc, hj, Result.andThen]
  unfold execOp
  simp only [ho, plainEv_v hm, plainEv_v hk, Sem.run_bind, hrun, Result.andThen_ok, Sem.run_pure]) h
theorem ReadW.mapLen {K : AV → Prop} {x : Operand} {args : Array Operand} {ts : Array TypeId} (n : Nat) (ho : o.op = .call { callee := .builtin .len, args := args, argTypes := ts }) (ha : args = #[x]) (hts : ts = #[t]) (ht : P.underlying t = some (.map kt et))
  (hm : opv s x = .c (.v (.map (some b)))) (hF : ∀ w, Facts H w → w.heap[b]? = some (.map es c)) (hn : es.size = n) (h : K (.c (.v (.int .i64 (n : Int))))) : ReadW P o s H K := by
 subst ha hts
 refine ReadW.val (.int .i64 (n : Int)) (fun cs b e => by rw [ho] at e; cases e) (by rw [ho]; show allPlain s [x] = true; simp [allPlain, hm]) (fun w hw => execOp_blt ho fun consts => ?_) h
 have hb := hF w hw
 have e1 : plainEv s x = .map (some b) := plainEv_v hm
 simp [builtin, Builtin.len_, run_underlying ht, e1, MapKept.run_getObj_map hb, goInt, hn, Result.andThen]
end
theorem KeysAre.len {α : Type} {enc : α → Value} {es : List MapEntry} {R : List (α × Value)} (h : KeysAre enc es R) : es.length = R.length := by
 have := congrArg List.length h
 simpa using this
end Go.AX
namespace Go.Proofs.YtgogonnnojcioaaGreatDoor
open Go.AX Go.RowKit Go.Core Go.Marshal
set_option maxRecDepth 20000
def bM (u : Bool) : CV := match u with | true => .lp 0 1 | false => .v (.pointer none)
structure MapP where
 ce : Array MapEntry
 cc : Nat
 se : Array MapEntry
 sc : Nat
def wM (gv : Value) (F : World → Prop) (u : Bool) (out : List UInt8) (i : BSt) (mb sb : Nat) (q : MapP) : List Ent :=
 [.blk 69 [.v gv, bM u, .v (.slice (at0 i.ob) out.length i.cap), .v (.map (some mb)), .v (.map (some sb))], .app 5 1 (u8s out) (at0 i.ob) out.length i.cap, .mp mb q.ce q.cc, .mp sb q.se q.sc, .fact F]
theorem wM_ok (gv : Value) (F : World → Prop) (u : Bool) (out : List UInt8) (i : BSt) (mb sb : Nat) (q : MapP) : okH (wM gv F u out i mb sb q).length (wM gv F u out i mb sb q) := by cases u <;> exact okHB_eq rfl
variable (gv : Value) (F : World → Prop) (mb sb : Nat) (q : MapP)
theorem copyCheck_m (u : Bool) (out : List UInt8) (i : BSt) : SpecH Tryz.prog 55 [.c (.lp 0 1)] (wM gv F u out i mb sb q) (RetG (ι := Unit) (fun _ => True) (fun _ => .tuple #[]) fun _ => wM gv F true out i mb sb q) := by
 refine ownC hm Tryz.func55 (by kernel_rfl) rfl rfl (fun _ _ => wM_ok _ _ _ _ _ _ _ _) (fun _ _ => Nat.le_refl _) ?_
 cases u with
 | false =>
  refine wX ?_
  refine ReadW.toUnsafe 67 rfl (by kernel_rfl) (by kernel_rfl) (by kernel_rfl) rfl rfl (Nat.succ_lt_succ (Nat.zero_lt_succ _)) ?_
  refine wX ?_
  refine EffW.ext (e := Extern.AbiNoEscape.same) rfl Tryz.func82 (by kernel_rfl) (by kernel_rfl) (by kernel_rfl) (by kernel_rfl) (.c (.lp 0 1)) ?_ ?_
  ·refine wX ?_
   refine ReadW.fromUnsafe 67 rfl (by kernel_rfl) (by kernel_rfl) (by kernel_rfl) rfl rfl (by show liesAt _ _ _ (5 / _) _ _ _ = true; kernel_rfl) ?_
   refine wX ?_
   exact ⟨(), trivial, rfl, wkH_refl _⟩
  ·intro ρ vs hr
   match vs, hr with
   | [v], hr => exact ⟨v, hr.1, fun w => rfl⟩
   | [], hr => exact hr.elim
   | _ :: _ :: _, hr => exact hr.2.elim
 | true =>
  refine wX ?_
  refine ReadW.lp_nil rfl (by kernel_rfl) rfl rfl false (.inl ⟨rfl, rfl⟩) ?_
  refine wX ?_
  refine ReadW.lp_same rfl (by kernel_rfl) rfl rfl false (.inr ⟨rfl, rfl⟩) ?_
  refine wX ?_
  exact ⟨(), trivial, rfl, wkH_refl _⟩
theorem WriteString_m (u : Bool) (l x : List UInt8) (i0 : BSt) (ok : i0.ok l.length) (room : l.length + x.length ≤ 140737488355328) : SpecH Tryz.prog 34 [.c (.lp 0 1), .c (.v (.string (bs x)))] (wM gv F u l i0 mb sb q)
  (RetG (ι := BSt) (fun i => i.ok (l ++ x).length) (fun _ => .tuple #[.int .i64 x.length, .nilIface]) fun i => wM gv F true (l ++ x) i mb sb q) := by
 refine ownC hm Tryz.func34 (by kernel_rfl) rfl rfl (fun _ _ => wM_ok _ _ _ _ _ _ _ _) (fun _ _ => Nat.le_refl _) ?_
 cases u with
 | false =>
  refine wX ?_
  refine callG (copyCheck_m gv F mb sb q false l i0) [0, 1, 2, 3, 4] rfl ⟨rfl, rfl, rfl, rfl, rfl, trivial⟩ rfl fun _ _ => ?_
  refine wX ?_
  refine EffW.appStr 1 rfl rfl rfl (by kernel_rfl) (by kernel_rfl) (by kernel_rfl) rfl rfl rfl (by rw [bs_size]; exact room) fun ob' cap' h1 h2 h3 => ?_
  rw [bs_size, bs_list] at *
  refine wX ?_
  refine ⟨⟨ob', cap'⟩, ⟨by simpa using h1, by simpa using h2, fun h => ?_⟩, by rw [bs_size], ?_⟩
  ·obtain ⟨h4, h5⟩ := h3 h
   have := ok.2.2 h4
   rw [this] at h5
   cases ob' with
   | none => rfl
   | some _ => cases h5
  ·exact wkH_of_eq (by simp [wM, u8s, bM, rnC, rnCs, rnI, rnE])
 | true =>
  refine wX ?_
  refine callG (copyCheck_m gv F mb sb q true l i0) [0, 1, 2, 3, 4] rfl ⟨rfl, rfl, rfl, rfl, rfl, trivial⟩ rfl fun _ _ => ?_
  refine wX ?_
  refine EffW.appStr 1 rfl rfl rfl (by kernel_rfl) (by kernel_rfl) (by kernel_rfl) rfl rfl rfl (by rw [bs_size]; exact room) fun ob' cap' h1 h2 h3 => ?_
  rw [bs_size, bs_list] at *
  refine wX ?_
  refine ⟨⟨ob', cap'⟩, ⟨by simpa using h1, by simpa using h2, fun h => ?_⟩, by rw [bs_size], ?_⟩
  ·obtain ⟨h4, h5⟩ := h3 h
   have := ok.2.2 h4
   rw [this] at h5
   cases ob' with
   | none => rfl
   | some _ => cases h5
  ·exact wkH_of_eq (by simp [wM, u8s, bM, rnC, rnCs, rnI, rnE])
theorem String_m (u : Bool) (l : List UInt8) (i0 : BSt) (ok : i0.ok l.length) : SpecH Tryz.prog 36 [.c (.lp 0 1)] (wM gv F u l i0 mb sb q)
  (RetG (ι := Unit) (fun _ => True) (fun _ => .string (bs l)) fun _ => [.dead, .dead, .dead, .dead, .fact F]) := by
 refine ownC hm Tryz.func36 (by kernel_rfl) rfl rfl (fun _ _ => ⟨trivial, trivial, trivial, trivial, trivial, trivial⟩) (fun _ _ => Nat.le_refl _) ?_
 refine wX ?_
 refine DrawN.plan [0, 5] [(1, 1), (2, 1), (3, 1), (4, 1), (6, 1), (7, 1), (8, 1), (9, 1)] [(10, 0), (11, 0)] (by decide +kernel) ?_
 refine wX ?_
 refine ReadW.sliceData rfl rfl rfl (fun h h2 => h (ok.2.2 h2)) ?_
 refine wX ?_
 refine EffW.usStr 1 l rfl rfl rfl rfl (by kernel_rfl) (by kernel_rfl) rfl rfl rfl ?_
 refine wX ?_
 exact ⟨(), trivial, rfl, trivial, trivial, trivial, trivial, fun _ h => h, trivial⟩
theorem WriteByte_m (u : Bool) (l : List UInt8) (x : UInt8) (i0 : BSt) (room : l.length + 1 ≤ 140737488355328) : SpecH Tryz.prog 56 [.c (.lp 0 1), .c (.v (.int .u8 (x.toNat : Int)))] (wM gv F u l i0 mb sb q)
  (RetG (ι := BSt) (fun i => i.ok (l ++ [x]).length) (fun _ => .nilIface) fun i => wM gv F true (l ++ [x]) i mb sb q) := by
 refine ownC hm Tryz.func56 (by kernel_rfl) rfl rfl (fun _ _ => wM_ok _ _ _ _ _ _ _ _) (fun _ _ => Nat.le_refl _) ?_
 cases u with
 | false =>
  refine wX ?_
  refine callG (copyCheck_m gv F mb sb q false l i0) [0, 1, 2, 3, 4] rfl ⟨rfl, rfl, rfl, rfl, rfl, trivial⟩ rfl fun _ _ => ?_
  refine wX ?_
  refine Nd.mk ⟨by omega, rfl, rfl⟩ ?_
  (conv => whnf)
  refine AppN.grow 1 (u8s l) _ rfl rfl ⟨by omega, ⟨by show (_ + 1) * 1 ≤ _; omega, by omega⟩, by decide⟩ fun b' cap' h1 h2 => ?_
  refine wX ?_
  have e1 : u8s l ++ [.int .u8 (x.toNat : Int)] = u8s (l ++ [x]) := by simp [u8s]
  have e2 : l.length + 1 = (l ++ [x]).length := by simp
  rw [e1, e2]
  exact ⟨⟨some b', cap'⟩, ⟨(fun h => by cases h), by simpa using h1, fun h => by have h : cap' = 0 := h; omega⟩, rfl, wkE_refl _, wkE_refl _, wkE_refl _, wkE_refl _, wkE_refl _, trivial⟩
 | true =>
  refine wX ?_
  refine callG (copyCheck_m gv F mb sb q true l i0) [0, 1, 2, 3, 4] rfl ⟨rfl, rfl, rfl, rfl, rfl, trivial⟩ rfl fun _ _ => ?_
  refine wX ?_
  refine Nd.mk ⟨by omega, rfl, rfl⟩ ?_
  (conv => whnf)
  refine AppN.grow 1 (u8s l) _ rfl rfl ⟨by omega, ⟨by show (_ + 1) * 1 ≤ _; omega, by omega⟩, by decide⟩ fun b' cap' h1 h2 => ?_
  refine wX ?_
  have e1 : u8s l ++ [.int .u8 (x.toNat : Int)] = u8s (l ++ [x]) := by simp [u8s]
  have e2 : l.length + 1 = (l ++ [x]).length := by simp
  rw [e1, e2]
  exact ⟨⟨some b', cap'⟩, ⟨(fun h => by cases h), by simpa using h1, fun h => by have h : cap' = 0 := h; omega⟩, rfl, wkE_refl _, wkE_refl _, wkE_refl _, wkE_refl _, wkE_refl _, trivial⟩
end Go.Proofs.YtgogonnnojcioaaGreatDoor
namespace Go.Marshal
open Go.Core
def cutS (st : St) (t : B) : St := { st with s := t }
def LocS {α : Type} (F : St → Except Int (α × St)) : Prop := ∀ st a st', F st = .ok (a, st') → ∃ u, st.s = u ++ st'.s ∧ (∀ t, F (cutS st (u ++ t)) = .ok (a, cutS st' t)) ∧ ∀ v w, u = v ++ w → w ≠ [] → F (cutS st v) = .error 14
theorem LocS.ret {α : Type} (a : α) : LocS fun st => .ok (a, st) := fun st a' st' h => by
 cases h
 exact ⟨[], rfl, fun _ => rfl, fun v w e hw => absurd (List.append_eq_nil_iff.1 e.symm).2 hw⟩
theorem LocS.err {α : Type} (e : Int) : LocS (fun _ => (.error e : Except Int (α × St))) := fun st a' st' h => by cases h
theorem LocS.bnd {α β : Type} {F : St → Except Int (α × St)} {G : α → St → Except Int (β × St)} (hF : LocS F) (hG : ∀ a, LocS (G a)) : LocS fun st => bnd (F st) G := by
 intro st b st2 h
 cases hf : F st with
 | error e => simp only [hf] at h; cases h
 | ok p =>
  obtain ⟨a, st1⟩ := p
  simp only [hf] at h
  obtain ⟨u, e1, e2, e3⟩ := hF st a st1 hf
  obtain ⟨v, f1, f2, f3⟩ := hG a st1 b st2 h
  refine ⟨u ++ v, by rw [e1, f1, List.append_assoc], fun t => ?_, fun x w e hw => ?_⟩
  ·show Marshal.bnd (F _) G = _
   rw [List.append_assoc, e2]
   exact f2 t
  ·rcases app_cut e with ⟨z, hz, hz2⟩ | ⟨z, hz, hz2⟩
   ·show Marshal.bnd (F _) G = _
    rw [e3 x z hz hz2]
    rfl
   ·show Marshal.bnd (F _) G = _
    rw [hz, e2]
    exact f3 z w hz2 hw
theorem LocS.next : LocS nextS := by
 intro st a st' h
 unfold nextS at h
 split at h
 ·cases h
 ·rename_i x s hs
  cases h
  refine ⟨[a], hs, fun _ => rfl, fun v w e hw => ?_⟩
  cases v with
  | nil => rfl
  | cons y v =>
   injection e with _ e
   exact absurd (List.append_eq_nil_iff.1 e.symm).2 hw
theorem LocS.num (most : Nat) : LocS (numS most) := by
 intro st a st' h
 unfold numS at h
 split at h
 ·cases h
 ·rename_i n r hr
  cases h
  obtain ⟨u, e1, e2, e3⟩ := rd_loc most _ _ _ hr
  refine ⟨u, e1, fun t => ?_, fun v w e hw => ?_⟩
  ·unfold numS cutS
   simp only [e2]
  ·unfold numS cutS
   simp only [e3 v w e hw]
theorem LocS.text (most : Nat) : LocS (textS most) := by
 intro st a st' h
 unfold textS at h
 split at h
 ·cases h
 ·rename_i n r hr
  cases h
  obtain ⟨u, e1, e2, e3⟩ := rdT_loc most _ _ _ hr
  refine ⟨u, e1, fun t => ?_, fun v w e hw => ?_⟩
  ·unfold textS cutS
   simp only [e2]
  ·unfold textS cutS
   simp only [e3 v w e hw]
theorem LocS.sym (x : UInt8) : LocS (symS x) := by
 intro st a st' h
 unfold symS at h
 split at h
 ·cases h
 ·rename_i t ss r hr
  cases h
  obtain ⟨u, e1, e2, e3⟩ := rdSym_loc x st.ss _ _ _ _ hr
  refine ⟨u, e1, fun t => ?_, fun v w e hw => ?_⟩
  ·unfold symS cutS
   simp only [e2]
  ·unfold symS cutS
   simp only [e3 v w e hw]
theorem LocS.ite {α : Type} {P : Prop} [Decidable P] {F G : St → Except Int (α × St)} (hF : LocS F) (hG : LocS G) : LocS fun st => if P then F st else G st := by
 by_cases h : P
 ·simp only [if_pos h]; exact hF
 ·simp only [if_neg h]; exact hG
theorem LocS.items {f : St → Except Int (Int × St)} (hf : LocS f) : ∀ (n : Nat) (l : List Int), LocS (itemsA f n l)
 | 0, l => LocS.ret l
 | n + 1, l => LocS.bnd hf fun i => LocS.items hf n (l ++ [i])
theorem LocS.attrs {f : St → Except Int (Int × St)} (hf : LocS f) : ∀ (n : Nat) (ns : List B) (l : List Int), LocS (attrsA f n ns l)
 | 0, ns, l => LocS.ret (ns, l)
 | n + 1, ns, l => LocS.bnd LocS.next fun x => LocS.bnd (LocS.sym x) fun t => LocS.ite (LocS.bnd hf fun i => LocS.attrs hf n (ns ++ [t]) (l ++ [i])) (LocS.err 4)
theorem LocS.inner {f : St → Except Int (Int × St)} (hf : LocS f) (x : UInt8) : LocS (innerF f x) :=
 LocS.ite (LocS.ret _) <| LocS.ite (LocS.ret _) <| LocS.ite (LocS.ret _) <| LocS.ite (LocS.bnd (LocS.num _) fun _ => LocS.ret _) <| LocS.ite (LocS.bnd (LocS.text _) fun _ => LocS.ret _) <|
  LocS.ite (LocS.bnd (LocS.sym _) fun _ => LocS.ret _) <| LocS.ite (LocS.bnd (LocS.num _) fun n => LocS.bnd (LocS.items hf n []) fun _ => LocS.ret _) <|
  LocS.ite (LocS.bnd (LocS.num _) fun n => LocS.bnd (LocS.items hf (2 * n) []) fun _ => LocS.ret _) <|
  LocS.bnd LocS.next fun y => LocS.bnd (LocS.sym y) fun _ => LocS.ite (LocS.bnd (LocS.num _) fun n => LocS.bnd (LocS.attrs hf n [] []) fun _ => LocS.ret _) (LocS.err 4)
theorem LocS.wrap {α β : Type} {F : St → Except Int (α × St)} (hF : LocS F) (o : St → St) (ho : ∀ st t, o (cutS st t) = cutS (o st) t) (hs : ∀ st, (o st).s = st.s)
  (k : St → α → β) (hk : ∀ st t a, k (cutS st t) a = k st a) (e : St → α → St → St) (he : ∀ st t a st', e (cutS st t) a st' = e st a st') (hes : ∀ st a st', (e st a st').s = st'.s) (hec : ∀ st a st' t, e st a (cutS st' t) = cutS (e st a st') t) :
  LocS fun st => Marshal.bnd (F (o st)) fun a st' => .ok (k st a, e st a st') := by
 intro st b st2 h
 cases hf : F (o st) with
 | error x => simp only [hf] at h; cases h
 | ok p =>
  obtain ⟨a, st1⟩ := p
  simp only [hf] at h
  cases h
  obtain ⟨u, e1, e2, e3⟩ := hF _ a st1 hf
  refine ⟨u, by rw [← hs st, e1, hes], fun t => ?_, fun v w ee hw => ?_⟩
  ·show Marshal.bnd (F (o (cutS st (u ++ t)))) _ = _
   rw [ho, e2]
   show Except.ok _ = _
   rw [hk, he, hec]
  ·show Marshal.bnd (F (o (cutS st v))) _ = _
   rw [ho, e3 v w ee hw]
   rfl
theorem LocS.form : ∀ n : Nat, LocS (formF n)
 | 0 => LocS.err 99
 | n + 1 => by
  refine LocS.bnd LocS.next fun x => LocS.ite (LocS.bnd (LocS.num _) fun k => ?_) ?_
  ·intro st a st' h
   simp only at h
   split at h
   ·rename_i c hc
    cases h
    exact ⟨[], rfl, fun t => by simp only [cutS, hc]; rfl, fun v w e hw => absurd (List.append_eq_nil_iff.1 e.symm).2 hw⟩
   ·cases h
  ·have h1 : LocS fun st => Marshal.bnd (innerF (formF n) x (openS x st)) fun c st' => .ok ((st.g.length : Int), setS st.g.length c st') :=
    LocS.wrap (LocS.inner (LocS.form n) x) (openS x) (fun _ _ => rfl) (fun _ => rfl) (fun st _ => (st.g.length : Int)) (fun _ _ _ => rfl) (fun st c st' => setS st.g.length c st') (fun _ _ _ _ => rfl) (fun _ _ _ => rfl) (fun _ _ _ _ => rfl)
   intro st a st' h
   simp only at h
   split at h
   ·cases h
   ·rename_i hc
    obtain ⟨u, e1, e2, e3⟩ := h1 st a st' h
    refine ⟨u, e1, fun t => ?_, fun v w e hw => ?_⟩
    ·have := e2 t
     show (if 500 ≤ st.g.length ∨ x ∉ begins then _ else _) = _
     rw [if_neg hc]
     exact this
    ·have := e3 v w e hw
     show (if 500 ≤ st.g.length ∨ x ∉ begins then _ else _) = _
     rw [if_neg hc]
     exact this
theorem LocS.le {α : Type} {F : St → Except Int (α × St)} (h : LocS F) {st st' : St} {a : α} (e : F st = .ok (a, st')) : st'.s.length ≤ st.s.length := by
 obtain ⟨u, e1, _⟩ := h st a st' e
 rw [e1, List.length_append]; omega
theorem bnd_congr {α β : Type} {x : Except Int (α × St)} {G H : α → St → Except Int (β × St)} (h : ∀ a st, x = .ok (a, st) → G a st = H a st) : bnd x G = bnd x H := by
 cases x with
 | error e => rfl
 | ok p => obtain ⟨a, st⟩ := p; exact h a st rfl
theorem items_congr {f h : St → Except Int (Int × St)} (hf : LocS f) {m : Nat} (e : ∀ st, st.s.length ≤ m → f st = h st) : ∀ (n : Nat) (l : List Int) (st : St), st.s.length ≤ m → itemsA f n l st = itemsA h n l st
 | 0, _, _, _ => rfl
 | n + 1, l, st, hs => by
  unfold itemsA
  rw [← e st hs]
  exact bnd_congr fun i st1 h1 => items_congr hf e n _ st1 (Nat.le_trans (hf.le h1) hs)
theorem attrs_congr {f h : St → Except Int (Int × St)} (hf : LocS f) {m : Nat} (e : ∀ st, st.s.length ≤ m → f st = h st) : ∀ (n : Nat) (ns : List B) (l : List Int) (st : St), st.s.length ≤ m → attrsA f n ns l st = attrsA h n ns l st
 | 0, _, _, _, _ => rfl
 | n + 1, ns, l, st, hs => by
  unfold attrsA
  refine bnd_congr fun x st1 h1 => bnd_congr fun t st2 h2 => ?_
  have l1 := LocS.next.le h1
  have l2 := (LocS.sym x).le h2
  split
  ·rw [← e st2 (by omega)]
   exact bnd_congr fun i st3 h3 => attrs_congr hf e n _ _ st3 (by have := hf.le h3; omega)
  ·rfl
theorem inner_congr {f h : St → Except Int (Int × St)} (hf : LocS f) {m : Nat} (e : ∀ st, st.s.length ≤ m → f st = h st) (x : UInt8) (st : St) (hs : st.s.length ≤ m) : innerF f x st = innerF h x st := by
 unfold innerF
 split
 ·rfl
 split
 ·rfl
 split
 ·rfl
 split
 ·rfl
 split
 ·rfl
 split
 ·rfl
 split
 ·refine bnd_congr fun n st1 h1 => ?_
  rw [items_congr hf e n [] st1 (by have := (LocS.num _).le h1; omega)]
 split
 ·refine bnd_congr fun n st1 h1 => ?_
  rw [items_congr hf e (2 * n) [] st1 (by have := (LocS.num _).le h1; omega)]
 refine bnd_congr fun y st1 h1 => bnd_congr fun t st2 h2 => ?_
 have l1 := LocS.next.le h1
 have l2 := (LocS.sym y).le h2
 split
 ·refine bnd_congr fun n st3 h3 => ?_
  rw [attrs_congr hf e n [] [] st3 (by have := (LocS.num _).le h3; omega)]
 ·rfl
theorem form_stab : ∀ (n m : Nat) (st : St), st.s.length < n → st.s.length < m → formF n st = formF m st
 | 0, _, _, h, _ => by omega
 | _ + 1, 0, _, _, h => by omega
 | n + 1, m + 1, st, h1, h2 => by
  unfold formF
  refine bnd_congr fun x st1 h3 => ?_
  have hl : st1.s.length + 1 = st.s.length := by
   unfold nextS at h3
   split at h3
   ·cases h3
   ·rename_i y s hs
    cases h3
    rw [hs]; rfl
  split
  ·rfl
  split
  ·rfl
  rw [inner_congr (h := formF m) (LocS.form n) (m := st1.s.length) (fun st2 h4 => form_stab n m st2 (by omega) (by omega)) x (openS x st1) (Nat.le_refl _)]
noncomputable def formS (st : St) : Except Int (Int × St) := formF (st.s.length + 1) st
theorem formS_eq {n : Nat} {st : St} (h : st.s.length < n) : formS st = formF n st := form_stab _ _ _ (Nat.lt_succ_self _) h
end Go.Marshal
namespace Go.Marshal
open Go.Core
def Gone (w w' : Wr) : Prop := ∃ b cs ts, w' = ⟨w.out ++ b, w.cells ++ cs, w.ss ++ ts⟩
theorem Gone.refl (w : Wr) : Gone w w := ⟨[], [], [], by simp⟩
theorem Gone.trans {a b c : Wr} (h : Gone a b) (k : Gone b c) : Gone a c := by
 obtain ⟨x, y, z, rfl⟩ := h
 obtain ⟨p, q, r, rfl⟩ := k
 exact ⟨x ++ p, y ++ q, z ++ r, by simp⟩
theorem gone_put (w : Wr) (b : B) : Gone w (putW w b) := ⟨b, [], [], by simp [putW]⟩
theorem gone_sym (w : Wr) (t : B) : Gone w (symW w t) := by
 unfold symW
 split
 ·exact gone_put w _
 ·exact ⟨58 :: (num t.length ++ t), [], [t], by simp⟩
theorem gone_cell (w : Wr) (a : Int) : Gone w { w with cells := w.cells ++ [a] } := ⟨[], [a], [], by simp⟩
theorem gone_fold {α : Type} {f : Wr → α → Wr} (h : ∀ w x, Gone w (f w x)) : ∀ (l : List α) (w : Wr), Gone w (l.foldl f w)
 | [], w => Gone.refl w
 | x :: l, w => (h w x).trans (gone_fold h l (f w x))
theorem gone_write (g : List Cell) : ∀ (n : Nat) (w : Wr) (a : Int), Gone w (writeF g n w a)
 | 0, w, _ => Gone.refl w
 | n + 1, w, a => by
  unfold writeF
  simp only
  split
  ·exact gone_put _ _
  split
  ·exact gone_put _ _
  split
  ·exact gone_put _ _
  split
  ·exact gone_put _ _
  split
  ·exact gone_sym _ _
  split
  ·exact gone_put _ _
  refine (gone_cell w a).trans ?_
  split
  ·exact gone_put _ _
  split
  ·exact (gone_put _ _).trans (gone_fold (gone_write g n) _ _)
  split
  ·exact (gone_put _ _).trans (gone_fold (gone_write g n) _ _)
  ·refine (((gone_put _ _).trans (gone_sym _ _)).trans (gone_put _ _)).trans (gone_fold (fun w p => ?_) _ _)
   exact (gone_sym w p.1).trans (gone_write g n _ p.2)
theorem Gone.out {w w' : Wr} (h : Gone w w') : ∃ b, w'.out = w.out ++ b := by obtain ⟨b, _, _, rfl⟩ := h; exact ⟨b, rfl⟩
theorem Gone.sub {w w' : Wr} (h : Gone w w') : ∀ x ∈ w.cells, x ∈ w'.cells := by
 obtain ⟨_, cs, _, rfl⟩ := h
 exact fun x hx => List.mem_append_left _ hx
def wgt (F : Cell → Nat) (g : List Cell) (cs : List Int) : Nat := (((List.range g.length).filter fun (k : Nat) => !decide ((k : Int) ∈ cs)).map fun (k : Nat) => F (at_ g (k : Int))).sum
theorem wgt_drop (F : Cell → Nat) (g : List Cell) (p q : Nat → Bool) (a : Nat) (hpq : ∀ k, q k = (p k && !decide (k = a))) (hp : p a = true) : ∀ l : List Nat, l.Nodup → a ∈ l → ((l.filter q).map fun (k : Nat) => F (at_ g (k : Int))).sum + F (at_ g (a : Int)) = ((l.filter p).map fun (k : Nat) => F (at_ g (k : Int))).sum
 | [], _, h => by cases h
 | x :: l, hn, hm => by
  have hn2 := List.nodup_cons.1 hn
  rw [List.filter_cons, List.filter_cons]
  by_cases e : x = a
  ·subst e
   have hq : q x = false := by rw [hpq]; simp
   have hf : l.filter q = l.filter p := List.filter_congr fun k hk => by
    rw [hpq]
    have : k ≠ x := fun h => hn2.1 (h ▸ hk)
    simp [this]
   rw [hp, hq, hf, if_pos rfl, if_neg (by simp)]
   simp only [List.map_cons, List.sum_cons]; omega
  ·have ih := wgt_drop F g p q a hpq hp l hn2.2 ((List.mem_cons.1 hm).resolve_left (fun h => e h.symm))
   have hq : q x = p x := by rw [hpq]; simp [e]
   rw [hq]
   split
   ·simp only [List.map_cons, List.sum_cons]; omega
   ·exact ih
theorem wgt_new {F : Cell → Nat} {g : List Cell} {cs : List Int} {a : Int} (ha : InI g a) (hn : a ∉ cs) : wgt F g (cs ++ [a]) + F (at_ g a) = wgt F g cs := by
 have e : ((a.toNat : Nat) : Int) = a := by have := ha.1; omega
 have := wgt_drop F g (fun (k : Nat) => !decide ((k : Int) ∈ cs)) (fun (k : Nat) => !decide ((k : Int) ∈ cs ++ [a])) a.toNat (fun k => by
  have : (k = a.toNat) ↔ ((k : Int) = a) := by have := ha.1; omega
  rw [decide_eq_decide.2 this, ← Bool.not_or, ← Bool.decide_or]
  simp only [List.mem_append, List.mem_singleton]) (by simp only [e]; simp [hn]) (List.range g.length) List.nodup_range (List.mem_range.2 (by have := ha.1; have := ha.2; omega))
 rw [e] at this
 exact this
theorem wgt_le {F : Cell → Nat} {g : List Cell} {m : Nat} (h : ∀ i, InI g i → F (at_ g i) ≤ m) (cs : List Int) : wgt F g cs ≤ g.length * m := by
 have key : ∀ l : List Nat, (∀ k ∈ l, F (at_ g (k : Int)) ≤ m) → (l.map fun (k : Nat) => F (at_ g (k : Int))).sum ≤ l.length * m := by
  intro l
  induction l with
  | nil => exact fun _ => Nat.zero_le _
  | cons x l ih =>
   intro hl
   have h1 := hl x (by simp)
   have h2 := ih fun k hk => hl k (by simp [hk])
   rw [List.map_cons, List.sum_cons, List.length_cons, Nat.succ_mul]
   omega
 refine Nat.le_trans (key _ fun k hk => h _ ?_) (Nat.mul_le_mul_right m ?_)
 ·have := List.mem_range.1 (List.mem_filter.1 hk).1
  exact ⟨by omega, by omega⟩
 ·refine Nat.le_trans (List.length_filter_le _ _) ?_
  rw [List.length_range]
  exact Nat.le_refl _
structure CellW (K : Nat) (c : Cell) : Prop where
 kind : 0 ≤ c.kind ∧ c.kind ≤ 8
 num : c.kind = 3 → -(maxN : Int) ≤ c.num ∧ c.num ≤ (maxN : Int)
 num0 : c.kind ≠ 3 → c.num = 0
 text : c.text.length ≤ 2000 ∧ c.text.length + 30 ≤ K
 sym : c.kind = 5 → c.text.length ≤ 40
 cls : c.kind = 8 → Go.Scan.icB c.text = true ∧ c.text.length ≤ 40
 text0 : c.kind ≠ 4 → c.kind ≠ 5 → c.kind ≠ 8 → c.text = []
 leaf : c.kind ≤ 5 → c.items = [] ∧ c.names = []
 nam0 : c.kind ≠ 8 → c.names = []
 even : c.kind = 7 → c.items.length % 2 = 0
 lens : c.kind = 8 → c.names.length = c.items.length
 dup : c.names.Nodup
 nam : ∀ t ∈ c.names, Go.Scan.iiB t = true ∧ t.length ≤ 40
 len : c.items.length ≤ 2000
theorem put_len (w : Wr) (b : B) : (putW w b).out.length = w.out.length + b.length := by unfold putW; simp
theorem sym_len (w : Wr) (t : B) (ht : t.length ≤ 2000) (hs : w.ss.length ≤ maxN) : (symW w t).out.length ≤ w.out.length + (t.length + 10) := by
 have hm : maxN = 1000000000000000 := rfl
 unfold symW
 split
 ·rename_i h
  have := List.idxOf_lt_length_iff.2 h
  have := num_len (n := w.ss.idxOf t) (by omega)
  rw [put_len]
  simp only [List.length_cons]; omega
 ·have := num_len (n := t.length) (by omega)
  simp only [List.length_append, List.length_cons]; omega
def Few (w : Wr) : Prop := w.ss.length ≤ maxN ∧ w.cells.length ≤ maxN
theorem Gone.few {w w' : Wr} (h : Gone w w') (k : Few w') : Few w := by
 obtain ⟨_, cs, ts, rfl⟩ := h
 have h1 := k.1
 have h2 := k.2
 simp only [List.length_append] at h1 h2
 exact ⟨by omega, by omega⟩
theorem fold_out {α : Type} {f : Wr → α → Wr} {Φ : Wr → Nat} {c : Nat} (hf : ∀ w x, Gone w (f w x)) : ∀ (l : List α) (w : Wr), (∀ w, ∀ x ∈ l, Few (f w x) → (f w x).out.length + Φ (f w x) ≤ w.out.length + Φ w + c) → Few (l.foldl f w) → (l.foldl f w).out.length + Φ (l.foldl f w) ≤ w.out.length + Φ w + c * l.length
 | [], w, _, _ => by simp
 | x :: l, w, h, hM => by
  rw [List.foldl_cons] at hM ⊢
  have h0 := (gone_fold hf l (f w x)).few hM
  have h1 := h w x (by simp) h0
  have h2 := fold_out hf l (f w x) (fun w y hy => h w y (by simp [hy])) hM
  rw [List.length_cons, Nat.mul_add]; omega
def iN (c : Cell) : Nat := c.items.length + c.names.length
theorem put_cells (w : Wr) (b : B) : (putW w b).cells = w.cells := rfl
theorem sym_cells (w : Wr) (t : B) : (symW w t).cells = w.cells := by
 unfold symW
 split <;> rfl
theorem write_len {g : List Cell} {K : Nat} (hg : InG g) (hc : ∀ i, InI g i → CellW K (at_ g i)) (hK : 60 ≤ K) : ∀ (n : Nat) (w : Wr) (a : Int), InI g a → Few (writeF g n w a) →
  (writeF g n w a).out.length + K * wgt iN g (writeF g n w a).cells ≤ w.out.length + K * wgt iN g w.cells + K
 | 0, w, a, _, _ => by unfold writeF; omega
 | n + 1, w, a, ha, hF => by
  have hm : maxN = 1000000000000000 := rfl
  have c := hc a ha
  have hFw := (gone_write g (n + 1) w a).few hF
  have ht := c.text
  unfold writeF at hF ⊢
  simp only at hF ⊢
  split
  ·rw [put_cells, put_len]; simp only [List.length_cons, List.length_nil]; omega
  split
  ·rw [put_cells, put_len]; simp only [List.length_cons, List.length_nil]; omega
  split
  ·rw [put_cells, put_len]; simp only [List.length_cons, List.length_nil]; omega
  split
  ·rename_i h3
   have h4 := c.num h3
   have := num_len (n := sgn (at_ g a).num) (by unfold sgn; split <;> omega)
   rw [put_cells, put_len]; simp only [List.length_cons]; omega
  split
  ·have := sym_len w (at_ g a).text ht.1 hFw.1
   rw [sym_cells]; omega
  split
  ·rename_i h6
   have := List.idxOf_lt_length_iff.2 h6
   have := num_len (n := w.cells.idxOf a) (by have := hFw.2; omega)
   rw [put_cells, put_len]; simp only [List.length_cons]; omega
  rename_i k0 k1 k2 k3 k5 hm2
  rw [if_neg k0, if_neg k1, if_neg k2, if_neg k3, if_neg k5, if_neg hm2] at hF
  have hw := wgt_new (F := iN) ha hm2
  have hw2 : K * wgt iN g (w.cells ++ [a]) + K * iN (at_ g a) = K * wgt iN g w.cells := by rw [← Nat.mul_add, hw]
  have hl := c.len
  have hn1 := num_len (n := (at_ g a).items.length) (by omega)
  have hn2 := num_len (n := (at_ g a).items.length / 2) (by omega)
  have step : ∀ w, ∀ x ∈ (at_ g a).items, Few (writeF g n w x) → (writeF g n w x).out.length + K * wgt iN g (writeF g n w x).cells ≤ w.out.length + K * wgt iN g w.cells + K := fun w x hx => write_len hg hc hK n w x (outs_in hg ha hx)
  split
  ·have := num_len (n := (at_ g a).text.length) (by omega)
   rw [put_cells, put_len]; simp only [List.length_cons, List.length_append]
   omega
  rename_i k4
  rw [if_neg k4] at hF
  split
  ·rename_i k6
   rw [if_pos k6] at hF
   have := fold_out (Φ := fun w => K * wgt iN g w.cells) (c := K) (gone_write g n) (at_ g a).items _ step hF
   refine Nat.le_trans this ?_
   rw [put_cells, put_len]
   simp only [List.length_cons]
   have : K * iN (at_ g a) ≥ K * (at_ g a).items.length := Nat.mul_le_mul_left K (by unfold iN; omega)
   omega
  rename_i k6
  rw [if_neg k6] at hF
  split
  ·rename_i k7
   rw [if_pos k7] at hF
   have := fold_out (Φ := fun w => K * wgt iN g w.cells) (c := K) (gone_write g n) (at_ g a).items _ step hF
   refine Nat.le_trans this ?_
   rw [put_cells, put_len]
   simp only [List.length_cons]
   have : K * iN (at_ g a) ≥ K * (at_ g a).items.length := Nat.mul_le_mul_left K (by unfold iN; omega)
   omega
  rename_i k7
  rw [if_neg k7] at hF
  have k8 : (at_ g a).kind = 8 := by have := c.kind; omega
  have hgone := gone_fold (f := fun w (p : B × Int) => writeF g n (symW w p.1) p.2) (fun w p => (gone_sym w p.1).trans (gone_write g n _ p.2)) ((at_ g a).names.zip (at_ g a).items)
  have hFs := (hgone _).few hF
  have hcl := c.cls k8
  have hn3 := num_len (n := (at_ g a).names.length) (by rw [c.lens k8]; omega)
  have := fold_out (Φ := fun w => K * wgt iN g w.cells) (c := 2 * K) (f := fun w (p : B × Int) => writeF g n (symW w p.1) p.2) (fun w p => (gone_sym w p.1).trans (gone_write g n _ p.2)) ((at_ g a).names.zip (at_ g a).items) _ (fun w p hp hFp => by
   have hz := List.of_mem_zip (a := p.1) (b := p.2) hp
   have h1 := step (symW w p.1) p.2 hz.2 hFp
   have hFw2 := ((gone_sym w p.1).trans (gone_write g n _ p.2)).few hFp
   have h2 := sym_len w p.1 (by have := (c.nam p.1 hz.1).2; omega) hFw2.1
   have := (c.nam p.1 hz.1).2
   rw [sym_cells] at h1
   omega) hF
  refine Nat.le_trans this ?_
  rw [put_cells, put_len, sym_cells, put_cells]
  have hs := sym_len (putW { w with cells := w.cells ++ [a] } [111]) (at_ g a).text ht.1 (by show w.ss.length ≤ _; exact hFw.1)
  rw [put_len] at hs
  simp only [List.length_cons, List.length_nil] at hs ⊢
  have hz2 : ((at_ g a).names.zip (at_ g a).items).length = (at_ g a).items.length := by rw [List.length_zip, c.lens k8]; omega
  rw [hz2]
  have : K * iN (at_ g a) = 2 * K * (at_ g a).items.length := by unfold iN; rw [c.lens k8, ← Nat.two_mul, ← Nat.mul_assoc, Nat.mul_comm K 2]
  omega
end Go.Marshal
namespace Go.Marshal
open Go.Core
theorem formS_unfold (st : St) : formS st = bnd (nextS st) fun x st1 => if x = 64 then bnd (numS maxN st1) (fun k st2 => match st2.cells[k]? with
   | some c => .ok (c, st2)
   | none => .error 4)
  else if 500 ≤ st1.g.length ∨ x ∉ begins then .error 4
  else bnd (innerF formS x (openS x st1)) fun c st' => .ok ((st1.g.length : Int), setS st1.g.length c st') := by
 show formF (st.s.length + 1) st = _
 conv => lhs; unfold formF
 refine bnd_congr fun x st1 h3 => ?_
 have hl : st1.s.length + 1 = st.s.length := by
  unfold nextS at h3
  split at h3
  ·cases h3
  ·rename_i y s hs
   cases h3
   rw [hs]; rfl
 split
 ·rfl
 split
 ·rfl
 rw [inner_congr (h := formS) (LocS.form st.s.length) (m := st1.s.length) (fun st2 h4 => (formS_eq (by omega)).symm) x (openS x st1) (Nat.le_refl _)]
theorem form_named {st : St} {s : B} (hs : st.s = 64 :: s) : formS st = bnd (numS maxN { st with s := s }) fun k st2 => match st2.cells[k]? with
   | some c => .ok (c, st2)
   | none => .error 4 := by
 rw [formS_unfold]
 unfold nextS
 rw [hs]
 rfl
theorem form_byte {st : St} {x : UInt8} {s : B} (hs : st.s = x :: s) (h64 : x ≠ 64) (hb : x ∈ begins) : formS st = if 500 ≤ st.g.length then .error 4 else bnd (innerF formS x (openS x { st with s := s })) fun c st' => .ok ((st.g.length : Int), setS st.g.length c st') := by
 rw [formS_unfold]
 unfold nextS
 rw [hs]
 show (if x = 64 then _ else if 500 ≤ st.g.length ∨ x ∉ begins then _ else _) = _
 rw [if_neg h64]
 by_cases h : 500 ≤ st.g.length
 ·rw [if_pos h, if_pos (.inl h)]
 ·rw [if_neg h, if_neg (by rintro (h2 | h2); exact h h2; exact h2 hb)]
def lk (org : List Int) (i : Int) : Int := org.getD i.toNat 0
theorem lk_app {org on : List Int} {i : Int} (h : 0 ≤ i ∧ i < (org.length : Int)) : lk (org ++ on) i = lk org i := by
 unfold lk
 rw [List.getD_eq_getElem?_getD, List.getD_eq_getElem?_getD, List.getElem?_append_left (by omega)]
theorem lk_new (org : List Int) (a : Int) (on : List Int) : lk (org ++ a :: on) (org.length : Int) = a := by
 unfold lk
 rw [Int.toNat_natCast, List.getD_eq_getElem?_getD, List.getElem?_append_right (Nat.le_refl _), Nat.sub_self]
 rfl
structure Rl (w : Wr) (st : St) (org : List Int) : Prop where
 ss : st.ss = w.ss
 len : org.length = st.g.length
 cells : st.cells.map (lk org) = w.cells
 rng : ∀ i ∈ st.cells, 0 ≤ i ∧ i < (st.g.length : Int)
structure Good (g : List Cell) (org : List Int) (n : Nat) (c : Cell) (x : Int) : Prop where
 cell : at_ g x = reNum (lk org) c
 rng : ∀ y ∈ c.items, 0 ≤ y ∧ y < (n : Int)
 inI : InI g x
def shared (c : Cell) : Prop := c.kind = 4 ∨ 6 ≤ c.kind
structure Ex (g : List Cell) (st st' : St) (org org' : List Int) (new : List Cell) (on : List Int) : Prop where
 g_ : st'.g = st.g ++ new
 o_ : org' = org ++ on
 len : on.length = new.length
 good : ∀ (j : Nat) (c : Cell) (x : Int), new[j]? = some c → on[j]? = some x → Good g org' st'.g.length c x ∧ (shared c → ((st.g.length + j : Nat) : Int) ∈ st'.cells)
 sub : ∀ i ∈ st.cells, i ∈ st'.cells
theorem Good.mono {g : List Cell} {org on : List Int} {n m : Nat} {c : Cell} {x : Int} (h : Good g org n c x) (ho : org.length = n) (hm : n ≤ m) : Good g (org ++ on) m c x :=
 ⟨by
  rw [h.cell]
  unfold reNum
  congr 1
  exact List.map_congr_left fun y hy => (lk_app (by rw [ho]; exact h.rng y hy)).symm, fun y hy => by have := h.rng y hy; omega, h.inI⟩
theorem Ex.refl (g : List Cell) (st : St) (org : List Int) (s : B) (ss : List B) : Ex g st { st with s := s, ss := ss } org org [] [] :=
 ⟨by simp, by simp, rfl, fun j c x h => by simp at h, fun _ h => h⟩
theorem Ex.trans {g : List Cell} {st st1 st2 : St} {org org1 org2 : List Int} {n1 n2 : List Cell} {o1 o2 : List Int} (h : Ex g st st1 org org1 n1 o1) (k : Ex g st1 st2 org1 org2 n2 o2) (hl : org.length = st.g.length) : Ex g st st2 org org2 (n1 ++ n2) (o1 ++ o2) := by
 have hl1 : org1.length = st1.g.length := by rw [h.o_, h.g_, List.length_append, List.length_append, hl, h.len]
 refine ⟨by rw [k.g_, h.g_, List.append_assoc], by rw [k.o_, h.o_, List.append_assoc], by rw [List.length_append, List.length_append, h.len, k.len], fun j c x hc hx => ?_, fun i hi => k.sub i (h.sub i hi)⟩
 rcases Nat.lt_or_ge j n1.length with hj | hj
 ·rw [List.getElem?_append_left hj] at hc
  rw [List.getElem?_append_left (by rw [h.len]; exact hj)] at hx
  obtain ⟨g1, g2⟩ := h.good j c x hc hx
  rw [k.o_, k.g_]
  refine ⟨g1.mono hl1 (by rw [List.length_append]; omega), fun hs => k.sub _ (g2 hs)⟩
 ·rw [List.getElem?_append_right hj] at hc
  rw [List.getElem?_append_right (by rw [h.len]; exact hj), h.len] at hx
  obtain ⟨g1, g2⟩ := k.good _ c x hc hx
  refine ⟨g1, fun hs => ?_⟩
  have := g2 hs
  rw [h.g_, List.length_append] at this
  rw [show st.g.length + j = st.g.length + n1.length + (j - n1.length) by omega]
  exact this
theorem reNum_nil {φ : Int → Int} {c : Cell} (h : c.items = []) : reNum φ c = c := by
 cases c
 simp only at h
 subst h
 rfl
def iT (c : Cell) : Nat := c.items.length
theorem sym_back {w : Wr} {t : B} (ht : t.length ≤ 40) (hs : w.ss.length ≤ maxN) : ∃ x b, (symW w t).out = w.out ++ x :: b ∧ (x = 58 ∨ x = 59) ∧ ∀ tail, rdSym x w.ss (b ++ tail) = .ok (t, (symW w t).ss, tail) := by
 have hm : maxN = 1000000000000000 := rfl
 unfold symW
 by_cases h : t ∈ w.ss
 ·have hi := List.idxOf_lt_length_iff.2 h
  rw [if_pos h]
  refine ⟨59, num (w.ss.idxOf t), rfl, .inr rfl, fun tail => ?_⟩
  unfold rdSym
  rw [if_pos rfl, rd_num (by omega) (by omega)]
  simp only
  rw [List.getElem?_eq_getElem hi, List.getElem_idxOf hi]
  rfl
 ·rw [if_neg h]
  refine ⟨58, num t.length ++ t, rfl, .inl rfl, fun tail => ?_⟩
  unfold rdSym rdT
  rw [if_neg (by decide), if_pos rfl, List.append_assoc, rd_num (by omega) (by omega)]
  simp only
  rw [if_neg (by omega), if_neg (by rw [List.length_append]; omega)]
  simp only
  rw [List.take_left, List.drop_left, if_neg h]
def Back (g : List Cell) (w w' : Wr) (a : Int) : Prop := ∃ b, w'.out = w.out ++ b ∧ ∀ (tail : B) (st : St) (org : List Int), Rl w st org → st.s = b ++ tail →
 (∃ i st' org' new on, formS st = .ok (i, st') ∧ st'.s = tail ∧ Rl w' st' org' ∧ Ex g st st' org org' new on ∧ (0 ≤ i ∧ i < (st'.g.length : Int)) ∧ lk org' i = a ∧ (i = (st.g.length : Int) ∨ i ∈ st.cells) ∧ st'.g.length + wgt iT g w'.cells ≤ st.g.length + wgt iT g w.cells + 1) ∨
 (formS st = .error 4 ∧ 500 < st.g.length + 1 + wgt iT g w.cells)
theorem back_leaf {g : List Cell} {w w' : Wr} {a : Int} {x : UInt8} {b : B} {c : Cell} (ha : InI g a) (hw : w'.out = w.out ++ x :: b) (h64 : x ≠ 64) (hb : x ∈ begins) (hn : x ∉ named) (hc : at_ g a = c) (h0 : c.items = []) (hsh : ¬ shared c) (hcells : w'.cells = w.cells)
  (hi : ∀ (tail : B) (st : St), st.ss = w.ss → st.s = b ++ tail → innerF formS x st = .ok (c, { st with s := tail, ss := w'.ss })) : Back g w w' a := by
 refine ⟨x :: b, hw, fun tail st org hR hs => ?_⟩
 have hs2 : st.s = x :: (b ++ tail) := hs
 rw [form_byte hs2 h64 hb]
 by_cases h : 500 ≤ st.g.length
 ·rw [if_pos h]
  exact .inr ⟨rfl, by omega⟩
 ·rw [if_neg h, hi tail (openS x { st with s := b ++ tail }) hR.ss rfl]
  have hop : (openS x { st with s := b ++ tail }).cells = st.cells := by unfold openS; simp only; rw [if_neg hn]
  have hg : (openS x { st with s := b ++ tail }).g = st.g ++ [nilC] := rfl
  refine .inl ⟨(st.g.length : Int), ⟨tail, st.g ++ [c], st.cells, w'.ss⟩, org ++ [a], [c], [a], ?_, rfl, ⟨rfl, by simp [hR.len], ?_, fun i hi => ?_⟩, ⟨rfl, rfl, rfl, fun j d y hd hy => ?_, fun _ h => h⟩, ⟨by omega, by simp; omega⟩, ?_, .inl rfl, ?_⟩
  ·show Except.ok _ = _
   unfold setS
   simp only [hop, hg]
   rw [List.set_append_right _ _ (Nat.le_refl _), Nat.sub_self]
   rfl
  ·rw [hcells, ← hR.cells]
   exact List.map_congr_left fun y hy => lk_app (by rw [hR.len]; exact hR.rng y hy)
  ·have := hR.rng i hi
   simp only [List.length_append, List.length_cons, List.length_nil]
   omega
  ·cases j with
   | succ j => simp at hd
   | zero =>
    obtain rfl := Option.some.inj hd
    obtain rfl := Option.some.inj hy
    refine ⟨⟨?_, ?_, ha⟩, fun k => absurd k hsh⟩
    ·rw [hc, reNum_nil h0]
    ·rw [h0]; exact fun _ h => by cases h
  ·rw [← hR.len]; exact lk_new org a []
  ·rw [hcells]
   simp only [List.length_append, List.length_cons, List.length_nil]
   omega
end Go.Marshal
namespace Go.Marshal
open Go.Core
theorem num_ok {most n : Nat} {st : St} {tail : B} (h : n ≤ most) (hm : most ≤ 2 * maxN) (hs : st.s = num n ++ tail) : numS most st = .ok (n, { st with s := tail }) := by
 have : maxN = 1000000000000000 := rfl
 unfold numS
 rw [hs, rd_num h (by omega)]
theorem back_open {g : List Cell} {w w' : Wr} {a : Int} {x : UInt8} {b : B} (hw : w'.out = w.out ++ x :: b) (h64 : x ≠ 64) (hb : x ∈ begins) (hn : x ∈ named)
  (hi : ∀ (tail : B) (st : St) (org : List Int), Rl { w with cells := w.cells ++ [a] } st org → st.s = b ++ tail →
   (∃ c st' org' new on, innerF formS x st = .ok (c, st') ∧ st'.s = tail ∧ Rl w' st' org' ∧ Ex g st st' org org' new on ∧ Good g org' st'.g.length c a ∧ st'.g.length + wgt iT g w'.cells ≤ st.g.length + wgt iT g w.cells) ∨
   (innerF formS x st = .error 4 ∧ 500 < st.g.length + wgt iT g w.cells)) : Back g w w' a := by
 refine ⟨x :: b, hw, fun tail st org hR hs => ?_⟩
 have hs2 : st.s = x :: (b ++ tail) := hs
 rw [form_byte hs2 h64 hb]
 by_cases h : 500 ≤ st.g.length
 ·rw [if_pos h]
  exact .inr ⟨rfl, by omega⟩
 ·rw [if_neg h]
  have hoc : (openS x { st with s := b ++ tail }).cells = st.cells ++ [(st.g.length : Int)] := by unfold openS; simp only; rw [if_pos hn]
  have hog : (openS x { st with s := b ++ tail }).g = st.g ++ [nilC] := rfl
  have hlr := hR.len
  obtain ⟨o, ho⟩ : ∃ o, o = openS x { st with s := b ++ tail } := ⟨_, rfl⟩
  have hRo : Rl { w with cells := w.cells ++ [a] } o (org ++ [a]) := by
   refine ⟨by rw [ho]; exact hR.ss, by rw [ho, hog]; simp [hlr], ?_, fun i hi => ?_⟩
   ·rw [ho, hoc, List.map_append, ← hR.cells]
    congr 1
    ·exact List.map_congr_left fun y hy => lk_app (by rw [hlr]; exact hR.rng y hy)
    ·show [lk _ _] = [a]
     rw [← hlr, lk_new org a []]
   ·rw [ho, hoc] at hi
    rw [ho, hog, List.length_append]
    rcases List.mem_append.1 hi with hi | hi
    ·have := hR.rng i hi; simp only [List.length_cons, List.length_nil]; omega
    ·rw [List.mem_singleton.1 hi]; simp only [List.length_cons, List.length_nil]; omega
  have hol : o.g.length = st.g.length + 1 := by rw [ho, hog]; simp
  rw [← ho]
  rcases hi tail o (org ++ [a]) hRo (by rw [ho]; rfl) with ⟨c, st', org', new, on, h1, h2, h3, h4, h5, h6⟩ | ⟨h1, h2⟩
  ·rw [h1]
   have hg' : (setS st.g.length c st').g = st.g ++ c :: new := by
    unfold setS
    simp only
    rw [h4.g_, ho, hog, List.append_assoc, List.set_append_right _ _ (Nat.le_refl _), Nat.sub_self]
    rfl
   have hgl : (setS st.g.length c st').g.length = st'.g.length := by unfold setS; simp
   refine .inl ⟨(st.g.length : Int), setS st.g.length c st', org', c :: new, a :: on, rfl, h2, ⟨h3.ss, by rw [hgl]; exact h3.len, h3.cells, fun i hi => by rw [hgl]; exact h3.rng i hi⟩, ⟨hg', by rw [h4.o_, List.append_assoc]; rfl, by simp [h4.len], fun j d y hd hy => ?_, fun i hi => h4.sub i (by rw [ho, hoc]; simp [hi])⟩, ?_, ?_, .inl rfl, ?_⟩
   ·rw [hgl]
    cases j with
    | zero =>
     obtain rfl := Option.some.inj hd
     obtain rfl := Option.some.inj hy
     exact ⟨h5, fun _ => h4.sub _ (by rw [ho, hoc]; simp)⟩
    | succ j =>
     obtain ⟨k1, k2⟩ := h4.good j d y hd hy
     refine ⟨k1, fun hs => ?_⟩
     have := k2 hs
     rw [hol] at this
     rw [show st.g.length + (j + 1) = st.g.length + 1 + j by omega]
     exact this
   ·rw [hg', List.length_append]; simp only [List.length_cons]; omega
   ·rw [h4.o_, List.append_assoc, ← hlr]
    exact lk_new org a on
   ·rw [hgl]
    omega
  ·rw [h1]
   exact .inr ⟨rfl, by omega⟩
structure Kn (g : List Cell) (w : Wr) : Prop where
 nodup : w.cells.Nodup
 inI : ∀ x ∈ w.cells, InI g x
 sh : ∀ x ∈ w.cells, shared (at_ g x)
theorem Kn.put {g : List Cell} {w : Wr} (h : Kn g w) (b : B) : Kn g (putW w b) := ⟨h.nodup, h.inI, h.sh⟩
theorem Kn.sym {g : List Cell} {w : Wr} (h : Kn g w) (t : B) : Kn g (symW w t) :=
 ⟨by rw [sym_cells]; exact h.nodup, by rw [sym_cells]; exact h.inI, by rw [sym_cells]; exact h.sh⟩
theorem Kn.fold {α : Type} {g : List Cell} {f : Wr → α → Wr} : ∀ (l : List α) (w : Wr), (∀ w, ∀ x ∈ l, Kn g w → Kn g (f w x)) → Kn g w → Kn g (l.foldl f w)
 | [], _, _, h => h
 | x :: l, w, hf, h => Kn.fold l (f w x) (fun w y hy => hf w y (by simp [hy])) (hf w x (by simp) h)
theorem Kn.write {g : List Cell} {K : Nat} (hg : InG g) (hc : ∀ i, InI g i → CellW K (at_ g i)) : ∀ (n : Nat) (w : Wr) (a : Int), InI g a → Kn g w → Kn g (writeF g n w a)
 | 0, _, _, _, h => h
 | n + 1, w, a, ha, h => by
  have c := hc a ha
  unfold writeF
  simp only
  split
  ·exact h.put _
  split
  ·exact h.put _
  split
  ·exact h.put _
  split
  ·exact h.put _
  split
  ·exact h.sym _
  split
  ·exact h.put _
  rename_i k0 k1 k2 k3 k5 hm
  have hk : Kn g { w with cells := w.cells ++ [a] } :=
   ⟨List.nodup_append.2 ⟨h.nodup, by simp, fun x hx y hy => by rw [List.mem_singleton.1 hy]; rintro rfl; exact hm hx⟩, fun x hx => (List.mem_append.1 hx).elim (h.inI x) fun hx => by rw [List.mem_singleton.1 hx]; exact ha,
    fun x hx => (List.mem_append.1 hx).elim (h.sh x) fun hx => by rw [List.mem_singleton.1 hx]; unfold shared; have := c.kind; omega⟩
  have step : ∀ w, ∀ x ∈ (at_ g a).items, Kn g w → Kn g (writeF g n w x) := fun w x hx hw => Kn.write hg hc n w x (outs_in hg ha hx) hw
  split
  ·exact hk.put _
  split
  ·exact Kn.fold _ _ step (hk.put _)
  split
  ·exact Kn.fold _ _ step (hk.put _)
  ·exact Kn.fold _ _ (fun w p hp hw => step _ _ (List.of_mem_zip (a := p.1) (b := p.2) hp).2 (hw.sym _)) ((((hk.put _).sym _).put _))
theorem back_items {g : List Cell} {n : Nat} (hkw : ∀ w x, InI g x → Kn g w → Kn g (writeF g n w x)) (ih : ∀ w x, InI g x → Kn g w → freeN g w.cells < n → Few (writeF g n w x) → Back g w (writeF g n w x) x) : ∀ (l : List Int) (w : Wr), (∀ x ∈ l, InI g x) → Kn g w → freeN g w.cells < n → Few (l.foldl (writeF g n) w) →
  ∃ b, (l.foldl (writeF g n) w).out = w.out ++ b ∧ ∀ (tail : B) (st : St) (org acc : List Int), Rl w st org → st.s = b ++ tail →
   (∃ js st' org' new on, itemsA formS l.length acc st = .ok (acc ++ js, st') ∧ st'.s = tail ∧ Rl (l.foldl (writeF g n) w) st' org' ∧ Ex g st st' org org' new on ∧ (∀ i ∈ js, 0 ≤ i ∧ i < (st'.g.length : Int)) ∧ js.map (lk org') = l ∧ st'.g.length + wgt iT g (l.foldl (writeF g n) w).cells ≤ st.g.length + wgt iT g w.cells + l.length) ∨
   (itemsA formS l.length acc st = .error 4 ∧ 500 < st.g.length + l.length + wgt iT g w.cells)
 | [], w, _, _, _, _ => ⟨[], by simp, fun tail st org acc hR hs => .inl ⟨[], st, org, [], [], by unfold itemsA; simp, hs, hR, Ex.refl g st org st.s st.ss, (fun _ h => by cases h), rfl, Nat.le_refl _⟩⟩
 | x :: l, w, hl, hkn, hn, hF => by
  rw [List.foldl_cons] at hF ⊢
  have hgo := gone_fold (gone_write g n) l (writeF g n w x)
  obtain ⟨b1, e1, h1⟩ := ih w x (hl x (by simp)) hkn hn (hgo.few hF)
  obtain ⟨b2, e2, h2⟩ := back_items hkw ih l (writeF g n w x) (fun y hy => hl y (by simp [hy])) (hkw w x (hl x (by simp)) hkn) (Nat.lt_of_le_of_lt (free_mono (gone_write g n w x).sub) hn) hF
  refine ⟨b1 ++ b2, by rw [e2, e1, List.append_assoc], fun tail st org acc hR hs => ?_⟩
  rw [List.length_cons]
  unfold itemsA
  rcases h1 (b2 ++ tail) st org hR (by rw [hs, List.append_assoc]) with ⟨i, st1, org1, n1, o1, a1, a2, a3, a4, a5, a6, _, a8⟩ | ⟨a1, a2⟩
  ·rw [a1]
   simp only [bnd]
   rcases h2 tail st1 org1 (acc ++ [i]) a3 a2 with ⟨js, st2, org2, n2, o2, c1, c2, c3, c4, c5, c6, c7⟩ | ⟨c1, c2⟩
   ·rw [c1]
    have hx := a4.trans c4 hR.len
    refine .inl ⟨i :: js, st2, org2, n1 ++ n2, o1 ++ o2, by simp, c2, c3, hx, fun j hj => ?_, ?_, by omega⟩
    ·rcases List.mem_cons.1 hj with rfl | hj
     ·have := c4.g_
      have : st2.g.length = st1.g.length + n2.length := by rw [this, List.length_append]
      omega
     ·exact c5 j hj
    ·rw [List.map_cons, c6, c4.o_, lk_app (by rw [a3.len]; exact a5), a6]
   ·rw [c1]
    exact .inr ⟨rfl, by omega⟩
  ·rw [a1]
   exact .inr ⟨rfl, by omega⟩
def pairW (g : List Cell) (n : Nat) (w : Wr) (p : B × Int) : Wr := writeF g n (symW w p.1) p.2
theorem gone_pair (g : List Cell) (n : Nat) (w : Wr) (p : B × Int) : Gone w (pairW g n w p) := (gone_sym w p.1).trans (gone_write g n _ p.2)
theorem Rl.sym {w : Wr} {st : St} {org : List Int} (h : Rl w st org) (t : B) (s : B) : Rl (symW w t) { st with s := s, ss := (symW w t).ss } org :=
 ⟨rfl, h.len, by rw [sym_cells]; exact h.cells, h.rng⟩
theorem Ex.pre {g : List Cell} {st st' : St} {org org' : List Int} {new : List Cell} {on : List Int} {s : B} {ss : List B} (h : Ex g { st with s := s, ss := ss } st' org org' new on) : Ex g st st' org org' new on :=
 ⟨h.g_, h.o_, h.len, h.good, h.sub⟩
theorem back_attrs {g : List Cell} {n : Nat} (hkw : ∀ w x, InI g x → Kn g w → Kn g (writeF g n w x)) (ih : ∀ w x, InI g x → Kn g w → freeN g w.cells < n → Few (writeF g n w x) → Back g w (writeF g n w x) x) : ∀ (l : List (B × Int)) (w : Wr), (∀ p ∈ l, InI g p.2 ∧ Go.Scan.iiB p.1 = true ∧ p.1.length ≤ 40) → Kn g w → freeN g w.cells < n → Few (l.foldl (pairW g n) w) →
  ∃ b, (l.foldl (pairW g n) w).out = w.out ++ b ∧ ∀ (tail : B) (st : St) (org acc : List Int) (ns : List B), Rl w st org → st.s = b ++ tail → (ns ++ l.map Prod.fst).Nodup →
   (∃ js st' org' new on, attrsA formS l.length ns acc st = .ok ((ns ++ l.map Prod.fst, acc ++ js), st') ∧ st'.s = tail ∧ Rl (l.foldl (pairW g n) w) st' org' ∧ Ex g st st' org org' new on ∧ (∀ i ∈ js, 0 ≤ i ∧ i < (st'.g.length : Int)) ∧ js.map (lk org') = l.map Prod.snd ∧ st'.g.length + wgt iT g (l.foldl (pairW g n) w).cells ≤ st.g.length + wgt iT g w.cells + l.length) ∨
   (attrsA formS l.length ns acc st = .error 4 ∧ 500 < st.g.length + l.length + wgt iT g w.cells)
 | [], w, _, _, _, _ => ⟨[], by simp, fun tail st org acc ns hR hs _ => .inl ⟨[], st, org, [], [], by unfold attrsA; simp, hs, hR, Ex.refl g st org st.s st.ss, (fun _ h => by cases h), rfl, Nat.le_refl _⟩⟩
 | p :: l, w, hl, hkn, hn, hF => by
  obtain ⟨t, x⟩ := p
  rw [List.foldl_cons] at hF ⊢
  have hgo := gone_fold (gone_pair g n) l (pairW g n w (t, x))
  obtain ⟨hx, ht1, ht2⟩ := hl (t, x) (by simp)
  have hF1 := hgo.few hF
  have hF0 := (gone_pair g n w (t, x)).few hF1
  obtain ⟨y, b0, e0, hy, h0⟩ := sym_back ht2 hF0.1
  obtain ⟨b1, e1, h1⟩ := ih (symW w t) x hx (hkn.sym t) (by rw [sym_cells]; exact hn) hF1
  obtain ⟨b2, e2, h2⟩ := back_attrs hkw ih l (pairW g n w (t, x)) (fun y hy => hl y (by simp [hy])) (hkw _ x hx (hkn.sym t)) (Nat.lt_of_le_of_lt (free_mono (gone_pair g n w (t, x)).sub) hn) hF
  refine ⟨y :: (b0 ++ (b1 ++ b2)), by rw [e2]; show (writeF g n (symW w t) x).out ++ _ = _; rw [e1, e0]; simp, fun tail st org acc ns hR hs hnd => ?_⟩
  rw [List.length_cons]
  unfold attrsA
  have hs2 : st.s = y :: (b0 ++ (b1 ++ (b2 ++ tail))) := by rw [hs]; simp
  have hnx : nextS st = .ok (y, { st with s := b0 ++ (b1 ++ (b2 ++ tail)) }) := by unfold nextS; rw [hs2]
  have hsy : symS y { st with s := b0 ++ (b1 ++ (b2 ++ tail)) } = .ok (t, { st with s := b1 ++ (b2 ++ tail), ss := (symW w t).ss }) := by
   unfold symS
   simp only
   rw [hR.ss, h0]
  rw [hnx]
  simp only [bnd]
  rw [hsy]
  simp only
  have hfresh : t ∉ ns := fun hm => by
   have := (List.nodup_append.1 hnd).2.2 t hm t (by simp)
   exact this rfl
  rw [if_pos ⟨ht1, hfresh⟩]
  rcases h1 (b2 ++ tail) { st with s := b1 ++ (b2 ++ tail), ss := (symW w t).ss } org (hR.sym t _) rfl with ⟨i, st1, org1, n1, o1, a1, a2, a3, a4, a5, a6, _, a8⟩ | ⟨a1, a2⟩
  ·rw [a1]
   simp only
   rw [sym_cells] at a8
   simp only at a8
   rcases h2 tail st1 org1 (acc ++ [i]) (ns ++ [t]) a3 a2 (by simpa using hnd) with ⟨js, st2, org2, n2, o2, c1, c2, c3, c4, c5, c6, c7⟩ | ⟨c1, c2⟩
   ·rw [c1]
    have hx := a4.pre.trans c4 hR.len
    have hcw : (pairW g n w (t, x)).cells = (writeF g n (symW w t) x).cells := rfl
    rw [hcw] at c7
    refine .inl ⟨i :: js, st2, org2, n1 ++ n2, o1 ++ o2, by simp, c2, c3, hx, fun j hj => ?_, ?_, by omega⟩
    ·rcases List.mem_cons.1 hj with rfl | hj
     ·have := c4.g_
      have : st2.g.length = st1.g.length + n2.length := by rw [this, List.length_append]
      omega
     ·exact c5 j hj
    ·rw [List.map_cons, List.map_cons, c6, c4.o_, lk_app (by rw [a3.len]; exact a5), a6]
   ·rw [c1]
    have hcw : (pairW g n w (t, x)).cells = (writeF g n (symW w t) x).cells := rfl
    rw [hcw] at c2
    exact .inr ⟨rfl, by omega⟩
  ·rw [a1]
   rw [sym_cells] at a2
   simp only at a2
   exact .inr ⟨rfl, by omega⟩
end Go.Marshal
namespace Go.Marshal
open Go.Core
theorem cell_ext {c : Cell} {k n : Int} {t : B} {ns : List B} {l : List Int} (h1 : c.kind = k) (h2 : c.num = n) (h3 : c.text = t) (h4 : c.names = ns) (h5 : c.items = l) : c = ⟨k, n, t, ns, l⟩ := by
 cases c
 simp only at h1 h2 h3 h4 h5
 subst h1 h2 h3 h4 h5
 rfl
theorem cells_few {g : List Cell} (h500 : g.length ≤ 500) {w : Wr} (hN : w.cells.Nodup) (hI : ∀ x ∈ w.cells, InI g x) : w.cells.length ≤ 500 :=
 Nat.le_trans (way_le (n := g.length) hN hI) h500
theorem zip_fst {α β : Type} : ∀ {l : List α} {m : List β}, l.length = m.length → (l.zip m).map Prod.fst = l
 | [], _, _ => rfl
 | x :: l, [], h => by cases h
 | x :: l, y :: m, h => by rw [List.zip_cons_cons, List.map_cons, zip_fst (by simpa using h)]
theorem zip_snd {α β : Type} : ∀ {l : List α} {m : List β}, l.length = m.length → (l.zip m).map Prod.snd = m
 | [], [], _ => rfl
 | [], y :: m, h => by cases h
 | x :: l, [], h => by cases h
 | x :: l, y :: m, h => by rw [List.zip_cons_cons, List.map_cons, zip_snd (by simpa using h)]
theorem good_of {g : List Cell} {org : List Int} {m : Nat} {a k : Int} {t : B} {ns : List B} {js : List Int} (ha : InI g a) (h1 : (at_ g a).kind = k) (h2 : (at_ g a).num = 0) (h3 : (at_ g a).text = t) (h4 : (at_ g a).names = ns) (h5 : js.map (lk org) = (at_ g a).items) (h6 : ∀ i ∈ js, 0 ≤ i ∧ i < (m : Int)) : Good g org m ⟨k, 0, t, ns, js⟩ a :=
 ⟨cell_ext h1 h2 h3 h4 h5.symm, h6, ha⟩
theorem Rl.put {w : Wr} {st : St} {org : List Int} (h : Rl w st org) (b : B) (s : B) : Rl (putW w b) { st with s := s } org := ⟨h.ss, h.len, h.cells, h.rng⟩
theorem back_write {g : List Cell} {K : Nat} (h500 : g.length ≤ 500) (hg : InG g) (hc : ∀ i, InI g i → CellW K (at_ g i)) : ∀ (n : Nat) (w : Wr) (a : Int), InI g a → Kn g w → freeN g w.cells < n → Few (writeF g n w a) → Back g w (writeF g n w a) a
 | 0, w, a, _, _, h, _ => by omega
 | n + 1, w, a, ha, hkn, hn, hF => by
  have hm : maxN = 1000000000000000 := rfl
  have c := hc a ha
  have hFw := (gone_write g (n + 1) w a).few hF
  have hcl := cells_few h500 hkn.nodup hkn.inI
  unfold writeF at hF ⊢
  simp only at hF ⊢
  split
  ·rename_i k
   exact back_leaf (x := 48) (b := []) (c := ⟨0, 0, [], [], []⟩) ha rfl (by decide) (by decide) (by decide) (cell_ext k (c.num0 (by omega)) (c.text0 (by omega) (by omega) (by omega)) (c.leaf (by omega)).2 (c.leaf (by omega)).1) rfl (by unfold shared; simp) rfl fun tail st h1 h2 => by
    unfold innerF
    rw [if_pos rfl]
    cases st
    simp only at h1 h2
    subst h1 h2
    rfl
  split
  ·rename_i _ k
   exact back_leaf (x := 84) (b := []) (c := ⟨1, 0, [], [], []⟩) ha rfl (by decide) (by decide) (by decide) (cell_ext k (c.num0 (by omega)) (c.text0 (by omega) (by omega) (by omega)) (c.leaf (by omega)).2 (c.leaf (by omega)).1) rfl (by unfold shared; simp) rfl fun tail st h1 h2 => by
    unfold innerF
    rw [if_neg (by decide), if_pos rfl]
    cases st
    simp only at h1 h2
    subst h1 h2
    rfl
  split
  ·rename_i _ _ k
   exact back_leaf (x := 70) (b := []) (c := ⟨2, 0, [], [], []⟩) ha rfl (by decide) (by decide) (by decide) (cell_ext k (c.num0 (by omega)) (c.text0 (by omega) (by omega) (by omega)) (c.leaf (by omega)).2 (c.leaf (by omega)).1) rfl (by unfold shared; simp) rfl fun tail st h1 h2 => by
    unfold innerF
    rw [if_neg (by decide), if_neg (by decide), if_pos rfl]
    cases st
    simp only at h1 h2
    subst h1 h2
    rfl
  split
  ·rename_i _ _ _ k
   have hb := c.num k
   have hs : sgn (at_ g a).num ≤ 2 * maxN := by unfold sgn; split <;> omega
   exact back_leaf (x := 105) (b := num (sgn (at_ g a).num)) (c := ⟨3, (at_ g a).num, [], [], []⟩) ha rfl (by decide) (by decide) (by decide) (cell_ext k rfl (c.text0 (by omega) (by omega) (by omega)) (c.leaf (by omega)).2 (c.leaf (by omega)).1) rfl (by unfold shared; simp) rfl fun tail st h1 h2 => by
    unfold innerF
    rw [if_neg (by decide), if_neg (by decide), if_neg (by decide), if_pos rfl, num_ok hs (Nat.le_refl _) h2]
    simp only [bnd]
    rw [unsgn_sgn]
    cases st
    simp only at h1 h2
    subst h1
    rfl
  split
  ·rename_i _ _ _ _ k
   obtain ⟨x, b, e, hx, hs⟩ := sym_back (w := w) (c.sym k) hFw.1
   exact back_leaf (x := x) (b := b) (c := ⟨5, 0, (at_ g a).text, [], []⟩) ha e (by rcases hx with rfl | rfl <;> decide) (by rcases hx with rfl | rfl <;> decide) (by rcases hx with rfl | rfl <;> decide) (cell_ext k (c.num0 (by omega)) rfl (c.leaf (by omega)).2 (c.leaf (by omega)).1) rfl (by unfold shared; simp) (sym_cells _ _) fun tail st h1 h2 => by
    unfold innerF
    rw [if_neg (by rcases hx with rfl | rfl <;> decide), if_neg (by rcases hx with rfl | rfl <;> decide), if_neg (by rcases hx with rfl | rfl <;> decide), if_neg (by rcases hx with rfl | rfl <;> decide), if_neg (by rcases hx with rfl | rfl <;> decide), if_pos hx]
    unfold symS
    rw [h1, h2, hs]
    rfl
  split
  ·rename_i k0 k1 k2 k3 k5 hm2
   have hi := List.idxOf_lt_length_iff.2 hm2
   refine ⟨64 :: num (w.cells.idxOf a), rfl, fun tail st org hR hs => ?_⟩
   have hs2 : st.s = 64 :: (num (w.cells.idxOf a) ++ tail) := hs
   rw [form_named hs2, num_ok (n := w.cells.idxOf a) (by omega) (by omega) rfl]
   simp only [bnd]
   have hlc : st.cells.length = w.cells.length := by rw [← hR.cells, List.length_map]
   obtain ⟨y, hy⟩ : ∃ y, st.cells[w.cells.idxOf a]? = some y := ⟨_, List.getElem?_eq_getElem (by omega)⟩
   rw [hy]
   have hla : lk org y = a := by
    have h1 : w.cells[w.cells.idxOf a]? = some (lk org y) := by rw [← hR.cells, List.getElem?_map, hR.cells, hy]; rfl
    rw [List.getElem?_eq_getElem hi, List.getElem_idxOf hi] at h1
    exact (Option.some.inj h1).symm
   exact .inl ⟨y, { st with s := tail }, org, [], [], rfl, rfl, ⟨hR.ss, hR.len, hR.cells, hR.rng⟩, Ex.refl g st org tail st.ss, hR.rng y (List.mem_of_getElem? hy), hla, .inr (List.mem_of_getElem? hy), by simp only [put_cells]; omega⟩
  rename_i k0 k1 k2 k3 k5 hm2
  rw [if_neg k0, if_neg k1, if_neg k2, if_neg k3, if_neg k5, if_neg hm2] at hF
  have hwg : wgt iT g (w.cells ++ [a]) + (at_ g a).items.length = wgt iT g w.cells := wgt_new (F := iT) ha hm2
  have hlt := free_lt ha hm2 (t := w.cells ++ [a]) (fun x hx => by simp [hx]) (by simp)
  have hl := c.len
  have ht := c.text
  have hk2 : Kn g { w with cells := w.cells ++ [a] } :=
   ⟨List.nodup_append.2 ⟨hkn.nodup, by simp, fun x hx y hy => by rw [List.mem_singleton.1 hy]; rintro rfl; exact hm2 hx⟩, fun x hx => (List.mem_append.1 hx).elim (hkn.inI x) fun hx => by rw [List.mem_singleton.1 hx]; exact ha,
    fun x hx => (List.mem_append.1 hx).elim (hkn.sh x) fun hx => by rw [List.mem_singleton.1 hx]; unfold shared; have := c.kind; omega⟩
  split
  ·rename_i k4
   refine back_open (x := 34) (b := num (at_ g a).text.length ++ (at_ g a).text) rfl (by decide) (by decide) (by decide) fun tail st org hR hs => ?_
   have hit := (c.leaf (by omega)).1
   refine .inl ⟨⟨4, 0, (at_ g a).text, [], []⟩, { st with s := tail }, org, [], [], ?_, rfl, ⟨hR.ss, hR.len, hR.cells, hR.rng⟩, Ex.refl g st org tail st.ss, ⟨?_, fun y hy => (by cases hy), ha⟩, ?_⟩
   ·unfold innerF
    rw [if_neg (by decide), if_neg (by decide), if_neg (by decide), if_neg (by decide), if_pos rfl]
    unfold textS rdT
    rw [hs, List.append_assoc, rd_num (by omega) (by omega)]
    simp only
    rw [if_neg (by omega), if_neg (by rw [List.length_append]; omega)]
    simp only [bnd]
    rw [List.take_left, List.drop_left]
   ·rw [reNum_nil rfl]
    exact cell_ext k4 (c.num0 (by omega)) rfl (c.leaf (by omega)).2 hit
   ·rw [put_cells]
    show st.g.length + wgt iT g (w.cells ++ [a]) ≤ _
    omega
  rename_i k4
  rw [if_neg k4] at hF
  have ih : ∀ w x, InI g x → Kn g w → freeN g w.cells < n → Few (writeF g n w x) → Back g w (writeF g n w x) x := fun w x hx hk h1 h2 => back_write h500 hg hc n w x hx hk h1 h2
  have hkw : ∀ w x, InI g x → Kn g w → Kn g (writeF g n w x) := fun w x hx hk => Kn.write hg hc n w x hx hk
  have hits : ∀ x ∈ (at_ g a).items, InI g x := fun x hx => outs_in hg ha hx
  split
  ·rename_i k6
   rw [if_pos k6] at hF
   obtain ⟨b, e, h⟩ := back_items hkw ih (at_ g a).items (putW { w with cells := w.cells ++ [a] } (91 :: num (at_ g a).items.length)) hits (hk2.put _) (by rw [put_cells]; show freeN g (w.cells ++ [a]) < n; omega) hF
   rw [put_cells] at h
   simp only at h
   refine back_open (x := 91) (b := num (at_ g a).items.length ++ b) (by rw [e]; unfold putW; simp) (by decide) (by decide) (by decide) fun tail st org hR hs => ?_
   unfold innerF
   rw [if_neg (by decide), if_neg (by decide), if_neg (by decide), if_neg (by decide), if_neg (by decide), if_neg (by decide), if_pos rfl, num_ok (n := (at_ g a).items.length) (tail := b ++ tail) (by omega) (by omega) (by rw [hs, List.append_assoc])]
   simp only [bnd]
   rcases h tail { st with s := b ++ tail } org [] (hR.put _ _) rfl with ⟨js, st', org', new, on, c1, c2, c3, c4, c5, c6, c7⟩ | ⟨c1, c2⟩
   ·rw [c1]
    have hgood := good_of (m := st'.g.length) ha k6 (c.num0 (by omega)) (c.text0 (by omega) (by omega) (by omega)) (c.nam0 (by omega)) c6 c5
    exact .inl ⟨⟨6, 0, [], [], js⟩, st', org', new, on, rfl, c2, c3, c4.pre, hgood, by simp only at c7; omega⟩
   ·rw [c1]
    exact .inr ⟨rfl, by simp only at c2; omega⟩
  rename_i k6
  rw [if_neg k6] at hF
  split
  ·rename_i k7
   rw [if_pos k7] at hF
   have hev := c.even k7
   obtain ⟨b, e, h⟩ := back_items hkw ih (at_ g a).items (putW { w with cells := w.cells ++ [a] } (123 :: num ((at_ g a).items.length / 2))) hits (hk2.put _) (by rw [put_cells]; show freeN g (w.cells ++ [a]) < n; omega) hF
   rw [put_cells] at h
   simp only at h
   refine back_open (x := 123) (b := num ((at_ g a).items.length / 2) ++ b) (by rw [e]; unfold putW; simp) (by decide) (by decide) (by decide) fun tail st org hR hs => ?_
   unfold innerF
   rw [if_neg (by decide), if_neg (by decide), if_neg (by decide), if_neg (by decide), if_neg (by decide), if_neg (by decide), if_neg (by decide), if_pos rfl, num_ok (n := (at_ g a).items.length / 2) (tail := b ++ tail) (by omega) (by omega) (by rw [hs, List.append_assoc])]
   simp only [bnd]
   rw [show 2 * ((at_ g a).items.length / 2) = (at_ g a).items.length by omega]
   rcases h tail { st with s := b ++ tail } org [] (hR.put _ _) rfl with ⟨js, st', org', new, on, c1, c2, c3, c4, c5, c6, c7⟩ | ⟨c1, c2⟩
   ·rw [c1]
    have hgood := good_of (m := st'.g.length) ha k7 (c.num0 (by omega)) (c.text0 (by omega) (by omega) (by omega)) (c.nam0 (by omega)) c6 c5
    exact .inl ⟨⟨7, 0, [], [], js⟩, st', org', new, on, rfl, c2, c3, c4.pre, hgood, by simp only at c7; omega⟩
   ·rw [c1]
    exact .inr ⟨rfl, by simp only at c2; omega⟩
  rename_i k7
  rw [if_neg k7] at hF
  have k8 : (at_ g a).kind = 8 := by have := c.kind; omega
  have hlen := c.lens k8
  have hcls := c.cls k8
  have hzl : ((at_ g a).names.zip (at_ g a).items).length = (at_ g a).items.length := by rw [List.length_zip, hlen]; omega
  have hF2 : Few (symW (putW { w with cells := w.cells ++ [a] } [111]) (at_ g a).text) := (gone_put _ _).few ((gone_fold (gone_pair g n) _ _).few hF)
  obtain ⟨x, b1, e1, hx, h1⟩ := sym_back (w := putW { w with cells := w.cells ++ [a] } [111]) hcls.2 hFw.1
  obtain ⟨b, e, h⟩ := back_attrs hkw ih ((at_ g a).names.zip (at_ g a).items) (putW (symW (putW { w with cells := w.cells ++ [a] } [111]) (at_ g a).text) (num (at_ g a).names.length)) (fun p hp => by
   have hz := List.of_mem_zip (a := p.1) (b := p.2) hp
   exact ⟨hits _ hz.2, c.nam _ hz.1⟩) (((hk2.put _).sym _).put _) (by rw [put_cells, sym_cells, put_cells]; show freeN g (w.cells ++ [a]) < n; omega) hF
  rw [put_cells, sym_cells, put_cells] at h
  simp only at h
  show Back g w (((at_ g a).names.zip (at_ g a).items).foldl (pairW g n) (putW (symW (putW { w with cells := w.cells ++ [a] } [111]) (at_ g a).text) (num (at_ g a).names.length))) a
  refine back_open (x := 111) (b := x :: (b1 ++ (num (at_ g a).names.length ++ b))) (by rw [e]; show (symW _ _).out ++ _ ++ _ = _; rw [e1]; show (w.out ++ [111]) ++ _ ++ _ ++ _ = _; simp) (by decide) (by decide) (by decide) fun tail st org hR hs => ?_
  unfold innerF
  rw [if_neg (by decide), if_neg (by decide), if_neg (by decide), if_neg (by decide), if_neg (by decide), if_neg (by decide), if_neg (by decide), if_neg (by decide)]
  have hs2 : st.s = x :: (b1 ++ (num (at_ g a).names.length ++ (b ++ tail))) := by rw [hs]; simp
  have hnx : nextS st = .ok (x, { st with s := b1 ++ (num (at_ g a).names.length ++ (b ++ tail)) }) := by unfold nextS; rw [hs2]
  have hst : st.ss = (putW { w with cells := w.cells ++ [a] } [111]).ss := hR.ss
  have hsy : symS x { st with s := b1 ++ (num (at_ g a).names.length ++ (b ++ tail)) } = .ok ((at_ g a).text, { st with s := num (at_ g a).names.length ++ (b ++ tail), ss := (symW (putW { w with cells := w.cells ++ [a] } [111]) (at_ g a).text).ss }) := by
   unfold symS
   simp only
   rw [hst, h1]
  rw [hnx]
  simp only [bnd]
  rw [hsy]
  simp only
  rw [if_pos hcls.1, num_ok (n := (at_ g a).names.length) (tail := b ++ tail) (by omega) (by omega) rfl]
  simp only
  have hR2 : Rl { w with cells := w.cells ++ [a] } st org := hR
  have hR3 := ((hR2.put [111] st.s).sym (at_ g a).text (b ++ tail)).put (num (at_ g a).names.length) (b ++ tail)
  have hfst := zip_fst hlen
  have hsnd := zip_snd hlen
  rcases h tail _ org [] [] hR3 rfl (by rw [hfst]; exact c.dup) with ⟨js, st', org', new, on, c1, c2, c3, c4, c5, c6, c7⟩ | ⟨c1, c2⟩
  ·rw [hzl, ← hlen] at c1
   rw [hfst] at c1
   rw [c1]
   rw [hsnd] at c6
   rw [hzl] at c7
   have hgood := good_of (m := st'.g.length) ha k8 (c.num0 (by omega)) rfl rfl c6 c5
   exact .inl ⟨⟨8, 0, (at_ g a).text, (at_ g a).names, js⟩, st', org', new, on, rfl, c2, c3, ⟨c4.g_, c4.o_, c4.len, c4.good, c4.sub⟩, hgood, by simp only at c7; omega⟩
  ·rw [hzl, ← hlen] at c1
   rw [c1]
   rw [hzl] at c2
   exact .inr ⟨rfl, by simp only at c2; omega⟩
end Go.Marshal
namespace Go.Marshal
open Go.Core
theorem fold_le {α : Type} {f : Wr → α → Wr} {Q : Wr → Nat} {c : Nat} : ∀ (l : List α) (w : Wr), (∀ w, ∀ x ∈ l, Q (f w x) ≤ Q w + c) → Q (l.foldl f w) ≤ Q w + c * l.length
 | [], w, _ => by simp
 | x :: l, w, h => by
  rw [List.foldl_cons]
  have h1 := h w x (by simp)
  have h2 := fold_le (Q := Q) l (f w x) fun w y hy => h w y (by simp [hy])
  rw [List.length_cons, Nat.mul_add]; omega
def iS (c : Cell) : Nat := c.items.length + c.names.length + 1
theorem sym_ss (w : Wr) (t : B) : (symW w t).ss.length ≤ w.ss.length + 1 := by
 unfold symW
 split
 ·show w.ss.length ≤ _; omega
 ·show (w.ss ++ [t]).length ≤ _; simp
theorem write_ss {g : List Cell} {K : Nat} (hg : InG g) (hc : ∀ i, InI g i → CellW K (at_ g i)) : ∀ (n : Nat) (w : Wr) (a : Int), InI g a → (writeF g n w a).ss.length + wgt iS g (writeF g n w a).cells ≤ w.ss.length + wgt iS g w.cells + 1
 | 0, w, a, _ => by unfold writeF; omega
 | n + 1, w, a, ha => by
  have c := hc a ha
  unfold writeF
  simp only
  split
  ·show w.ss.length + wgt iS g w.cells ≤ _; omega
  split
  ·show w.ss.length + wgt iS g w.cells ≤ _; omega
  split
  ·show w.ss.length + wgt iS g w.cells ≤ _; omega
  split
  ·show w.ss.length + wgt iS g w.cells ≤ _; omega
  split
  ·rw [sym_cells]
   have := sym_ss w (at_ g a).text
   omega
  split
  ·show w.ss.length + wgt iS g w.cells ≤ _; omega
  rename_i k0 k1 k2 k3 k5 hm2
  have hw : wgt iS g (w.cells ++ [a]) + ((at_ g a).items.length + (at_ g a).names.length + 1) = wgt iS g w.cells := wgt_new (F := iS) ha hm2
  have step : ∀ w, ∀ x ∈ (at_ g a).items, (writeF g n w x).ss.length + wgt iS g (writeF g n w x).cells ≤ w.ss.length + wgt iS g w.cells + 1 := fun w x hx => write_ss hg hc n w x (outs_in hg ha hx)
  split
  ·show w.ss.length + wgt iS g (w.cells ++ [a]) ≤ _; omega
  split
  ·refine Nat.le_trans (fold_le (Q := fun w => w.ss.length + wgt iS g w.cells) (c := 1) _ _ step) ?_
   show w.ss.length + wgt iS g (w.cells ++ [a]) + 1 * _ ≤ _; omega
  split
  ·refine Nat.le_trans (fold_le (Q := fun w => w.ss.length + wgt iS g w.cells) (c := 1) _ _ step) ?_
   show w.ss.length + wgt iS g (w.cells ++ [a]) + 1 * _ ≤ _; omega
  ·have k8 : (at_ g a).kind = 8 := by have := c.kind; omega
   have hl := c.lens k8
   refine Nat.le_trans (fold_le (Q := fun w => w.ss.length + wgt iS g w.cells) (c := 2) _ _ fun w p hp => ?_) ?_
   ·have := step (symW w p.1) p.2 (List.of_mem_zip (a := p.1) (b := p.2) hp).2
    rw [sym_cells] at this
    have := sym_ss w p.1
    show (writeF g n (symW w p.1) p.2).ss.length + _ ≤ _
    omega
   ·have := sym_ss (putW { w with cells := w.cells ++ [a] } [111]) (at_ g a).text
    rw [put_cells, sym_cells, put_cells, List.length_zip, hl, Nat.min_self]
    show (symW _ _).ss.length + wgt iS g (w.cells ++ [a]) + 2 * _ ≤ _
    have : (putW { w with cells := w.cells ++ [a] } [111]).ss.length = w.ss.length := rfl
    omega
structure WDone (g : List Cell) (R : Int → Prop) (cs ds : List Int) : Prop where
 sub : ∀ x ∈ cs, x ∈ ds
 new : ∀ x ∈ ds, x ∈ cs ∨ R x ∧ ∀ k ∈ outs g x, shared (at_ g k) → k ∈ ds
theorem WDone.refl (g : List Cell) (R : Int → Prop) (cs : List Int) : WDone g R cs cs := ⟨fun _ h => h, fun _ h => .inl h⟩
theorem WDone.trans {g : List Cell} {R : Int → Prop} {a b c : List Int} (h : WDone g R a b) (k : WDone g R b c) : WDone g R a c :=
 ⟨fun x hx => k.sub x (h.sub x hx), fun x hx => by
  rcases k.new x hx with h1 | h1
  ·rcases h.new x h1 with h2 | h2
   ·exact .inl h2
   ·exact .inr ⟨h2.1, fun y hy hs => k.sub y (h2.2 y hy hs)⟩
  ·exact .inr h1⟩
theorem cellW_of {g : List Cell} {K : Nat} (hv : ValidP g) (hs : ∀ c ∈ g, c.items.length ≤ 2000 ∧ c.text.length + 30 ≤ K) (i : Int) (hi : InI g i) : CellW K (at_ g i) := by
 have hm := at_mem hi
 have hd := hv.2.1 _ hm
 have hp : plainS (at_ g i) = true := by
  have := cell_eq g.length (at_ g i)
  rw [hd, Bool.and_eq_true] at this
  exact this.1
 obtain ⟨hs1, hs2⟩ := hs _ hm
 have htx := cellD_text hd
 have hmx : maxI = (maxN : Int) := rfl
 generalize at_ g i = c at *
 unfold plainS at hp
 simp only [Bool.and_eq_true] at hp
 obtain ⟨⟨⟨⟨hk, ht⟩, hn⟩, hb⟩, hl⟩ := hp
 simp only [decide_eq_true_eq, Bool.or_eq_true] at hk hn hb
 rw [hmx] at hb
 have hic : ∀ s, Go.Scan.icB s = true → s.length ≤ 40 := fun s h => by
  unfold Go.Scan.icB Go.Scan.iwB at h
  simp only [Bool.and_eq_true, decide_eq_true_eq] at h
  exact h.1.1.2
 have hii : ∀ s, Go.Scan.iiB s = true → s.length ≤ 40 := fun s h => by
  unfold Go.Scan.iiB at h
  simp only [Bool.and_eq_true, decide_eq_true_eq] at h
  exact h.2
 refine ⟨hk, fun _ => hb, fun h => hn.resolve_left h, ⟨htx, hs2⟩, fun h => ?_, fun h => ?_, fun h4 h5 h8 => ?_, fun h => ?_, fun h => ?_, fun h => ?_, fun h => ?_, ?_, ?_, hs1⟩
 ·rw [if_neg (by omega), if_pos h] at ht
  simpa using ht
 ·rw [if_neg (by omega), if_neg (by omega), if_pos h] at ht
  exact ⟨ht, hic _ ht⟩
 ·rw [if_neg h4, if_neg h5, if_neg h8] at ht
  simpa using ht
 ·rw [if_pos h] at hl
  simpa using hl
 ·by_cases h5 : c.kind ≤ 5
  ·rw [if_pos h5] at hl
   simp only [Bool.and_eq_true, decide_eq_true_eq] at hl
   exact hl.2
  ·rw [if_neg h5, if_pos h] at hl
   simp only [Bool.and_eq_true, decide_eq_true_eq] at hl
   exact hl.1
 ·rw [if_neg (by omega), if_pos (by omega)] at hl
  simp only [Bool.and_eq_true, Bool.or_eq_true, decide_eq_true_eq] at hl
  exact hl.2.resolve_left (by omega)
 ·rw [if_neg (by omega), if_neg (by omega)] at hl
  simp only [Bool.and_eq_true, decide_eq_true_eq] at hl
  exact hl.1.1
 ·by_cases h8 : c.kind = 8
  ·rw [if_neg (by omega), if_neg (by omega)] at hl
   simp only [Bool.and_eq_true, decide_eq_true_eq] at hl
   exact hl.1.2
  ·by_cases h5 : c.kind ≤ 5
   ·rw [if_pos h5] at hl
    simp only [Bool.and_eq_true, decide_eq_true_eq] at hl
    rw [hl.2]; exact List.nodup_nil
   ·rw [if_neg h5, if_pos h8] at hl
    simp only [Bool.and_eq_true, decide_eq_true_eq] at hl
    rw [hl.1]; exact List.nodup_nil
 ·by_cases h8 : c.kind = 8
  ·rw [if_neg (by omega), if_neg (by omega)] at hl
   simp only [Bool.and_eq_true] at hl
   exact fun t ht => ⟨List.all_eq_true.1 hl.2 t ht, hii t (List.all_eq_true.1 hl.2 t ht)⟩
  ·by_cases h5 : c.kind ≤ 5
   ·rw [if_pos h5] at hl
    simp only [Bool.and_eq_true, decide_eq_true_eq] at hl
    rw [hl.2]; exact fun t ht => by cases ht
   ·rw [if_neg h5, if_pos h8] at hl
    simp only [Bool.and_eq_true, decide_eq_true_eq] at hl
    rw [hl.1]; exact fun t ht => by cases ht
end Go.Marshal
namespace Go.Marshal
def idxR {α : Type} (l : List α) : List (α × Value) := l.zipIdx.map fun p => (p.1, .int .i64 (p.2 : Int))
theorem beq_inst {α : Type} [DecidableEq α] [B : BEq α] [LawfulBEq α] : B = instBEqOfDecidableEq := by
 have h : ∀ a b, @BEq.beq α B a b = decide (a = b) := fun a b => by rw [Bool.eq_iff_iff]; simp
 cases B with
 | mk f => exact congrArg BEq.mk (funext fun a => funext fun b => h a b)
theorem idxR_look0 {α : Type} [DecidableEq α] (l : List α) (x : α) : (idxR l).lookup x = if x ∈ l then some (.int .i64 (l.idxOf x : Int)) else none := by
 unfold idxR
 have key : ∀ (l : List α) (k : Nat), ((l.zipIdx k).map fun p => (p.1, Value.int .i64 (p.2 : Int))).lookup x = if x ∈ l then some (.int .i64 ((l.idxOf x + k : Nat) : Int)) else none := by
  intro l
  induction l with
  | nil => intro k; rfl
  | cons y l ih =>
   intro k
   rw [List.zipIdx_cons, List.map_cons, List.lookup_cons, List.idxOf_cons]
   by_cases h : x = y
   ·subst h
    simp
   ·have h1 : (x == y) = false := by simpa using h
    have h2 : (y == x) = false := by simpa using fun e => h e.symm
    rw [h1, h2, ih (k + 1)]
    simp only [List.mem_cons, h, false_or, cond_false]
    split
    ·congr 2; omega
    ·rfl
 have := key l 0
 simpa using this
theorem idxR_look {α : Type} [D : DecidableEq α] [B : BEq α] [LawfulBEq α] (l : List α) (x : α) : @List.lookup α Value (@instBEqOfDecidableEq α D) x (idxR l) = if x ∈ l then some (.int .i64 (@List.idxOf α B x l : Int)) else none := by
 have e := beq_inst (B := B)
 subst e
 rw [idxR_look0]
theorem upd_new {α : Type} [DecidableEq α] (x : α) (v : Value) : ∀ R : List (α × Value), (∀ p ∈ R, p.1 ≠ x) → Go.AX.upd x v R = R ++ [(x, v)]
 | [], _ => rfl
 | (y, u) :: R, h => by
  unfold Go.AX.upd
  rw [if_neg (fun e => h (y, u) (by simp) e.symm), upd_new x v R fun p hp => h p (by simp [hp])]
  rfl
theorem idxR_put {α : Type} [DecidableEq α] {l : List α} {x : α} (h : x ∉ l) : Go.AX.upd x (.int .i64 (l.length : Int)) (idxR l) = idxR (l ++ [x]) := by
 rw [upd_new]
 ·unfold idxR
  rw [List.zipIdx_append, List.map_append]
  simp
 ·intro p hp e
  unfold idxR at hp
  obtain ⟨q, hq, rfl⟩ := List.mem_map.1 hp
  have := List.mem_zipIdx hq
  exact h (by rw [← e]; simp only [Nat.zero_add, Nat.sub_zero] at this; rw [this.2.2]; exact List.getElem_mem _)
theorem idxR_len {α : Type} (l : List α) : (idxR l).length = l.length := by unfold idxR; simp
end Go.Marshal
namespace Go.Proofs.YtgogonnnojcioaaGreatDoor
open Go.AX Go.RowKit Go.Core Go.Marshal
set_option maxRecDepth 20000
theorem strT : KeyT Tryz.prog 9 (fun k : List UInt8 => .string (bs k)) := strKeyT (by kernel_rfl)
structure WOk (w : Wr) (x : BSt × MapP) : Prop where
 b : x.1.ok w.out.length
 c : KeysAre (fun k : Int => .int .i64 k) x.2.ce.toList (idxR w.cells)
 s : KeysAre (fun k : List UInt8 => .string (bs k)) x.2.se.toList (idxR w.ss)
variable (gv : Value) (F : World → Prop) (mb sb : Nat)
def wOut (w : Wr) : Out → List Ent → Prop := RetG (ι := BSt × MapP) (fun x => WOk w x) (fun _ => .tuple #[]) fun x => wM gv F true w.out x.1 mb sb x.2
theorem text_m (w : Wr) (t : List UInt8) (i : BSt) (q : MapP) (ho : WOk w (i, q)) (hl : w.out.length ≤ 200000000000) (ht : t.length ≤ 100000000000) :
  SpecH Tryz.prog 59 [.c (.lp 0 0), .c (.v (.string (bs t)))] (wM gv F true w.out i mb sb q) (wOut gv F mb sb (putW w (num t.length ++ t))) := by
 refine ownC hm Tryz.func59 (by kernel_rfl) rfl rfl (fun _ _ => wM_ok _ _ _ _ _ _ _ _) (fun _ _ => Nat.le_refl _) ?_
 refine wXD ?_
 refine DrawN.planQ [0, 3, 6] [1, 2, 4, 5, 7] [(8, 0)] (by decide +kernel) ?_
 refine wXD ?_
 have hnl := num_len (n := t.length) (by omega)
 rw [bs_size]
 refine callQ (wide_c t.length (by omega) _) ?_
 refine wXD ?_
 refine Nd.mk (by rw [bs_size, bs_size]; omega) ?_
 rw [bs_app]
 refine wXD ?_
 refine callG (WriteString_m gv F mb sb (q) true (w.out) (num t.length ++ t) i ho.b (by first | omega | (simp; omega))) [0, 1, 2, 3, 4] rfl ⟨rfl, rfl, rfl, rfl, rfl, trivial⟩ rfl fun i2 hi2 => ?_
 refine wXD ?_
 exact ⟨(i2, q), ⟨hi2, ho.c, ho.s⟩, rfl, wkE_refl _, wkE_refl _, wkE_refl _, wkE_refl _, wkE_refl _, trivial⟩
theorem symbol_m (w : Wr) (t : List UInt8) (i : BSt) (q : MapP) (ho : WOk w (i, q)) (hl : w.out.length ≤ 100000000000) (ht : t.length ≤ 100000000000) (hs : w.ss.length ≤ 100000000000) :
  SpecH Tryz.prog 58 [.c (.lp 0 0), .c (.v (.string (bs t)))] (wM gv F true w.out i mb sb q) (wOut gv F mb sb (symW w t)) := by
 refine ownC hm Tryz.func58 (by kernel_rfl) rfl rfl (fun _ _ => wM_ok _ _ _ _ _ _ _ _) (fun _ _ => Nat.le_refl _) ?_
 refine wXD ?_
 refine ReadW.askKey (et := 3) (p := t) (idxR w.ss) rfl (by kernel_rfl) strT rfl rfl rfl rfl (fun w hw => hw.2.2.1) ho.s ?_
 rw [idxR_look]
 by_cases h : t ∈ w.ss
 ·have hi := List.idxOf_lt_length_iff.2 h
  rw [if_pos h, show symW w t = putW w (59 :: num (w.ss.idxOf t)) by unfold symW; rw [if_pos h]]
  generalize w.ss.idxOf t = k at hi ⊢
  refine wXD ?_
  refine DrawN.planQ [0, 3] [1, 2, 4, 5] [(6, 0)] (by decide +kernel) ?_
  refine wXD ?_
  have hnl := num_len (n := k) (by omega)
  refine callQ (wide_c k (by omega) _) ?_
  refine wXD ?_
  refine Nd.mk (by rw [bs_size]; show 1 + _ < _; omega) ?_
  rw [show (⟨#[59]⟩ : ByteArray) = bs [59] from rfl, bs_app]
  refine wXD ?_
  refine callG (WriteString_m gv F mb sb (q) true (w.out) ([59] ++ num k) i ho.b (by first | omega | (simp; omega))) [0, 1, 2, 3, 4] rfl ⟨rfl, rfl, rfl, rfl, rfl, trivial⟩ rfl fun i2 hi2 => ?_
  refine wXD ?_
  exact ⟨(i2, q), ⟨hi2, ho.c, ho.s⟩, rfl, wkE_refl _, wkE_refl _, wkE_refl _, wkE_refl _, wkE_refl _, trivial⟩
 ·rw [if_neg h, show symW w t = ⟨w.out ++ (58 :: (num t.length ++ t)), w.cells, w.ss ++ [t]⟩ by unfold symW; rw [if_neg h], show (⟨w.out ++ (58 :: (num t.length ++ t)), w.cells, w.ss ++ [t]⟩ : Wr) = putW ⟨w.out ++ [58], w.cells, w.ss ++ [t]⟩ (num t.length ++ t) by unfold putW; simp]
  refine wXD ?_
  refine DrawN.planQ [0, 4, 5] [1, 2, 3, 6, 7, 8, 9] [(10, 0)] (by decide +kernel) ?_
  refine wXD ?_
  refine ReadW.mapLen (kt := 9) (et := 3) w.ss.length rfl rfl rfl (by kernel_rfl) rfl (fun w hw => hw.2.2.1) (by rw [← Array.length_toList, ho.s.len, idxR_len]) ?_
  refine wXD ?_
  refine EffW.setMap (et := 3) (p := t) 3 (idxR w.ss) rfl (by kernel_rfl) strT rfl rfl rfl rfl ho.s fun es2 c2 hk2 => ?_
  rw [idxR_put h] at hk2
  refine wXD ?_
  refine callG (WriteString_m gv F mb sb (⟨q.ce, q.cc, es2, c2⟩) true (w.out) ([58]) i ho.b (by first | omega | (simp; omega))) [0, 1, 2, 3, 4] rfl ⟨rfl, rfl, rfl, rfl, rfl, trivial⟩ rfl fun i2 hi2 => ?_
  refine wXD ?_
  refine callG (text_m gv F mb sb ⟨w.out ++ [58], w.cells, w.ss ++ [t]⟩ t i2 ⟨q.ce, q.cc, es2, c2⟩ ⟨hi2, ho.c, hk2⟩ (by show (w.out ++ [58]).length ≤ _; simp; omega) ht) [0, 1, 2, 3, 4] rfl ⟨rfl, rfl, rfl, rfl, rfl, trivial⟩ rfl fun x hx => ?_
  refine wXD ?_
  exact ⟨x, hx, rfl, wkE_refl _, wkE_refl _, wkE_refl _, wkE_refl _, wkE_refl _, trivial⟩
end Go.Proofs.YtgogonnnojcioaaGreatDoor
namespace Go.Marshal
open Go.Core
structure Img (g h : List Cell) (k : Int) (org : List Int) : Prop where
 len : org.length = h.length
 cell : ∀ i, InI h i → at_ g (lk org i) = reNum (lk org) (at_ h i)
 inI : ∀ i, InI h i → InI g (lk org i)
 inG : InG h
 root : InI h 0 ∧ lk org 0 = k
 inj : ∀ i j, InI h i → InI h j → shared (at_ h j) → lk org i = lk org j → i = j
theorem at_get {h : List Cell} {j : Nat} {c : Cell} (hj : h[j]? = some c) : at_ h (j : Int) = c := by
 unfold at_
 rw [Int.toNat_natCast, List.getD_eq_getElem?_getD, hj]
 rfl
theorem inI_nat {h : List Cell} {i : Int} (hi : InI h i) : ∃ (j : Nat) (c : Cell), i = (j : Int) ∧ h[j]? = some c :=
 ⟨i.toNat, _, by have := hi.1; omega, List.getElem?_eq_getElem (by have := hi.1; have := hi.2; omega)⟩
theorem nodup_inj {α β : Type} {f : α → β} : ∀ {l : List α}, (l.map f).Nodup → ∀ x ∈ l, ∀ y ∈ l, f x = f y → x = y
 | [], _, _, h => by cases h
 | a :: l, hn, x, hx => by
  rw [List.map_cons] at hn
  have h1 := List.nodup_cons.1 hn
  intro y hy e
  rcases List.mem_cons.1 hx with rfl | hx2
  ·rcases List.mem_cons.1 hy with rfl | hy2
   ·rfl
   ·exact absurd (List.mem_map.2 ⟨y, hy2, e.symm⟩) h1.1
  ·rcases List.mem_cons.1 hy with rfl | hy2
   ·exact absurd (List.mem_map.2 ⟨x, hx2, e⟩) h1.1
   ·exact nodup_inj h1.2 x hx2 y hy2 e
theorem img_of {g : List Cell} {w : Wr} {st : St} {org on : List Int} {new : List Cell} {k : Int} {ss : List B} {s : B} (hR : Rl w st org) (hE : Ex g ⟨s, [], [], ss⟩ st [] org new on) (hkn : Kn g w) (hr : 0 < st.g.length) (hk : lk org 0 = k) :
  Img g st.g k org ∧ (∀ i, i ∈ st.cells ↔ InI st.g i ∧ shared (at_ st.g i)) ∧ st.cells.Nodup := by
 have hg : st.g = new := hE.g_
 have ho : org = on := hE.o_
 have key : ∀ i, InI st.g i → ∃ x, lk org i = x ∧ Good g org st.g.length (at_ st.g i) x ∧ (shared (at_ st.g i) → i ∈ st.cells) := fun i hi => by
  obtain ⟨j, c, rfl, hj⟩ := inI_nat hi
  have hjl := (List.getElem?_eq_some_iff.1 hj).1
  obtain ⟨x, hx⟩ : ∃ x, org[j]? = some x := ⟨_, List.getElem?_eq_getElem (by rw [hR.len]; exact hjl)⟩
  obtain ⟨h1, h2⟩ := hE.good j c x (by rw [← hg]; exact hj) (by rw [← ho]; exact hx)
  rw [at_get hj]
  have e : lk org (j : Int) = x := by
   unfold lk
   rw [Int.toNat_natCast, List.getD_eq_getElem?_getD, hx]
   rfl
  refine ⟨x, e, h1, fun hs => ?_⟩
  have := h2 hs
  rw [List.length_nil, Nat.zero_add] at this
  exact this
 have hnd : st.cells.Nodup := by
  have := hkn.nodup
  rw [← hR.cells] at this
  exact List.Pairwise.imp_of_mem (fun {a b} _ _ hab e => hab (by rw [e])) (List.pairwise_map.1 this)
 have hcs : ∀ i, i ∈ st.cells ↔ InI st.g i ∧ shared (at_ st.g i) := fun i => by
  refine ⟨fun hi => ?_, fun hi => ?_⟩
  ·have hin : InI st.g i := hR.rng i hi
   obtain ⟨x, e, h1, _⟩ := key i hin
   have hxw : x ∈ w.cells := by rw [← hR.cells, ← e]; exact List.mem_map.2 ⟨i, hi, rfl⟩
   have := hkn.sh x hxw
   rw [h1.cell] at this
   exact ⟨hin, this⟩
  ·obtain ⟨x, e, h1, h2⟩ := key i hi.1
   exact h2 hi.2
 refine ⟨⟨hR.len, fun i hi => ?_, fun i hi => ?_, fun c hc i hi => ?_, ⟨⟨Int.le_refl _, by omega⟩, hk⟩, fun i j hi hj hs he => ?_⟩, hcs, hnd⟩
 ·obtain ⟨x, e, h1, _⟩ := key i hi
  rw [e]; exact h1.cell
 ·obtain ⟨x, e, h1, _⟩ := key i hi
  rw [e]; exact h1.inI
 ·obtain ⟨j, hj⟩ := List.getElem?_of_mem hc
  have hjl := (List.getElem?_eq_some_iff.1 hj).1
  obtain ⟨x, e, h1, _⟩ := key (j : Int) ⟨by omega, by omega⟩
  rw [at_get hj] at h1
  exact h1.rng i hi
 ·obtain ⟨x, e, h1, _⟩ := key i hi
  obtain ⟨y, e2, h3, h4⟩ := key j hj
  have hjm := h4 hs
  have hxy : x = y := by rw [← e, ← e2, he]
  have hsi : shared (at_ st.g i) := by
   have k1 : (at_ g x).kind = (at_ st.g i).kind := by rw [h1.cell]; rfl
   have k2 : (at_ g y).kind = (at_ st.g j).kind := by rw [h3.cell]; rfl
   unfold shared at hs ⊢
   rw [← k1, hxy, k2]
   exact hs
  have hn := hkn.nodup
  rw [← hR.cells] at hn
  exact nodup_inj hn i ((hcs i).2 ⟨hi, hsi⟩) j hjm he
theorem valid_img {g h : List Cell} {k : Int} {org : List Int} (hv : ValidP g) (m : Img g h k org) (hl : h.length ≤ 500) : ValidP h := by
 have hin := valid_in hv
 have hcell : ∀ i, InI h i → cellD h.length (at_ h i) = true := fun i hi => by
  have h1 := hv.2.1 _ (at_mem (m.inI i hi))
  rw [m.cell i hi] at h1
  have hr : rangeB h.length (at_ h i) = true := by
   unfold rangeB
   rw [List.all_eq_true]
   intro y hy
   have := m.inG _ (at_mem hi) y hy
   simp [this.1, this.2]
  unfold cellD at h1 ⊢
  rw [hr, Bool.true_and]
  rw [Bool.and_assoc, Bool.and_eq_true] at h1
  have h2 := h1.2
  unfold reNum at h2
  simp only [List.map_eq_nil_iff, List.length_map] at h2
  exact h2
 have hkey : ∀ x y, InI h x → InI h y → keyB h x y = true → keyB g (lk org x) (lk org y) = true := fun x y hx hy hk => by
  unfold keyB at hk ⊢
  rw [m.cell x hx, m.cell y hy]
  simp only [Bool.or_eq_true, decide_eq_true_eq] at hk ⊢
  rcases hk with hk | hk
  ·exact .inl (by rw [hk])
  ·exact .inr hk
 refine ⟨hl, fun c hc => ?_, fun c hc h7 ht => ?_⟩
 ·obtain ⟨i, hi, rfl⟩ := mem_at hc
  exact hcell i hi
 ·obtain ⟨i, hi, rfl⟩ := mem_at hc
  obtain ⟨a, b, h1, h2, h3, h4, h5⟩ := ht
  refine hv.2.2 _ (at_mem (m.inI i hi)) (by rw [m.cell i hi]; exact h7) ⟨a, b, h1, ?_, h3, h4, ?_⟩
  ·rw [m.cell i hi]
   show a < ((at_ h i).items.map _).length
   rw [List.length_map]; exact h2
  ·rw [m.cell i hi]
   show keyB g (((at_ h i).items.map (lk org)).getD a 0) (((at_ h i).items.map (lk org)).getD b 0) = true
   obtain ⟨x, hx⟩ : ∃ x, (at_ h i).items[a]? = some x := ⟨_, List.getElem?_eq_getElem h2⟩
   obtain ⟨y, hy⟩ : ∃ y, (at_ h i).items[b]? = some y := ⟨_, List.getElem?_eq_getElem (by omega)⟩
   rw [List.getD_eq_getElem?_getD, List.getD_eq_getElem?_getD, hx, hy] at h5
   rw [List.getD_eq_getElem?_getD, List.getD_eq_getElem?_getD, List.getElem?_map, List.getElem?_map, hx, hy]
   exact hkey x y (outs_in m.inG hi (List.mem_of_getElem? hx)) (outs_in m.inG hi (List.mem_of_getElem? hy)) h5
structure Dmp (g : List Cell) (K : Nat) (k : Int) : Prop where
 valid : ValidP g
 small : ∀ c ∈ g, c.items.length ≤ 2000 ∧ c.names.length ≤ 2000 ∧ c.text.length + 30 ≤ K
 at_ : InI g k
theorem Dmp.cellW {g : List Cell} {K : Nat} {k : Int} (h : Dmp g K k) : ∀ i, InI g i → CellW K (Core.at_ g i) := fun i hi => cellW_of h.valid (fun c hc => ⟨(h.small c hc).1, (h.small c hc).2.2⟩) i hi
def doneW (g : List Cell) (k : Int) : Wr := writeF g (g.length + 1) ⟨headB, [], []⟩ k
theorem Dmp.kn {g : List Cell} {K : Nat} {k : Int} (h : Dmp g K k) : Kn g (doneW g k) :=
 Kn.write (valid_in h.valid) h.cellW _ _ _ h.at_ ⟨List.nodup_nil, (fun _ h => by cases h), fun _ h => by cases h⟩
theorem Dmp.wle {g : List Cell} {K : Nat} {k : Int} (h : Dmp g K k) : wgt iS g [] ≤ g.length * 4001 := wgt_le (fun i hi => by
 have := h.small _ (at_mem hi)
 unfold iS
 omega) []
theorem Dmp.few {g : List Cell} {K : Nat} {k : Int} (h : Dmp g K k) : Few (doneW g k) := by
 have h500 := h.valid.1
 have h1 := write_ss (valid_in h.valid) h.cellW (g.length + 1) ⟨headB, [], []⟩ k h.at_
 have h2 := h.wle
 have h3 := cells_few h500 h.kn.nodup h.kn.inI
 have hm : maxN = 1000000000000000 := rfl
 refine ⟨?_, by omega⟩
 unfold doneW
 have h4 : (⟨headB, [], []⟩ : Wr).ss.length = 0 := rfl
 have h5 : (⟨headB, [], []⟩ : Wr).cells = [] := rfl
 rw [h4, h5] at h1
 omega
open Classical in
theorem load_dump {g : List Cell} {K : Nat} {k : Int} (h : Dmp g K k) : (20000 < (dumpS g k).length ∧ loadS (dumpS g k) = .error 2) ∨ (500 < 1 + wgt iT g [] ∧ loadS (dumpS g k) = .error 4) ∨
  ∃ (q : List Cell) (org cs : List Int), loadS (dumpS g k) = (if ValidP q then .ok (q, (doneW g k).ss) else .error 1) ∧ Img g q k org ∧ q.length ≤ 1 + wgt iT g [] ∧ (∀ i, i ∈ cs ↔ InI q i ∧ shared (Core.at_ q i)) ∧ cs.Nodup ∧ cs.map (lk org) = (doneW g k).cells := by
 have hin := valid_in h.valid
 obtain ⟨b, e, hb⟩ := back_write h.valid.1 hin h.cellW (g.length + 1) ⟨headB, [], []⟩ k h.at_ ⟨List.nodup_nil, (fun _ h => by cases h), fun _ h => by cases h⟩ (Nat.lt_succ_of_le (free_le g [])) h.few
 have hd : dumpS g k = headB ++ b := e
 by_cases hl : 20000 < (dumpS g k).length
 ·refine .inl ⟨hl, ?_⟩
  unfold loadS
  rw [if_pos hl]
 ·have hload : loadS (dumpS g k) = match formS ⟨b, [], [], []⟩ with
   | .error e => .error e
   | .ok (_, st) => if st.s ≠ [] then .error 4 else if ValidP st.g then .ok (st.g, st.ss) else .error 1 := by
   unfold loadS
   rw [if_neg hl, hd]
   rfl
  rw [hload]
  rcases hb [] ⟨b, [], [], []⟩ [] ⟨rfl, rfl, rfl, fun _ h => by cases h⟩ (by simp) with ⟨i, st', org', new, on, h1, h2, h3, h4, h5, h6, h7, h8⟩ | ⟨h1, h2⟩
  ·rw [h1]
   simp only
   rw [if_neg (by rw [h2]; simp)]
   have h0 : i = 0 := h7.elim id fun h => by cases h
   subst h0
   obtain ⟨m, hcs, hnd⟩ := img_of h3 h4 h.kn (by have := h5.2; omega) h6
   refine .inr (.inr ⟨st'.g, org', st'.cells, ?_, m, ?_, hcs, hnd, h3.cells⟩)
   ·rw [h3.ss]; rfl
   ·have : (⟨b, [], [], []⟩ : St).g.length = 0 := rfl
    have h9 : (⟨headB, [], []⟩ : Wr).cells = [] := rfl
    rw [this, h9] at h8
    omega
  ·rw [h1]
   exact .inr (.inl ⟨by
    have : (⟨b, [], [], []⟩ : St).g.length = 0 := rfl
    have h9 : (⟨headB, [], []⟩ : Wr).cells = [] := rfl
    rw [this, h9] at h2
    omega, rfl⟩)
end Go.Marshal
