/-
  Lemmas (C2 C3 C4 C5 C6 N1 N2 S5 S6 S7 S8 S9 N3 C7 P2 P3 P4 P5 Ax41 Ax42 V1 W1 W2 Q1 Q2).
-/
import Derived.Lib.IndexAny
import Derived.Lib.IndexMore
import Derived.Test.YtpikpjlhdkkigaaDoorTsa4
set_option linter.unusedVariables false
set_option linter.unusedSimpArgs false
namespace Go.Proofs.YtpikpjlhdkkigaaDoor
open Go.AX Go.RowKit Go.Tree
set_option maxRecDepth 20000
structure LgS where
 i : Nat
 l : List TP
 b : Nat
 cap : Nat
theorem Large_c (t : TP) (hk : TreeK t) : ∀ H, (∀ w, Facts H w → TreeF w t) → SpecH Tryd.prog 4 (pvs [nodeV t]) H (RetR (fun v => ∃ b, v = .bool b) H) := by
 refine factR hm Tryd.func4 (by kernel_rfl) rfl rfl ?_
 refine wXR ?_
 refine RwN.known (nodesC [t]) rfl fun b0 => ?_
 refine wXR ?_
 refine LoopN.intro LgS (fun ⟨i, l, _, cap⟩ => i ≤ l.length ∧ l.length ≤ 4000 ∧ l.length ≤ cap ∧ (∀ k ∈ l, TreeK k) ∧ ∀ w, TreeF w t → ∀ k ∈ l, TreeF w k)
  (fun ⟨i, l, b, cap⟩ => mkS Tryd.f4.ntmps 0 [(1, .c (.lp 1 0)), (2, .c (.v (.bool false))), (3, .c (.v (.slice (some ⟨b, 0, none⟩) l.length cap))), (4, .c (.v (.int .i64 (i : Int))))])
  (fun ⟨_, l, b, cap⟩ => [.fact (fun w => TreeF w t), .blk 24 [.v (.int .i64 t.op), .v (.string (bs t.name)), .v (.int .i64 t.n), .v (.slice t.a t.kids.length t.cap)], .app 24 4 (nodesC l) (some ⟨b, 0, none⟩) l.length cap])
  (fun ⟨i, _, _, _⟩ => 4001 - i) [] rfl (fun _ => rfl) (fun _ => rfl) (fun _ _ => okHB_eq rfl)
  ⟨⟨0, [t], b0, 1⟩, ⟨Nat.zero_le _, by show 1 ≤ 4000; decide, Nat.le_refl _, fun k h => by simp at h; subst h; exact hk, fun w hw k h => by simp at h; subst h; exact hw⟩, ?_, wkH_refl _⟩ ?_
 ·exact wKK
 rintro ⟨i, l, b, cap⟩ ⟨hi, hl, hc, hK, hF⟩
 refine wXR ?_
 refine brd_dec (fun h1 => ?_) (fun h1 => ?_)
 ·obtain ⟨k, hx⟩ : ∃ k, l[i]? = some k := ⟨_, List.getElem?_eq_getElem (by omega)⟩
  have hkm := List.mem_of_getElem? hx
  have hkk := hK k hkm
  have hkl := hkk.len
  refine wXR ?_
  refine Nd.mk ⟨rfl, by omega, by omega⟩ ?_
  refine wXR ?_
  refine LdN.fld (.slice k.a k.kids.length k.cap) rfl (fun w hw => hw.2.1) (by rw [Int.toNat_natCast]; exact nodesC_get l i 3 (by decide) hx) ?_
  refine wXR ?_
  refine app_any 2 (nodesC l) (nodesC k.kids) rfl hc (fun h => (isT (i := 0) hkk.nil (List.getElem?_eq_getElem h))) (nodesC_len _) (nodesC_plain _) (fun w hw j v hv => (hF w hw.1 k hkm).row.cell hv) ⟨⟨by show (l.length + k.kids.length) * 56 ≤ _; omega, by omega⟩, by decide⟩ fun b2 c2 h2 => ?_
  rw [nodesC_app]
  refine wXR ?_
  refine brd_dec (fun h3 => ?_) (fun h3 => ?_)
  ·refine wXR ?_
   exact ⟨_, rfl, true, rfl⟩
  ·refine wXR ?_
   have e1 : l.length + k.kids.length = (l ++ k.kids).length := by simp
   rw [e1]
   refine ⟨⟨i + 1, l ++ k.kids, b2, c2⟩, ⟨by rw [← e1]; omega, by show (l ++ k.kids).length ≤ 4000; omega, by rw [← e1]; exact h2, ?_, ?_⟩, by show 4001 - (i + 1) < 4001 - i; omega, ?_, wkH_refl _⟩
   ·intro q hq
    rcases List.mem_append.1 hq with hq | hq
    ·exact hK q hq
    ·exact hkk.kid hq
   ·intro w hw q hq
    rcases List.mem_append.1 hq with hq | hq
    ·exact hF w hw q hq
    ·exact (hF w hw k hkm).kid hq
   ·exact wKK
 ·refine wXR ?_
  exact ⟨_, rfl, false, rfl⟩
noncomputable def sameT (t u : TP) : Bool := @decide _ (Classical.propDecidable (t.er = u.er))
theorem sameT_iff (t u : TP) : sameT t u = true ↔ t.er = u.er := @decide_eq_true_iff _ (Classical.propDecidable _)
theorem sameT_no {t u : TP} (h : ¬ t.er = u.er) : sameT t u = false := by rw [Bool.eq_false_iff]; exact fun h2 => h ((sameT_iff t u).1 h2)
theorem er_op {t u : TP} (h : t.er = u.er) : t.op = u.op ∧ t.name = u.name ∧ t.n = u.n ∧ ers t.kids = ers u.kids := by
 rw [er_eq, er_eq u] at h
 simp only [TP.mk.injEq] at h
 exact ⟨h.1, h.2.1, h.2.2.1, h.2.2.2.2.1⟩
theorem er_of {t u : TP} (h1 : t.op = u.op) (h2 : t.name = u.name) (h3 : t.n = u.n) (h4 : ers t.kids = ers u.kids) : t.er = u.er := by rw [er_eq, er_eq u, h1, h2, h3, h4]
def SameC (g : Nat) (t : TP) : Prop := TreeK t → ∀ u, TreeK u → ∀ H, (∀ w, Facts H w → TreeF w t ∧ TreeF w u) → SpecH Tryd.prog g (pvs [nodeV t, nodeV u]) H (Ret (.bool (sameT t u)) H)
noncomputable def sameL (l m : List TP) : Bool := @decide _ (Classical.propDecidable (ers l = ers m))
theorem sameL_iff (l m : List TP) : sameL l m = true ↔ ers l = ers m := @decide_eq_true_iff _ (Classical.propDecidable _)
theorem sameL_no {l m : List TP} (h : ¬ ers l = ers m) : sameL l m = false := by rw [Bool.eq_false_iff]; exact fun h2 => h ((sameL_iff l m).1 h2)
theorem EqualFunc_n (t u : TP) (hs : ∀ k ∈ t.kids, SameC 7 k) (ht : TreeK t) (hu : TreeK u) :
  ∀ H, (∀ w, Facts H w → TreeF w t ∧ TreeF w u) → SpecH Tryd.prog 12 (pvs [.slice t.a t.kids.length t.cap, .slice u.a u.kids.length u.cap, .func (.func 7) #[] #[]]) H (Ret (.bool (sameL t.kids u.kids)) H) := by
 refine factC hm Tryd.func12 (by kernel_rfl) rfl rfl ?_
 have hl := ht.len
 refine wX ?_
 refine brd_ne (fun h0 => ?_) (fun h0 => ?_)
 ·refine wX ?_
  rw [sameL_no fun h => by have := congrArg List.length h; simp [ers_map] at this; omega]
 have hlm : t.kids.length = u.kids.length := by omega
 refine wX ?_
 refine loopS Nat (fun i => i ≤ t.kids.length ∧ (ers t.kids).take i = (ers u.kids).take i) (fun i => mkS Tryd.f12.ntmps 0 [(0, .c (.v (.slice t.a t.kids.length t.cap))), (1, .c (.v (.slice u.a u.kids.length u.cap))), (2, .c (.v (.func (.func 7) #[] #[]))), (15, .c (.v (.slice t.a t.kids.length t.cap))), (16, .c (.v (.int .i64 (t.kids.length : Int)))), (17, .c (.v (.int .i64 (i : Int))))]) (fun i => t.kids.length - i) rfl (fun _ => rfl) 0 ⟨Nat.zero_le _, rfl⟩ ?_ ?_
 ·exact wKK
 intro i ⟨hi, heq⟩
 refine wX ?_
 refine brd_dec (fun h1 => ?_) (fun h1 => ?_)
 ·obtain ⟨x, hx⟩ : ∃ x, t.kids[i]? = some x := ⟨_, List.getElem?_eq_getElem (by omega)⟩
  obtain ⟨y, hy⟩ : ∃ y, u.kids[i]? = some y := ⟨_, List.getElem?_eq_getElem (by omega)⟩
  obtain ⟨ht1, ht2⟩ := take_t (x := x.er) (y := y.er) heq (by rw [ers_map, List.getElem?_map, hx]; rfl) (by rw [ers_map, List.getElem?_map, hy]; rfl)
  have hsa := kid_some ht hx
  have hsb := kid_some hu hy
  refine wX ?_
  refine Nd.mk ⟨hsa, by omega, by omega⟩ ?_
  refine wX ?_
  refine LdN.agg (nodeC x) rfl (fun w hw => hw.1.1.row) rfl (fun j hj => by
   rw [Int.toNat_natCast]
   exact nodesC_get t.kids i j hj hx) ?_
  refine wX ?_
  refine Nd.mk ⟨hsb, by omega, by omega⟩ ?_
  refine wX ?_
  refine LdN.agg (nodeC y) rfl (fun w hw => hw.1.2.row) rfl (fun j hj => by
   rw [Int.toNat_natCast]
   exact nodesC_get u.kids i j hj hy) ?_
  refine wX ?_
  have hml := List.mem_of_getElem? hx
  have hmu := List.mem_of_getElem? hy
  refine call1 (hs x hml (ht.kid hml) y (hu.kid hmu) _ (fun w hw => ⟨hw.1.1.kid hml, hw.1.2.kid hmu⟩)) ?_
  by_cases he : x.er = y.er
  ·rw [(sameT_iff x y).2 he]
   refine wX ?_
   refine ⟨i + 1, ⟨by omega, ht1 he⟩, by omega, ?_, wHH⟩
   exact wKK
  ·rw [sameT_no he]
   refine wX ?_
   rw [sameL_no (ht2 he)]
 ·have hie : i = t.kids.length := by omega
  subst hie
  refine wX ?_
  rw [(sameL_iff _ _).2]
  have e1 : (ers t.kids).length = t.kids.length := by simp [ers_map]
  have e2 : (ers u.kids).length = t.kids.length := by simp [ers_map, hlm]
  rw [List.take_of_length_le (by omega), List.take_of_length_le (by omega)] at heq
  exact heq
theorem Same_c : ∀ t, SameC 7 t := by
 refine TP.ind fun t ih ht u hu => ?_
 refine factC hm Tryd.func7 (by kernel_rfl) rfl rfl ?_
 refine wX ?_
 refine brd_eq (fun h1 => ?_) (fun h1 => ?_)
 ·refine wX ?_
  refine brd_intro (fun h2 => ?_) (fun h2 => ?_)
  ·have h2' : t.name = u.name := eq_of_beq (show (t.name == u.name) = true from h2)
   refine wX ?_
   refine brd_eq (fun h4 => ?_) (fun h4 => ?_)
   ·refine wX ?_
    refine call1 (EqualFunc_n t u ih ht hu _ (fun w hw => hw.1)) ?_
    refine wX ?_
    refine ret_b ?_
    rw [sameT_iff, sameL_iff]
    exact ⟨fun h => er_of h1 h2' h4 h, fun h => (er_op h).2.2.2⟩
   ·refine wX ?_
    rw [sameT_no fun h => h4 (er_op h).2.2.1]
  ·have h2' : ¬ t.name = u.name := fun h => by
    have h3 : (t.name == u.name) = false := h2
    rw [h] at h3
    simp at h3
   refine wX ?_
   rw [sameT_no fun h => h2' (er_op h).2.1]
 ·refine wX ?_
  rw [sameT_no fun h => h1 (er_op h).1]
theorem RSame_c : ∀ t, SameC 8 t := by
 refine TP.ind fun t ih ht u hu => ?_
 refine factC hm Tryd.func8 (by kernel_rfl) rfl rfl ?_
 have hl := ht.len
 refine wX ?_
 refine brd_ne (fun h1 => ?_) (fun h1 => ?_)
 ·refine wX ?_
  rw [sameT_no fun h => h1 (er_op h).1]
 refine wX ?_
 refine brd_intro (fun h2 => ?_) (fun h2 => ?_)
 ·have h2' : ¬ t.name = u.name := fun h => by
   have h3 : (!(t.name == u.name)) = true := h2
   rw [h] at h3
   simp at h3
  refine wX ?_
  rw [sameT_no fun h => h2' (er_op h).2.1]
 have h2' : t.name = u.name := by
  have h3 : (!(t.name == u.name)) = false := h2
  simpa using h3
 refine wX ?_
 refine brd_ne (fun h3 => ?_) (fun h3 => ?_)
 ·refine wX ?_
  rw [sameT_no fun h => h3 (er_op h).2.2.1]
 refine wX ?_
 refine brd_ne (fun h4 => ?_) (fun h4 => ?_)
 ·refine wX ?_
  rw [sameT_no fun h => h4 (by have := congrArg List.length (er_op h).2.2.2; simp [ers_map] at this; omega)]
 have hlm : t.kids.length = u.kids.length := by omega
 refine wX ?_
 refine loopS Nat (fun i => i ≤ t.kids.length ∧ (ers t.kids).take i = (ers u.kids).take i) (fun i => mkS Tryd.f8.ntmps 0 [(2, .c (.lp 1 0)), (3, .c (.lp 2 0)), (4, .c (.v (.bool false))), (5, .c (.v (.int .i64 (i : Int))))]) (fun i => t.kids.length - i) rfl (fun _ => rfl) 0 ⟨Nat.zero_le _, rfl⟩ ?_ ?_
 ·exact wKK
 intro i ⟨hi, heq⟩
 refine wX ?_
 refine brd_dec (fun h5 => ?_) (fun h5 => ?_)
 ·obtain ⟨x, hx⟩ : ∃ x, t.kids[i]? = some x := ⟨_, List.getElem?_eq_getElem (by omega)⟩
  obtain ⟨y, hy⟩ : ∃ y, u.kids[i]? = some y := ⟨_, List.getElem?_eq_getElem (by omega)⟩
  obtain ⟨ht1, ht2⟩ := take_t (x := x.er) (y := y.er) heq (by rw [ers_map, List.getElem?_map, hx]; rfl) (by rw [ers_map, List.getElem?_map, hy]; rfl)
  have hsa := kid_some ht hx
  have hsb := kid_some hu hy
  have hml := List.mem_of_getElem? hx
  have hmu := List.mem_of_getElem? hy
  refine wX ?_
  refine Nd.mk ⟨hsa, by omega, by omega⟩ ?_
  refine wX ?_
  refine LdN.agg (nodeC x) rfl (fun w hw => hw.1.1.row) rfl (fun j hj => by
   rw [Int.toNat_natCast]
   exact nodesC_get t.kids i j hj hx) ?_
  refine wX ?_
  refine Nd.mk ⟨hsb, by omega, by omega⟩ ?_
  refine wX ?_
  refine LdN.agg (nodeC y) rfl (fun w hw => hw.1.2.row) rfl (fun j hj => by
   rw [Int.toNat_natCast]
   exact nodesC_get u.kids i j hj hy) ?_
  refine wX ?_
  refine callQ (ih x hml (ht.kid hml) y (hu.kid hmu) _ ?_) ?_
  ·exact fun w hw => ⟨hw.1.1.kid hml, hw.1.2.kid hmu⟩
  by_cases he : x.er = y.er
  ·rw [(sameT_iff x y).2 he]
   refine wX ?_
   refine ⟨i + 1, ⟨by omega, ht1 he⟩, by omega, ?_, wHH⟩
   exact wKK
  ·rw [sameT_no he]
   refine wX ?_
   rw [sameT_no fun h => ht2 he (er_op h).2.2.2]
 ·have hie : i = t.kids.length := by omega
  subst hie
  refine wX ?_
  rw [(sameT_iff _ _).2]
  have e1 : (ers t.kids).length = t.kids.length := by simp [ers_map]
  have e2 : (ers u.kids).length = t.kids.length := by simp [ers_map, hlm]
  rw [List.take_of_length_le (by omega), List.take_of_length_le (by omega)] at heq
  exact er_of h1 h2' h3 heq
end Go.Proofs.YtpikpjlhdkkigaaDoor
namespace Go.AX
theorem SpecF.keep {P : Program} {f : FuncId} {xs : List Value} {F : World → Prop} {R : Value → (World → Prop) → Prop} {ι : Type} {inv : ι → Prop} {val : ι → Value} {T : ι → World → Prop} (h : SpecF P f xs F R) (hR : ∀ v G, R v G → ∃ i, inv i ∧ v = val i ∧ ∀ w, G w → T i w) (A : World → Prop) (hA : ∀ w, A w → F w) :
  SpecH P f (pvs xs) [.fact A] (RetG inv val fun i => [.fact fun w => A w ∧ T i w]) :=
 SpecH.seal (fun _ _ => Nat.le_refl _) (SpecF.call h (fun w hw => hA w hw.1) fun v G hRv => by
  obtain ⟨i, hi, rfl, hT⟩ := hR v G hRv
  exact ⟨i, hi, rfl, by show 1 ≤ 2; decide, fun e he => .inr ⟨_, List.mem_singleton.1 he, fun w hw => ⟨hw.1, hT w hw.2.1⟩⟩⟩)
end Go.AX
namespace Go.Proofs.YtpikpjlhdkkigaaDoor
open Go.AX Go.RowKit Go.Tree
set_option maxRecDepth 20000
def Like (t u : TP) : Prop := u.er = t.er ∧ TreeK u
def CopyR (t : TP) (v : Value) (G : World → Prop) : Prop := ∃ u, v = nodeV u ∧ Like t u ∧ ∀ w, G w → TreeF w u
theorem CopyR.idx {t : TP} (v : Value) (G : World → Prop) (h : CopyR t v G) : ∃ u, Like t u ∧ v = nodeV u ∧ ∀ w, G w → TreeF w u := by
 obtain ⟨u, h1, h2, h3⟩ := h
 exact ⟨u, h2, h1, h3⟩
structure CpS where
 i : Nat
 l : List TP
 a : Option Addr
 cap : Nat
def kidC (t : TP) (v : Value) : List Value := [.int .i64 t.op, .string (bs t.name), .int .i64 t.n, v]
theorem RCopy_c : ∀ t, TreeK t → SpecF Tryd.prog 9 [nodeV t] (fun w => TreeF w t) (CopyR t) := by
 refine TP.ind fun t ih ht => ?_
 refine specF hm Tryd.func9 (by kernel_rfl) rfl rfl ?_
 have hl := ht.len
 (conv => whnf)
 refine BoxN.known (nodeC t) rfl fun nb => ?_
 (conv => whnf)
 refine BoxN.own ?_
 (conv => whnf)
 refine LdN.agg (a := some ⟨nb, 0, none⟩) (q := 0) (nodeC t) rfl (fun w hw => hw.2.1) rfl (fun j hj => by rw [Nat.zero_add]) ?_
 (conv => whnf)
 refine BoxN.known [.int .i64 0, .string (bs []), .int .i64 0, .slice none 0 0] rfl fun mb => ?_
 (conv => whnf)
 refine EffW.appTo (i := 3) (q := 0) (ys := nodeC t) (nodeC t) 4 rfl rfl rfl rfl rfl rfl rfl (Nat.le_of_ble_eq_true rfl) rfl rfl ?_
 refine wX ?_
 refine EffW.appTo (i := 3) (q := 3) (ys := [_]) (kidC t (.slice none 0 0)) 4 rfl rfl rfl rfl rfl rfl rfl (Nat.le_of_ble_eq_true rfl) rfl rfl ?_
 refine wX ?_
 refine LoopN.intro CpS (fun ⟨i, l, a, cap⟩ => i ≤ t.kids.length ∧ ers l = (ers t.kids).take i ∧ l.length = i ∧ (a = none → l = []) ∧ l.length ≤ cap ∧ ∀ u ∈ l, TreeK u)
  (fun ⟨i, _, _, _⟩ => mkS Tryd.f9.ntmps 0 [(1, .c (.v (.pointer (some ⟨nb, 0, none⟩)))), (2, .c (.lp 2 0)), (3, .c (.v (.pointer (some ⟨mb, 0, none⟩)))), (4, .c (.v (.int .i64 (i : Int))))])
  (fun ⟨_, l, a, cap⟩ => [.fact (fun w => TreeF w t ∧ ∀ u ∈ l, TreeF w u), .app 24 4 (nodeC t) (some ⟨nb, 0, none⟩) 1 1, .blk 24 (cellsV (.agg #[.int .i64 0, .string ⟨#[]⟩, .int .i64 0, .slice none 0 0])), .app 24 4 (kidC t (.slice a l.length cap)) (some ⟨mb, 0, none⟩) 1 1, .app 24 4 (nodesC l) a l.length cap])
  (fun ⟨i, _, _, _⟩ => t.kids.length - i) [.app 24 4 [] none 0 0] rfl (fun _ => rfl) (fun _ => rfl) (fun _ _ => okHB_eq rfl)
  ⟨⟨0, [], none, 0⟩, ⟨Nat.zero_le _, rfl, rfl, fun _ => rfl, Nat.le_refl _, fun u hu => by cases hu⟩, ?_, ⟨fun w hw => ⟨hw, fun u hu => by cases hu⟩, wkE_refl _, wkE_refl _, wkE_refl _, wkE_refl _, wkH_nil _⟩⟩ ?_
 ·exact wKK
 rintro ⟨i, l, a, cap⟩ ⟨hi, he, hln, hna, hlc, hK⟩
 refine wX ?_
 refine LdN.one (a := some ⟨nb, 0, none⟩) (q := 3) (.slice t.a t.kids.length t.cap) rfl (fun w hw => hw.2.1) rfl ?_
 refine wX ?_
 refine brd_dec (fun h1 => ?_) (fun h1 => ?_)
 ·obtain ⟨x, hx⟩ : ∃ x, t.kids[i]? = some x := ⟨_, List.getElem?_eq_getElem (by omega)⟩
  have hsa := kid_some ht hx
  have hml := List.mem_of_getElem? hx
  refine wX ?_
  refine DrawN.planC (fun w => SlAt (some ⟨nb, 0, none⟩) 4 (nodeC t) w ∧ SlAt (some ⟨mb, 0, none⟩) 4 (kidC t (.slice a l.length cap)) w ∧ TreeF w t) [0, 2, 4] [(1, 1), (3, 1), (5, 1), (6, 1), (7, 0), (8, 0)] [(9, 0), (10, 0), (11, 0)] (by decide +kernel) (fun w hw => ⟨hw.2.1, hw.2.2.1, hw.1.1⟩) ?_
  ((conv => whnf); (repeat ((first | refine Nd.mk (fun w hw => ⟨hw.2.1, hw.2.2.1, hw.1.1⟩) ?_ | refine RwN.own ?_ | refine VrN.norm (wrap_i64 (by omega)) ?_ | refine VrN.keep ?_ | refine Nd.mk (by decide +kernel) ?_ | refine Nd.mk (by omega) ?_ | refine RdN.intro _ rfl (by rfl) ?_); (conv => whnf))))
  refine ReadC.one (a := some ⟨mb, 0, none⟩) (q := 3) (.slice a l.length cap) rfl rfl rfl (fun w hw => hw.2.1) rfl ?_
  ((conv => whnf); (repeat ((first | refine Nd.mk (fun w hw => ⟨hw.2.1, hw.2.2.1, hw.1.1⟩) ?_ | refine RwN.own ?_ | refine VrN.norm (wrap_i64 (by omega)) ?_ | refine VrN.keep ?_ | refine Nd.mk (by decide +kernel) ?_ | refine Nd.mk (by omega) ?_ | refine RdN.intro _ rfl (by rfl) ?_); (conv => whnf))))
  refine ReadC.one (a := some ⟨nb, 0, none⟩) (q := 3) (.slice t.a t.kids.length t.cap) rfl rfl rfl (fun w hw => hw.1) rfl ?_
  ((conv => whnf); (repeat ((first | refine Nd.mk (fun w hw => ⟨hw.2.1, hw.2.2.1, hw.1.1⟩) ?_ | refine RwN.own ?_ | refine VrN.norm (wrap_i64 (by omega)) ?_ | refine VrN.keep ?_ | refine Nd.mk (by decide +kernel) ?_ | refine Nd.mk (by omega) ?_ | refine RdN.intro _ rfl (by rfl) ?_); (conv => whnf))))
  refine ReadC.idxA (e := 24) (sz := 4) i rfl Tryd.underlying22 rfl rfl rfl rfl hsa (by omega) ?_
  ((conv => whnf); (repeat ((first | refine Nd.mk (fun w hw => ⟨hw.2.1, hw.2.2.1, hw.1.1⟩) ?_ | refine RwN.own ?_ | refine VrN.norm (wrap_i64 (by omega)) ?_ | refine VrN.keep ?_ | refine Nd.mk (by decide +kernel) ?_ | refine Nd.mk (by omega) ?_ | refine RdN.intro _ rfl (by rfl) ?_); (conv => whnf))))
  refine ReadC.agg (a := t.a) (q := i * 4) (nodeC x) rfl rfl rfl (fun w hw => hw.2.2.row) rfl (fun j hj => nodesC_get t.kids i j hj hx) ?_
  ((conv => whnf); (repeat ((first | refine Nd.mk (fun w hw => ⟨hw.2.1, hw.2.2.1, hw.1.1⟩) ?_ | refine RwN.own ?_ | refine VrN.norm (wrap_i64 (by omega)) ?_ | refine VrN.keep ?_ | refine Nd.mk (by decide +kernel) ?_ | refine Nd.mk (by omega) ?_ | refine RdN.intro _ rfl (by rfl) ?_); (conv => whnf))))
  refine callG ((ih x hml (ht.kid hml)).keep CopyR.idx (fun w => TreeF w t ∧ ∀ u ∈ l, TreeF w u) (fun w hw => hw.1.kid hml)) [0] rfl ⟨rfl, trivial⟩ rfl fun u hu => ?_
  ((conv => whnf); (repeat ((first | refine Nd.mk (fun w hw => ⟨hw.2.1, hw.2.2.1, hw.1.1.1⟩) ?_ | refine RwN.own ?_ | refine VrN.norm (wrap_i64 (by omega)) ?_ | refine VrN.keep ?_ | refine Nd.mk (by decide +kernel) ?_ | refine Nd.mk (by omega) ?_ | refine RdN.intro _ rfl (by rfl) ?_); (conv => whnf))))
  refine Nd.mk ⟨Nat.le_refl 1, rfl, rfl⟩ ?_
  (conv => whnf)
  refine AppN.grow 4 (nodesC l) (nodeC u) rfl rfl ⟨Nat.le_refl 1, ⟨by show (l.length + 1) * 56 ≤ _; omega, by omega⟩, by decide⟩ fun b' c' g1 g2 => ?_
  refine wX ?_
  have e1 : nodesC l ++ nodeC u = nodesC (l ++ [u]) := by rw [nodesC_one, nodesC_app]
  have e2 : l.length + 1 = (l ++ [u]).length := by simp
  rw [e1, e2]
  refine EffW.appTo (i := 3) (q := 3) (ys := [_]) (kidC t (.slice (some ⟨b', 0, none⟩) (l ++ [u]).length c')) 4 rfl rfl rfl rfl rfl rfl rfl (Nat.le_of_ble_eq_true rfl) rfl rfl ?_
  refine wX ?_
  refine ⟨⟨i + 1, l ++ [u], some ⟨b', 0, none⟩, c'⟩, ⟨by omega, ?_, by rw [← e2]; omega, (fun h => by cases h), by rw [← e2]; exact g1, ?_⟩, by show t.kids.length - (i + 1) < t.kids.length - i; omega, ?_, ⟨fun w hw => ⟨hw.1.1, fun v hv => ?_⟩, wkE_refl _, wkE_refl _, wkE_refl _, wkE_refl _, wkH_nil _⟩⟩
  ·rw [List.take_add_one, ers_map t.kids, List.getElem?_map, hx, ← ers_map, ← he, ers_map, ers_map, List.map_append]
   simp [hu.1]
  ·intro v hv
   rcases List.mem_append.1 hv with hv | hv
   ·exact hK v hv
   ·rw [List.mem_singleton.1 hv]; exact hu.2
  ·exact wKK
  ·rcases List.mem_append.1 hv with hv | hv
   ·exact hw.1.2 v hv
   ·rw [List.mem_singleton.1 hv]; exact hw.2
 ·have hie : i = t.kids.length := by omega
  rw [List.take_of_length_le (by rw [ers_map, List.length_map]; omega)] at he
  refine wX ?_
  refine LdN.agg (a := some ⟨mb, 0, none⟩) (q := 0) (kidC t (.slice a l.length cap)) rfl (fun w hw => hw.2.2.1) rfl (fun j hj => by rw [Nat.zero_add]) ?_
  refine wX ?_
  refine fin_p (fun w => TreeF w ⟨t.op, t.name, t.n, a, l, cap⟩) ⟨⟨t.op, t.name, t.n, a, l, cap⟩, rfl, ⟨?_, .mk hna (by show l.length ≤ _; omega) ht.str hlc hK⟩, fun w hw => hw⟩ fun w hw => .mk hw.2.2.2.1 (by show l.length ≤ _; omega) ht.str hlc hw.1.2
  rw [er_eq, er_eq t]
  show TP.mk _ _ _ _ (ers l) _ = _
  rw [he]
end Go.Proofs.YtpikpjlhdkkigaaDoor
namespace Go.Proofs.YtpikpjlhdkkigaaDoor
open Go.AX Go.RowKit Go.Tree
set_option maxRecDepth 20000
abbrev nodeT : TypeId := 24
def rowT (u : TP) : List RowD := match u.a with | some ad => [⟨nodeT, 4, u.kids.length, nodesC u.kids, ad.block, u.cap⟩] | none => []
def rowsT (l : List TP) : List RowD := l.flatMap rowT
theorem rowsT_snoc (l : List TP) (u : TP) : rowsT (l ++ [u]) = rowsT l ++ rowT u := by unfold rowsT; rw [List.flatMap_append]; simp
def rowEnt (u : TP) : Ent := .app nodeT 4 (nodesC u.kids) u.a u.kids.length u.cap
structure Own1 (t u : TP) : Prop where
 er : u.er = t.er
 k : TreeK u
 a : ∃ ob, u.a = at0 ob
 cap : u.kids.length ≤ u.cap
set_option maxHeartbeats 1000000 in
theorem Copy1_of (t : TP) (ih : ∀ k ∈ t.kids, TreeK k → SpecF Tryd.prog 6 [nodeV k] (fun w => TreeF w k) (CopyR k)) (ht : TreeK t) (A : World → Prop) (hA : ∀ w, A w → TreeF w t) :
  SpecH Tryd.prog 6 (pvs [nodeV t]) [.fact A] (RetG (Own1 t) nodeV fun u => [.fact (fun w => A w ∧ ∀ k ∈ u.kids, TreeF w k), .dead, .dead, rowEnt u]) := by
 refine ownC hm Tryd.func6 (by kernel_rfl) rfl rfl (fun _ _ => okHB_eq rfl) (fun _ _ => by show 1 ≤ 4; decide) ?_
 have hl := ht.len
 refine wX ?_
 refine LoopN.intro CpS (fun ⟨i, l, a, cap⟩ => i ≤ t.kids.length ∧ ers l = (ers t.kids).take i ∧ l.length = i ∧ (a = none → l = []) ∧ l.length ≤ cap ∧ (∀ u ∈ l, TreeK u) ∧ ∃ ob, a = at0 ob)
  (fun ⟨i, l, a, cap⟩ => mkS Tryd.f6.ntmps 0 [(1, .c (.lp 1 0)), (2, .c (.lp 2 0)), (3, .c (.v (.slice a l.length cap))), (7, .c (.v (.slice t.a t.kids.length t.cap))), (8, .c (.v (.int .i64 (t.kids.length : Int)))), (9, .c (.v (.int .i64 (i : Int))))])
  (fun ⟨_, l, a, cap⟩ => [.fact (fun w => A w ∧ ∀ u ∈ l, TreeF w u), .blk 24 (cellsV (nodeV t)), .blk 24 (cellsV (.agg #[.int .i64 0, .string ⟨#[]⟩, .int .i64 0, .slice none 0 0])), .app nodeT 4 (nodesC l) a l.length cap])
  (fun ⟨i, _, _, _⟩ => t.kids.length - i) [.app nodeT 4 [] none 0 0] rfl (fun _ => rfl) (fun _ => rfl) (fun _ _ => okHB_eq rfl)
  ⟨⟨0, [], none, 0⟩, ⟨Nat.zero_le _, rfl, rfl, fun _ => rfl, Nat.le_refl _, (fun u hu => by cases hu), none, rfl⟩, ?_, ⟨fun w hw => ⟨hw, fun u hu => by cases hu⟩, wkE_refl _, wkE_refl _, wkE_refl _, wkH_nil _⟩⟩ ?_
 ·exact wKK
 rintro ⟨i, l, a, cap⟩ ⟨hi, he, hln, hna, hlc, hK, hob⟩
 refine wX ?_
 refine brd_dec (fun h1 => ?_) (fun h1 => ?_)
 ·obtain ⟨x, hx⟩ : ∃ x, t.kids[i]? = some x := ⟨_, List.getElem?_eq_getElem (by omega)⟩
  have hsa := kid_some ht hx
  have hml := List.mem_of_getElem? hx
  refine wX ?_
  refine Nd.mk ⟨hsa, by omega, by omega⟩ ?_
  refine wX ?_
  refine LdN.agg (nodeC x) rfl (fun w hw => (hA w hw.1.1).row) rfl (fun j hj => by rw [Int.toNat_natCast]; exact nodesC_get t.kids i j hj hx) ?_
  refine wX ?_
  refine callG ((ih x hml (ht.kid hml)).keep CopyR.idx (fun w => A w ∧ ∀ u ∈ l, TreeF w u) (fun w hw => (hA w hw.1).kid hml)) [0] rfl ⟨rfl, trivial⟩ rfl fun u hu => ?_
  refine wX ?_
  refine Nd.mk ⟨Nat.le_refl 1, rfl, rfl⟩ ?_
  (conv => whnf)
  refine AppN.grow 3 (nodesC l) (nodeC u) rfl rfl ⟨Nat.le_refl 1, ⟨by show (l.length + 1) * 56 ≤ _; omega, by omega⟩, by decide⟩ fun b' c' g1 g2 => ?_
  refine wX ?_
  have e1 : nodesC l ++ nodeC u = nodesC (l ++ [u]) := by rw [nodesC_one, nodesC_app]
  have e2 : l.length + 1 = (l ++ [u]).length := by simp
  rw [e1, e2]
  refine ⟨⟨i + 1, l ++ [u], some ⟨b', 0, none⟩, c'⟩, ⟨by omega, ?_, by rw [← e2]; omega, (fun h => by cases h), by rw [← e2]; exact g1, ?_, some b', rfl⟩, by show t.kids.length - (i + 1) < t.kids.length - i; omega, ?_, ⟨fun w hw => ⟨hw.1.1, fun v hv => ?_⟩, wkE_refl _, wkE_refl _, wkE_refl _, wkH_nil _⟩⟩
  ·rw [List.take_add_one, ers_map t.kids, List.getElem?_map, hx, ← ers_map, ← he, ers_map, ers_map, List.map_append]
   simp [hu.1]
  ·intro v hv
   rcases List.mem_append.1 hv with hv | hv
   ·exact hK v hv
   ·rw [List.mem_singleton.1 hv]; exact hu.2
  ·exact wKK
  ·rcases List.mem_append.1 hv with hv | hv
   ·exact hw.1.2 v hv
   ·rw [List.mem_singleton.1 hv]; exact hw.2
 ·have hie : i = t.kids.length := by omega
  rw [List.take_of_length_le (by rw [ers_map, List.length_map]; omega)] at he
  refine wX ?_
  refine ⟨⟨t.op, t.name, t.n, a, l, cap⟩, ⟨?_, .mk hna (by show l.length ≤ _; omega) ht.str hlc hK, hob, hlc⟩, rfl, ⟨wkE_refl _, trivial, trivial, wkE_refl _, wkH_nil _⟩⟩
  rw [er_eq, er_eq t]
  show TP.mk _ _ _ _ (ers l) _ = _
  rw [he]
theorem Copy_c : ∀ t, TreeK t → SpecF Tryd.prog 6 [nodeV t] (fun w => TreeF w t) (CopyR t) := by
 refine TP.ind fun t ih ht => ?_
 refine specF_of ((Copy1_of t ih ht (fun w => TreeF w t) (fun w hw => hw)).mono fun out H' ⟨u, hu, ho, hH⟩ => ?_)
 subst ho hH
 exact fin_p (fun w => TreeF w u) ⟨u, rfl, ⟨hu.er, hu.k⟩, fun w hw => hw⟩ fun w hw => .mk hw.2.1 hu.k.len hu.k.str hu.cap hw.1.2
theorem Copy1_c (t : TP) (ht : TreeK t) (A : World → Prop) (hA : ∀ w, A w → TreeF w t) :
  SpecH Tryd.prog 6 (pvs [nodeV t]) [.fact A] (RetG (Own1 t) nodeV fun u => [.fact (fun w => A w ∧ ∀ k ∈ u.kids, TreeF w k), .dead, .dead, rowEnt u]) := Copy1_of t (fun k _ hk => Copy_c k hk) ht A hA
structure Own2 (t u : TP) : Prop where
 er : u.er = t.er
 k : TreeK u
 a : ∃ ob, u.a = at0 ob
 cap : u.kids.length ≤ u.cap
 own : ∀ k ∈ u.kids, (∃ ob, k.a = at0 ob) ∧ k.kids.length ≤ k.cap
theorem Copy2_c (t : TP) (ht : TreeK t) (A : World → Prop) (hA : ∀ w, A w → TreeF w t) :
  SpecH Tryd.prog 6 (pvs [nodeV t]) [.fact A] (RetG (Own2 t) nodeV fun u => [.fact (fun w => A w ∧ ∀ k ∈ u.kids, ∀ g ∈ k.kids, TreeF w g), .dead, .dead, rowEnt u, famE (rowsT u.kids)]) := by
 refine ownC hm Tryd.func6 (by kernel_rfl) rfl rfl (fun _ _ => okHB_eq rfl) (fun _ _ => by show 1 ≤ 5; decide) ?_
 have hl := ht.len
 refine wX ?_
 refine LoopN.introS CpS (fun ⟨i, l, a, cap⟩ => i ≤ t.kids.length ∧ ers l = (ers t.kids).take i ∧ l.length = i ∧ (a = none → l = []) ∧ l.length ≤ cap ∧ (∀ u ∈ l, TreeK u ∧ (∃ ob, u.a = at0 ob) ∧ u.kids.length ≤ u.cap) ∧ ∃ ob, a = at0 ob)
  (fun ⟨i, l, a, cap⟩ => mkS Tryd.f6.ntmps 0 [(1, .c (.lp 1 0)), (2, .c (.lp 2 0)), (3, .c (.v (.slice a l.length cap))), (7, .c (.v (.slice t.a t.kids.length t.cap))), (8, .c (.v (.int .i64 (t.kids.length : Int)))), (9, .c (.v (.int .i64 (i : Int))))])
  (fun ⟨_, l, a, cap⟩ => [.fact (fun w => A w ∧ ∀ u ∈ l, ∀ g ∈ u.kids, TreeF w g), .blk 24 (cellsV (nodeV t)), .blk 24 (cellsV (.agg #[.int .i64 0, .string ⟨#[]⟩, .int .i64 0, .slice none 0 0])), .app nodeT 4 (nodesC l) a l.length cap, famE (rowsT l)])
  (fun ⟨i, _, _, _⟩ => t.kids.length - i) [.app nodeT 4 [] none 0 0, .dead] rfl (fun _ => rfl) (fun _ => rfl) (fun _ _ => okHB_eq rfl)
  ⟨⟨0, [], none, 0⟩, ⟨Nat.zero_le _, rfl, rfl, fun _ => rfl, Nat.le_refl _, (fun u hu => by cases hu), none, rfl⟩, ?_, _, (famNew 4 rfl).s, ⟨fun w hw => ⟨hw, fun u hu => by cases hu⟩, wkE_refl _, wkE_refl _, wkE_refl _, wkE_refl _, wkH_nil _⟩⟩ ?_
 ·exact wKK
 rintro ⟨i, l, a, cap⟩ ⟨hi, he, hln, hna, hlc, hK, hob⟩
 refine wX ?_
 refine brd_dec (fun h1 => ?_) (fun h1 => ?_)
 ·obtain ⟨x, hx⟩ : ∃ x, t.kids[i]? = some x := ⟨_, List.getElem?_eq_getElem (by omega)⟩
  have hsa := kid_some ht hx
  have hml := List.mem_of_getElem? hx
  refine wX ?_
  refine Nd.mk ⟨hsa, by omega, by omega⟩ ?_
  refine wX ?_
  refine LdN.agg (nodeC x) rfl (fun w hw => (hA w hw.1.1).row) rfl (fun j hj => by rw [Int.toNat_natCast]; exact nodesC_get t.kids i j hj hx) ?_
  refine wX ?_
  refine callG (Copy1_c x (ht.kid hml) (fun w => A w ∧ ∀ u ∈ l, ∀ g ∈ u.kids, TreeF w g) (fun w hw => (hA w hw.1).kid hml)) [0] rfl ⟨rfl, trivial⟩ rfl fun u hu => ?_
  obtain ⟨ob, hua⟩ := hu.a
  refine wX ?_
  refine Nd.mk ⟨Nat.le_refl 1, rfl, rfl⟩ ?_
  (conv => whnf)
  refine AppN.grow 3 (nodesC l) (nodeC u) rfl rfl ⟨Nat.le_refl 1, ⟨by show (l.length + 1) * 56 ≤ _; omega, by omega⟩, by decide⟩ fun b' c' g1 g2 => ?_
  refine wX ?_
  have e1 : nodesC l ++ nodeC u = nodesC (l ++ [u]) := by rw [nodesC_one, nodesC_app]
  have e2 : l.length + 1 = (l ++ [u]).length := by simp
  have e3 := rowsT_snoc l u
  have e4 : rowT u = optRow nodeT 4 u.kids.length (nodesC u.kids) ob u.cap := by
   unfold rowT
   rw [hua]
   cases ob <;> rfl
  rw [e1, e2]
  refine ⟨⟨i + 1, l ++ [u], some ⟨b', 0, none⟩, c'⟩, ⟨by omega, ?_, by rw [← e2]; omega, (fun h => by cases h), by rw [← e2]; exact g1, ?_, some b', rfl⟩, by show t.kids.length - (i + 1) < t.kids.length - i; omega, ?_, _, (famPutO 4 8 ob rfl (by show some (rowEnt u) = _; unfold rowEnt; rw [hua]; rfl) rfl (l' := rowsT (l ++ [u])) (by rw [e3, e4]; exact List.perm_append_comm)).s, ⟨fun w hw => ⟨hw.1.1, fun v hv => ?_⟩, wkE_refl _, wkE_refl _, wkE_refl _, wkE_refl _, wkH_nil _⟩⟩
  ·rw [List.take_add_one, ers_map t.kids, List.getElem?_map, hx, ← ers_map, ← he, ers_map, ers_map, List.map_append]
   simp [hu.er]
  ·intro v hv
   rcases List.mem_append.1 hv with hv | hv
   ·exact hK v hv
   ·rw [List.mem_singleton.1 hv]; exact ⟨hu.k, hu.a, hu.cap⟩
  ·exact wKK
  ·rcases List.mem_append.1 hv with hv | hv
   ·exact hw.1.2 v hv
   ·rw [List.mem_singleton.1 hv]; exact hw.2
 ·have hie : i = t.kids.length := by omega
  rw [List.take_of_length_le (by rw [ers_map, List.length_map]; omega)] at he
  refine wX ?_
  refine ⟨⟨t.op, t.name, t.n, a, l, cap⟩, ⟨?_, .mk hna (by show l.length ≤ _; omega) ht.str hlc fun k hk => (hK k hk).1, hob, hlc, fun k hk => (hK k hk).2⟩, rfl, ⟨wkE_refl _, trivial, trivial, wkE_refl _, wkE_refl _, wkH_nil _⟩⟩
  rw [er_eq, er_eq t]
  show TP.mk _ _ _ _ (ers l) _ = _
  rw [he]
end Go.Proofs.YtpikpjlhdkkigaaDoor
namespace Go.Scan
set_option maxRecDepth 20000
def opL : List (List UInt8) := [[43], [45], [42], [47], [37], [61, 61], [60], [60, 61], [62], [62, 61], [60, 61, 62], [61, 61, 61], [60, 60], [91, 93], [91, 93, 61], [46, 46]]
def ops : List UInt8 := [43, 32, 45, 32, 42, 32, 47, 32, 37, 32, 61, 61, 32, 60, 32, 60, 61, 32, 62, 32, 62, 61, 32, 60, 61, 62, 32, 61, 61, 61, 32, 60, 60, 32, 91, 93, 32, 91, 93, 61, 32, 46, 46]
def hd (s : List UInt8) : UInt8 := s.headD 0
def iwB (s : List UInt8) : Bool := s.all wrd && !s.isEmpty && decide (s.length ≤ 40) && !dig (hd s)
def endB (s : List UInt8) : Bool := s.getLast? == some 63 || s.getLast? == some 33
def bareS (s : List UInt8) : List UInt8 := if endB s then s.dropLast else s
def inB (s : List UInt8) : Bool := iwB (bareS s) && sml (hd (bareS s)) && decide (s.length ≤ 40)
def icB (s : List UInt8) : Bool := iwB s && !sml (hd s)
def iiB (s : List UInt8) : Bool := decide (1 < s.length) && hd s == 64 && iwB s.tail && sml (hd s.tail) && decide (s.length ≤ 40)
def setB (s : List UInt8) : Bool := s.getLast? == some 61 && iwB s.dropLast && sml (hd s.dropLast) && decide (s.length ≤ 40)
end Go.Scan
namespace Go.Proofs.YtpikpjlhdkkigaaDoor
open Go.AX Go.RowKit Go.Scan
set_option maxRecDepth 20000
theorem Fields_c (s : List UInt8) (hs : s.length < 4294967281) (ha : ∀ c ∈ s, c.toNat < 128) : SpecF Tryd.prog 57 [.string (bs s)] ScanF fun v G => ∃ b, v = .slice (some ⟨b, 0, none⟩) (Lib.fields s).length (Lib.fields s).length ∧ ∀ w, G w → SlAt (some ⟨b, 0, none⟩) (Lib.fields s).length ((Lib.fields s).map fun l => Value.string (bs l)) w :=
 specF_new (T := 9) (callOk Tryd.func57 (by kernel_rfl) rfl) (by simp) fun w hw => (Tryd.strings_Fields (bs s) w (by rw [bs_size]; exact hs) (fun j b hj => ha b (List.mem_of_getElem? hj)) hw.2).mono fun e w' ⟨he, hw'⟩ => ⟨he, hw'⟩
def strsC (l : List (List UInt8)) : List Value := l.map fun t => .string (bs t)
theorem strsC_get {l : List (List UInt8)} {i : Nat} {t : List UInt8} (h : l[i]? = some t) : (strsC l)[i]? = some (.string (bs t)) := by
 unfold strsC
 rw [List.getElem?_map, h]
 rfl
theorem SIndex_c (a : Option Addr) (l : List (List UInt8)) (cap : Nat) (s : List UInt8) (ha : l ≠ [] → a.isSome = true) (hl : l.length ≤ 1000000) :
  ∀ H, (∀ w, Facts H w → SlAt a l.length (strsC l) w) → SpecH Tryd.prog 36 (pvs [.slice a l.length cap, .string (bs s)]) H (RetR (fun v => ∃ n : Int, v = .int .i64 n ∧ (0 ≤ n ↔ l.contains s = true)) H) := by
 refine factR hm Tryd.func36 (by kernel_rfl) rfl rfl ?_
 refine wX ?_
 refine loopS Nat (fun i => i ≤ l.length ∧ (l.take i).contains s = false) (fun i => mkS Tryd.f36.ntmps 0 [(0, .c (.v (.slice a l.length cap))), (1, .c (.v (.string (bs s)))), (7, .c (.v (.int .i64 (l.length : Int)))), (8, .c (.v (.int .i64 (i : Int))))]) (fun i => l.length - i) rfl (fun _ => rfl) 0 ⟨Nat.zero_le _, by simp⟩ ?_ ?_
 ·exact wKK
 intro i ⟨hi, hno⟩
 refine wX ?_
 refine brd_dec (fun h1 => ?_) (fun h1 => ?_)
 ·obtain ⟨t, ht⟩ : ∃ t, l[i]? = some t := ⟨_, List.getElem?_eq_getElem (by omega)⟩
  have hsa : a.isSome = true := ha (fun h => by rw [h] at ht; cases ht)
  refine wX ?_
  refine Nd.mk ⟨hsa, by omega, by omega⟩ ?_
  refine wX ?_
  refine LdN.one (.string (bs t)) rfl (fun w hw => hw.1) (by show (strsC l)[Int.toNat _ * 1]? = _; rw [Int.toNat_natCast, Nat.mul_one]; exact strsC_get ht) ?_
  refine wX ?_
  refine brd_intro (fun h2 => ?_) (fun h2 => ?_)
  ·have h3 : s = t := eq_of_beq (show (s == t) = true from h2)
   refine wX ?_
   refine ⟨_, rfl, (i : Int), rfl, ⟨fun _ => ?_, fun _ => by omega⟩⟩
   rw [h3]
   exact List.contains_iff_mem.2 (List.mem_of_getElem? ht)
  ·have h3 : (s == t) = false := h2
   refine wX ?_
   refine ⟨i + 1, ⟨by omega, ?_⟩, by omega, ?_, wHH⟩
   ·rw [List.take_add_one, ht]
    simp only [List.contains_append, hno, Bool.false_or]
    simp
    simpa using h3
   ·exact wKK
 ·have hie : i = l.length := by omega
  subst hie
  rw [List.take_length] at hno
  refine wX ?_
  refine ⟨_, rfl, -1, rfl, ⟨fun h => absurd h (by decide), fun h => by rw [hno] at h; cases h⟩⟩
theorem Contains_c (a : Option Addr) (l : List (List UInt8)) (cap : Nat) (s : List UInt8) (ha : l ≠ [] → a.isSome = true) (hl : l.length ≤ 1000000) :
  ∀ H, (∀ w, Facts H w → SlAt a l.length (strsC l) w) → SpecH Tryd.prog 39 (pvs [.slice a l.length cap, .string (bs s)]) H (Ret (.bool (l.contains s)) H) := by
 refine factC hm Tryd.func39 (by kernel_rfl) rfl rfl ?_
 refine wX ?_
 refine callR (SIndex_c a l cap s ha hl _ (fun w hw => hw.1)) fun v hv => ?_
 obtain ⟨n, rfl, hn⟩ := hv
 refine wX ?_
 refine ret_b ?_
 rw [← hn]
 simp
theorem isWords_c (s : List UInt8) (hs : s.length ≤ 200000000000000) : ∀ H, SpecH Tryd.prog 43 (pvs [.string (bs s)]) H (Ret (.bool (iwB s)) H) := by
 refine pureC hm Tryd.func43 (by kernel_rfl) rfl rfl ?_
 have hz := bs_size s
 refine wX ?_
 rw [hz]
 refine loopS Nat (fun i => i ≤ s.length ∧ (s.take i).all wrd = true) (fun i => mkS Tryd.f43.ntmps 0 [(0, .c (.v (.string (bs s)))), (5, .c (.v (.int .i64 (s.length : Int)))), (6, .c (.v (.int .i64 (i : Int))))]) (fun i => s.length - i) rfl (fun _ => rfl) 0 ⟨Nat.zero_le _, rfl⟩ ?_ ?_
 ·exact wKK
 intro i ⟨hi, hall⟩
 refine wX ?_
 refine brd_dec (fun h1 => ?_) (fun h1 => ?_)
 ·obtain ⟨c, hc⟩ : ∃ c, s[i]? = some c := ⟨_, List.getElem?_eq_getElem (by omega)⟩
  refine wX ?_
  try refine Nd.mk ⟨by omega, by rw [hz]; exact h1⟩ ?_
  refine wX ?_
  rw [Int.toNat_natCast, byteAt_get hc]
  refine call1 (wrd_c c _) ?_
  cases hw : wrd c with
  | true =>
   refine wX ?_
   refine ⟨i + 1, ⟨by omega, ?_⟩, by omega, ?_, wHH⟩
   ·rw [List.take_add_one, hc, List.all_append, hall]
    simp [hw]
   ·exact wKK
  | false =>
   refine wX ?_
   refine ret_b ?_
   have : s.all wrd = false := by
    rw [Bool.eq_false_iff]
    intro h
    have := List.all_eq_true.1 h c (List.mem_of_getElem? hc)
    rw [hw] at this
    cases this
   simp [iwB, this]
 ·have hie : i = s.length := by omega
  subst hie
  rw [List.take_length] at hall
  cases s with
  | nil =>
   refine wX ?_
   exact ret_b (by simp [iwB])
  | cons c r =>
   have hz2 : (bs (c :: r)).size = (c :: r).length := hz
   refine wX ?_
   rw [hz2]
   refine brd_dec (fun h2 => ?_) (fun h2 => ?_)
   ·have hl2 : (c :: r).length ≤ 40 := by omega
    refine wX ?_
    try refine Nd.mk ⟨by omega, by rw [hz2, List.length_cons]; omega⟩ ?_
    refine wX ?_
    rw [show byteAt (bs (c :: r)) (Int.toNat 0) = (c.toNat : Int) from byteAt_get (l := c :: r) (i := 0) rfl]
    refine call1 (dig_c c _) ?_
    refine wX ?_
    refine ret_b ?_
    simp only [iwB, hall, hd, List.headD_cons, List.isEmpty_cons, decide_eq_true hl2]
    simp
   ·have hl2 : ¬ (c :: r).length ≤ 40 := by omega
    refine wX ?_
    refine ret_b ?_
    simp only [iwB, decide_eq_false hl2]
    simp
theorem iw_cons {b : List UInt8} (h : iwB b = true) : ∃ y q, b = y :: q := by
 cases b with
 | nil => simp [iwB] at h
 | cons y q => exact ⟨y, q, rfl⟩
theorem isName_c (s : List UInt8) (hs : s.length ≤ 200000000000000) : ∀ H, SpecH Tryd.prog 45 (pvs [.string (bs s)]) H (Ret (.bool (inB s)) H) := by
 refine pureC hm Tryd.func45 (by kernel_rfl) rfl rfl ?_
 cases s with
 | nil =>
  refine wX ?_
  refine call1 (isWords_c [] (by decide) _) ?_
  refine wX ?_
  try exact ret_b (by simp [inB, bareS, endB, iwB])
 | cons x r =>
  have hz := bs_size (x :: r)
  have hl1 : (x :: r).length = r.length + 1 := rfl
  obtain ⟨c, hc⟩ : ∃ c, (x :: r)[r.length]? = some c := ⟨_, List.getElem?_eq_getElem (by simp)⟩
  have hlast : (x :: r).getLast? = some c := by rw [List.getLast?_eq_getElem?]; exact hc
  have hw1 : IntKind.i64.wrap (((x :: r).length : Int) - 1) = ((r.length : Nat) : Int) := by rw [wrap_i64 (by omega)]; omega
  have h63 : ((c.toNat : Int) == 63) = (c == 63) := u8_eq (n := 63) (by decide)
  have h33 : ((c.toNat : Int) == 33) = (c == 33) := u8_eq (n := 33) (by decide)
  have hdl : (x :: r).take r.length = (x :: r).dropLast := by rw [List.dropLast_eq_take]; rfl
  have hdl2 : (x :: r).dropLast.length = r.length := by simp
  refine wX ?_
  rw [hz, hw1]
  refine Nd.mk ⟨by omega, by omega⟩ ?_
  refine wX ?_
  rw [Int.toNat_natCast, byteAt_get hc, h63]
  cases e63 : c == 63 with
  | true =>
   have hb : bareS (x :: r) = (x :: r).dropLast := by simp [bareS, endB, hlast, show c = 63 by simpa using e63]
   refine wX ?_
   rw [hz, hw1]
   refine ReadW.sl_h r.length rfl Tryd.underlying9 rfl rfl ⟨rfl, by omega⟩ ?_
   rw [hdl]
   refine wX ?_
   refine call1 (isWords_c ((x :: r).dropLast) (by omega) _) ?_
   cases hi : iwB ((x :: r).dropLast) with
   | false =>
    refine wX ?_
    exact ret_b (by simp [inB, hb, hi])
   | true =>
    obtain ⟨y, q, hyq⟩ := iw_cons hi
    have hb0 : ((x :: r).dropLast)[0]? = some y := by rw [hyq]; rfl
    have hyl : (bs ((x :: r).dropLast)).size = q.length + 1 := by rw [bs_size, hyq]; rfl
    have hhd : hd ((x :: r).dropLast) = y := by rw [hyq]; rfl
    refine wX ?_
    try refine Nd.mk ⟨by omega, by rw [hyl]; omega⟩ ?_
    refine wX ?_
    rw [show byteAt (bs ((x :: r).dropLast)) (Int.toNat 0) = (y.toNat : Int) from byteAt_get hb0]
    refine call1 (sml_c y _) ?_
    cases hs2 : sml y with
    | false =>
     refine wX ?_
     exact ret_b (by simp [inB, hb, hi, hhd, hs2])
    | true =>
     refine wX ?_
     rw [hz]
     refine ret_b ?_
     simp [inB, hb, hi, hhd, hs2]
     try omega
  | false =>
   refine wX ?_
   rw [hz, hw1]
   refine Nd.mk ⟨by omega, by omega⟩ ?_
   refine wX ?_
   rw [Int.toNat_natCast, byteAt_get hc, h33]
   cases e33 : c == 33 with
   | true =>
    have hb : bareS (x :: r) = (x :: r).dropLast := by simp [bareS, endB, hlast, show c = 33 by simpa using e33]
    refine wX ?_
    rw [hz, hw1]
    refine ReadW.sl_h r.length rfl Tryd.underlying9 rfl rfl ⟨rfl, by omega⟩ ?_
    rw [hdl]
    refine wX ?_
    refine call1 (isWords_c ((x :: r).dropLast) (by omega) _) ?_
    cases hi : iwB ((x :: r).dropLast) with
    | false =>
     refine wX ?_
     exact ret_b (by simp [inB, hb, hi])
    | true =>
     obtain ⟨y, q, hyq⟩ := iw_cons hi
     have hb0 : ((x :: r).dropLast)[0]? = some y := by rw [hyq]; rfl
     have hyl : (bs ((x :: r).dropLast)).size = q.length + 1 := by rw [bs_size, hyq]; rfl
     have hhd : hd ((x :: r).dropLast) = y := by rw [hyq]; rfl
     refine wX ?_
     try refine Nd.mk ⟨by omega, by rw [hyl]; omega⟩ ?_
     refine wX ?_
     rw [show byteAt (bs ((x :: r).dropLast)) (Int.toNat 0) = (y.toNat : Int) from byteAt_get hb0]
     refine call1 (sml_c y _) ?_
     cases hs2 : sml y with
     | false =>
      refine wX ?_
      exact ret_b (by simp [inB, hb, hi, hhd, hs2])
     | true =>
      refine wX ?_
      rw [hz]
      refine ret_b ?_
      simp [inB, hb, hi, hhd, hs2]
      try omega
   | false =>
    have hb : bareS (x :: r) = x :: r := by
     have h1 : ¬ c = 63 := by simpa using e63
     have h2 : ¬ c = 33 := by simpa using e33
     simp [bareS, endB, hlast, h1, h2]
    refine wX ?_
    refine call1 (isWords_c (x :: r) (by omega) _) ?_
    cases hi : iwB (x :: r) with
    | false =>
     refine wX ?_
     exact ret_b (by simp [inB, hb, hi])
    | true =>
     obtain ⟨y, q, hyq⟩ := iw_cons hi
     have hb0 : (x :: r)[0]? = some y := by rw [hyq]; rfl
     have hyl : (bs (x :: r)).size = q.length + 1 := by rw [bs_size, hyq]; rfl
     have hhd : hd (x :: r) = y := by rw [hyq]; rfl
     refine wX ?_
     try refine Nd.mk ⟨by omega, by rw [hyl]; omega⟩ ?_
     refine wX ?_
     rw [show byteAt (bs (x :: r)) (Int.toNat 0) = (y.toNat : Int) from byteAt_get hb0]
     refine call1 (sml_c y _) ?_
     cases hs2 : sml y with
     | false =>
      refine wX ?_
      exact ret_b (by simp [inB, hb, hi, hhd, hs2])
     | true =>
      refine wX ?_
      rw [hz]
      refine ret_b ?_
      simp [inB, hb, hi, hhd, hs2]
      try omega
theorem IsName_c (s : List UInt8) (hs : s.length ≤ 200000000000000) : ∀ H, (∀ w, Facts H w → ScanF w) → SpecH Tryd.prog 54 (pvs [.string (bs s)]) H (Ret (.bool (inB s && !kwB s)) H) := by
 refine factC hm Tryd.func54 (by kernel_rfl) rfl rfl ?_
 refine wX ?_
 refine call1 (isName_c s hs _) ?_
 cases hn : inB s with
 | false =>
  refine wX ?_
  rfl
 | true =>
  have hl : s.length ≤ 40 := by
   simp [inB] at hn
   exact hn.2
  refine wX ?_
  refine call1 (IsKeyword_c s (by omega) _ (fun w hw => hw.1.1)) ?_
  refine wX ?_
  rfl
theorem IsConst_c (s : List UInt8) (hs : s.length ≤ 200000000000000) : ∀ H, SpecH Tryd.prog 30 (pvs [.string (bs s)]) H (Ret (.bool (icB s)) H) := by
 refine pureC hm Tryd.func30 (by kernel_rfl) rfl rfl ?_
 refine wX ?_
 refine call1 (isWords_c s hs _) ?_
 cases hi : iwB s with
 | false =>
  refine wX ?_
  exact ret_b (by simp [icB, hi])
 | true =>
  obtain ⟨y, q, rfl⟩ := iw_cons hi
  have hyl : (bs (y :: q)).size = q.length + 1 := by rw [bs_size]; rfl
  refine wX ?_
  try refine Nd.mk ⟨by omega, by rw [hyl]; omega⟩ ?_
  refine wX ?_
  rw [show byteAt (bs (y :: q)) (Int.toNat 0) = (y.toNat : Int) from byteAt_get (l := y :: q) (i := 0) rfl]
  refine call1 (sml_c y _) ?_
  refine wX ?_
  exact ret_b (by simp [icB, hi, hd])
theorem IsIvar_c (s : List UInt8) (hs : s.length ≤ 200000000000000) : ∀ H, SpecH Tryd.prog 52 (pvs [.string (bs s)]) H (Ret (.bool (iiB s)) H) := by
 refine pureC hm Tryd.func52 (by kernel_rfl) rfl rfl ?_
 have hz := bs_size s
 refine wX ?_
 rw [hz]
 refine brd_dec (fun h1 => ?_) (fun h1 => ?_)
 ·match s, hs, hz, h1 with
  | [], _, _, h1 => exact absurd h1 (by decide)
  | [_], _, _, h1 => exact absurd h1 (by simp)
  | c :: d :: r, hs, hz, h1 =>
   have h64 : ((c.toNat : Int) == 64) = (c == 64) := u8_eq (n := 64) (by decide)
   have hl : (c :: d :: r).length = r.length + 2 := rfl
   refine wX ?_
   try refine Nd.mk ⟨by omega, by rw [hz]; omega⟩ ?_
   refine wX ?_
   rw [show byteAt (bs (c :: d :: r)) (Int.toNat 0) = (c.toNat : Int) from byteAt_get (l := c :: d :: r) (i := 0) rfl, h64]
   cases e64 : c == 64 with
   | false =>
    refine wX ?_
    exact ret_b (by simp only [iiB, hd, List.headD_cons, e64]; simp)
   | true =>
    refine wX ?_
    refine ReadW.sl_l 1 rfl Tryd.underlying9 rfl rfl ⟨rfl, by omega⟩ ?_
    refine wX ?_
    refine call1 (isWords_c (d :: r) (by simp at hs ⊢; omega) _) ?_
    cases hi : iwB (d :: r) with
    | false =>
     refine wX ?_
     exact ret_b (by simp only [iiB, List.tail_cons, hi]; simp)
    | true =>
     refine wX ?_
     try refine Nd.mk ⟨by omega, by rw [hz]; omega⟩ ?_
     refine wX ?_
     rw [show byteAt (bs (c :: d :: r)) (Int.toNat 1) = (d.toNat : Int) from byteAt_get (l := c :: d :: r) (i := 1) rfl]
     refine call1 (sml_c d _) ?_
     cases hs2 : sml d with
     | false =>
      refine wX ?_
      exact ret_b (by simp only [iiB, List.tail_cons, hd, List.headD_cons, hs2]; simp)
     | true =>
      refine wX ?_
      rw [hz]
      refine ret_b ?_
      have hdec : decide (1 < (c :: d :: r).length) = true := by simp
      simp only [iiB, hdec, List.tail_cons, hd, List.headD_cons, hs2, e64, hi]
      simp
      omega
 ·have hdec : decide (1 < s.length) = false := decide_eq_false (by omega)
  refine wX ?_
  exact ret_b (by simp only [iiB, hdec]; simp)
theorem Operators_c : SpecF Tryd.prog 40 [] ScanF fun v G => ∃ b, v = .slice (some ⟨b, 0, none⟩) 16 16 ∧ ∀ w, G w → SlAt (some ⟨b, 0, none⟩) 16 (strsC opL) w := by
 refine specF hm Tryd.func40 (by kernel_rfl) rfl rfl ?_
 refine wX ?_
 refine SpecF.call (Fields_c ops (by decide) (by decide +kernel)) (fun w hw => hw.1) fun v G hR => ?_
 rw [show Lib.fields ops = opL by decide +kernel] at hR
 obtain ⟨b, rfl, hG⟩ := hR
 refine wX ?_
 refine fin_p G ⟨b, rfl, fun w hw => hG w hw⟩ (fun w hw => hw.2.1)
theorem CutEq_c (s : List UInt8) (hs : s.length ≤ 200000000000000) : ∀ H, SpecH Tryd.prog 46 (pvs [.string (bs s), .string (bs [61])]) H (Ret (.tuple #[.string (bs (Lib.trimSuffix s [61])), .bool (Lib.hasSuffix s [61])]) H) := fun H =>
 SpecH.rawP (R := fun r => r = .tuple #[.string (bs (Lib.trimSuffix s [61])), .bool (Lib.hasSuffix s [61])]) (callOk Tryd.func46 (by kernel_rfl) rfl)
  (fun w _ => (Tryd.strings_CutSuffix (bs s) (bs [61]) w (by rw [bs_size]; omega)).mono fun e w' ⟨he, hw⟩ => ⟨_, he, by rw [bs_list, bs_list]; rfl, by subst hw; exact Below.refl _ _⟩) fun r hr => by subst hr; exact ⟨rfl, rfl⟩
theorem IsMethod_c (s : List UInt8) (hs : s.length ≤ 200000000000000) : ∀ H, (∀ w, Facts H w → ScanF w) → SpecH Tryd.prog 32 (pvs [.string (bs s)]) H (Ret (.bool (opL.contains s || inB s || setB s)) H) := by
 refine factC hm Tryd.func32 (by kernel_rfl) rfl rfl ?_
 have hz := bs_size s
 refine wX ?_
 refine SpecF.call Operators_c (fun w hw => hw.1) fun v G hR => ?_
 obtain ⟨b, rfl, hG⟩ := hR
 refine wX ?_
 refine call1 (Contains_c (some ⟨b, 0, none⟩) opL 16 s (fun _ => rfl) (by decide) _ (fun w hw => hG w hw.2.1)) ?_
 cases hc : opL.contains s with
 | true =>
  refine wX ?_
  exact ret_b (by simp)
 | false =>
  refine wX ?_
  refine call1 (isName_c s hs _) ?_
  cases hn : inB s with
  | true =>
   refine wX ?_
   exact ret_b (by simp)
  | false =>
   rw [Bool.false_or, Bool.false_or]
   refine wX ?_
   refine call1 (CutEq_c s hs _) ?_
   cases hsf : Lib.hasSuffix s [61] with
   | false =>
    have hg : (s.getLast? == some 61) = false := by
     unfold Lib.hasSuffix at hsf
     rcases List.eq_nil_or_concat s with rfl | ⟨bb, c, rfl⟩
     ·rfl
     ·rw [List.concat_eq_append] at hsf ⊢
      have h61 : ¬ c = 61 := fun e => by
       subst e
       have := List.isSuffixOf_iff_suffix.2 (List.suffix_append bb [61])
       rw [hsf] at this
       cases this
      simp [h61]
    refine wX ?_
    exact ret_b (by simp [setB, hg])
   | true =>
    obtain ⟨bb, hbb⟩ : ∃ bb, bb ++ [61] = s := List.isSuffixOf_iff_suffix.1 hsf
    have htr : Lib.trimSuffix s [61] = bb := by
     unfold Lib.trimSuffix
     rw [hsf, if_pos rfl, ← hbb]
     simp
    have hdl : s.dropLast = bb := by rw [← hbb]; simp
    have hgl : (s.getLast? == some 61) = true := by rw [← hbb]; simp
    have hbl : bb.length + 1 = s.length := by rw [← hbb]; simp
    rw [htr]
    refine wX ?_
    refine call1 (isWords_c (bb) (by omega) _) ?_
    cases hi : iwB (bb) with
    | false =>
     refine wX ?_
     exact ret_b (by simp [setB, hgl, hdl, hi])
    | true =>
     obtain ⟨y, q, hyq⟩ := iw_cons hi
     have hb0 : (bb)[0]? = some y := by rw [hyq]; rfl
     have hyl : (bs (bb)).size = q.length + 1 := by rw [bs_size, hyq]; rfl
     have hhd : hd (bb) = y := by rw [hyq]; rfl
     refine wX ?_
     try refine Nd.mk ⟨by omega, by rw [hyl]; omega⟩ ?_
     refine wX ?_
     rw [show byteAt (bs (bb)) (Int.toNat 0) = (y.toNat : Int) from byteAt_get hb0]
     refine call1 (sml_c y _) ?_
     cases hs2 : sml y with
     | false =>
      refine wX ?_
      exact ret_b (by simp [setB, hgl, hdl, hi, hhd, hs2])
     | true =>
      refine wX ?_
      rw [hz]
      refine ret_b ?_
      simp [setB, hgl, hdl, hi, hhd, hs2]
      try omega
end Go.Proofs.YtpikpjlhdkkigaaDoor
namespace Go.Proofs.YtpikpjlhdkkigaaDoor
open Go.AX Go.RowKit Go.Tree
set_option maxRecDepth 20000
def SaneC : Prop := ∀ H, (∀ w, Facts H w → ScanF w) → SpecH Tryd.prog 5 (pvs []) H (Ret (.bool true) H)
def RowsOk (l : List TP) (rs : List RowD) : Prop := ∀ k ∈ l, k.kids ≠ [] → ∃ r ∈ rs, r.T = nodeT ∧ r.sz = 4 ∧ r.n = k.kids.length ∧ k.a = some ⟨r.b, 0, none⟩ ∧ r.n ≤ r.cap
theorem RowsOk.mk {t u : TP} (h : Own2 t u) : RowsOk u.kids (rowsT u.kids) := fun k hk hne => by
 obtain ⟨⟨ob, ha⟩, hc⟩ := h.own k hk
 cases ob with
 | none => exact absurd ((h.k.kid hk).nil ha) hne
 | some b =>
  refine ⟨⟨nodeT, 4, k.kids.length, nodesC k.kids, b, k.cap⟩, List.mem_flatMap.2 ⟨k, hk, ?_⟩, rfl, rfl, rfl, ha, hc⟩
  unfold rowT
  rw [ha]
  exact List.mem_singleton.2 rfl
theorem RowsOk.put {l : List TP} {rs rs' : List RowD} {r r' : RowD} (h : RowsOk l rs) (hp : rs.Perm (r :: rs')) (h1 : r'.T = r.T) (h2 : r'.sz = r.sz) (h3 : r'.n = r.n) (h4 : r'.b = r.b) (h5 : r'.cap = r.cap) : RowsOk l (r' :: rs') := fun k hk hne => by
 obtain ⟨q, hq, a1, a2, a3, a4, a5⟩ := h k hk hne
 rcases List.mem_cons.1 (hp.mem_iff.1 hq) with rfl | hq
 ·exact ⟨r', List.mem_cons_self .., by rw [h1, a1], by rw [h2, a2], by rw [h3, a3], by rw [h4, a4], by rw [h3, h5]; exact a5⟩
 ·exact ⟨q, List.mem_cons_of_mem _ hq, a1, a2, a3, a4, a5⟩
def KidsAt (l : List TP) (zs : List Value) : Prop := zs.length = l.length * 4 ∧ ∀ j k, l[j]? = some k → zs[j * 4 + 3]? = some (.slice k.a k.kids.length k.cap)
theorem KidsAt.mk (l : List TP) : KidsAt l (nodesC l) := ⟨nodesC_len l, fun j k hk => nodesC_get l j 3 (by decide) hk⟩
theorem KidsAt.set {l : List TP} {zs : List Value} (h : KidsAt l zs) (j : Nat) (v : Value) : KidsAt l (zs.set (j * 4) v) := ⟨by rw [List.length_set]; exact h.1, fun i k hk => by
 rw [List.getElem?_set_ne (by omega)]
 exact h.2 i k hk⟩
structure ChS where
 i : Nat
 zs : List Value
 rs : List RowD
structure InS where
 j : Nat
 xs : List Value
set_option maxHeartbeats 4000000 in
theorem TreeSame_of (hsane : SaneC) (a b : TP) (ha : TreeK a) (hb : TreeK b) : ∀ H, (∀ w, Facts H w → ScanF w ∧ TreeF w a ∧ TreeF w b) → SpecH Tryd.prog 3 (pvs [nodeV a, nodeV b]) H (Ret (.bool true) H) := by
 refine factC hm Tryd.func3 (by kernel_rfl) rfl rfl ?_
 (conv => whnf)
 refine BoxN.known (nodeC a) rfl fun nb => ?_
 (conv => whnf)
 refine BoxN.known (nodeC b) rfl fun mb => ?_
 refine wX ?_
 refine LdN.agg (a := some ⟨nb, 0, none⟩) (q := 0) (nodeC a) rfl (fun w hw => hw.2.1) rfl (fun j hj => by rw [Nat.zero_add]) ?_
 refine wX ?_
 refine callR (Large_c a ha _ (fun w hw => hw.1.2.1)) fun v hv => ?_
 obtain ⟨l1, rfl⟩ := hv
 cases l1 with
 | true =>
  refine wX ?_
  refine call1 (hsane _ (fun w hw => hw.1.1)) ?_
  exact wZ
 | false =>
 refine wX ?_
 refine LdN.agg (a := some ⟨mb, 0, none⟩) (q := 0) (nodeC b) rfl (fun w hw => hw.2.2.1) rfl (fun j hj => by rw [Nat.zero_add]) ?_
 refine wX ?_
 refine callR (Large_c b hb _ (fun w hw => hw.1.2.2)) fun v hv => ?_
 obtain ⟨l2, rfl⟩ := hv
 cases l2 with
 | true =>
  refine wX ?_
  refine call1 (hsane _ (fun w hw => hw.1.1)) ?_
  exact wZ
 | false =>
 refine wX ?_
 refine LdN.agg (a := some ⟨nb, 0, none⟩) (q := 0) (nodeC a) rfl (fun w hw => hw.2.1) rfl (fun j hj => by rw [Nat.zero_add]) ?_
 refine wX ?_
 refine callG (Copy2_c a ha (fun w => ScanF w ∧ TreeF w a ∧ TreeF w b) (fun w hw => hw.2.1)) [0] rfl ⟨rfl, trivial⟩ rfl fun u hu => ?_
 (conv => whnf)
 refine BoxN.known [.int .i64 0, .string (bs []), .int .i64 0, .slice none 0 0] rfl fun cb => ?_
 (conv => whnf)
 refine EffW.appTo (i := 7) (q := 0) (ys := nodeC u) (nodeC u) 4 rfl rfl rfl rfl rfl rfl rfl (Nat.le_of_ble_eq_true rfl) rfl rfl ?_
 ((conv => whnf); (repeat ((first | refine VrN.keep ?_ | refine BoxN.own ?_ | refine RwN.own ?_); (conv => whnf))))
 refine DrawN.planC (fun w => SlAt (some ⟨nb, 0, none⟩) 4 (nodeC a) w ∧ SlAt (some ⟨mb, 0, none⟩) 4 (nodeC b) w ∧ SlAt (some ⟨cb, 0, none⟩) 4 (nodeC u) w) [] [(0, 1), (1, 1), (3, 1), (4, 1), (2, 0), (5, 0), (6, 1), (7, 2), (8, 1), (9, 1), (10, 0), (11, 0), (12, 2), (13, 2), (14, 2), (15, 1), (16, 1), (17, 0), (18, 2), (19, 2)] [] (by decide +kernel) (fun w hw => ⟨hw.2.1, hw.2.2.1, hw.2.2.2.2.2.1⟩) ?_
 ((conv => whnf); (repeat ((first | refine Nd.mk (fun w hw => ⟨hw.2.1, hw.2.2.1, hw.2.2.2.2.2.1⟩) ?_ | refine RwN.own ?_ | refine VrN.norm (wrap_i64 (by omega)) ?_ | refine VrN.keep ?_ | refine Nd.mk (by decide +kernel) ?_ | refine Nd.mk (by omega) ?_ | refine RdN.intro _ rfl (by rfl) ?_); (conv => whnf))))
 refine ReadC.agg (a := some ⟨nb, 0, none⟩) (q := 0) (nodeC a) rfl rfl rfl (fun w hw => hw.1) rfl (fun j hj => by rw [Nat.zero_add]) ?_
 ((conv => whnf); (repeat ((first | refine Nd.mk (fun w hw => ⟨hw.2.1, hw.2.2.1, hw.2.2.2.2.2.1⟩) ?_ | refine RwN.own ?_ | refine VrN.norm (wrap_i64 (by omega)) ?_ | refine VrN.keep ?_ | refine Nd.mk (by decide +kernel) ?_ | refine Nd.mk (by omega) ?_ | refine RdN.intro _ rfl (by rfl) ?_); (conv => whnf))))
 refine ReadC.agg (a := some ⟨mb, 0, none⟩) (q := 0) (nodeC b) rfl rfl rfl (fun w hw => hw.2.1) rfl (fun j hj => by rw [Nat.zero_add]) ?_
 ((conv => whnf); (repeat ((first | refine Nd.mk (fun w hw => ⟨hw.2.1, hw.2.2.1, hw.2.2.2.2.2.1⟩) ?_ | refine RwN.own ?_ | refine VrN.norm (wrap_i64 (by omega)) ?_ | refine VrN.keep ?_ | refine Nd.mk (by decide +kernel) ?_ | refine Nd.mk (by omega) ?_ | refine RdN.intro _ rfl (by rfl) ?_); (conv => whnf))))
 refine ReadC.agg (a := some ⟨nb, 0, none⟩) (q := 0) (nodeC a) rfl rfl rfl (fun w hw => hw.1) rfl (fun j hj => by rw [Nat.zero_add]) ?_
 ((conv => whnf); (repeat ((first | refine Nd.mk (fun w hw => ⟨hw.2.1, hw.2.2.1, hw.2.2.2.2.2.1⟩) ?_ | refine RwN.own ?_ | refine VrN.norm (wrap_i64 (by omega)) ?_ | refine VrN.keep ?_ | refine Nd.mk (by decide +kernel) ?_ | refine Nd.mk (by omega) ?_ | refine RdN.intro _ rfl (by rfl) ?_); (conv => whnf))))
 refine ReadC.agg (a := some ⟨mb, 0, none⟩) (q := 0) (nodeC b) rfl rfl rfl (fun w hw => hw.2.1) rfl (fun j hj => by rw [Nat.zero_add]) ?_
 ((conv => whnf); (repeat ((first | refine Nd.mk (fun w hw => ⟨hw.2.1, hw.2.2.1, hw.2.2.2.2.2.1⟩) ?_ | refine RwN.own ?_ | refine VrN.norm (wrap_i64 (by omega)) ?_ | refine VrN.keep ?_ | refine Nd.mk (by decide +kernel) ?_ | refine Nd.mk (by omega) ?_ | refine RdN.intro _ rfl (by rfl) ?_); (conv => whnf))))
 refine call1 (Same_c a ha b hb _ (fun w hw => hw.1.1.2)) ?_
 ((conv => whnf); (repeat ((first | refine Nd.mk (fun w hw => ⟨hw.2.1, hw.2.2.1, hw.2.2.2.2.2.1⟩) ?_ | refine RwN.own ?_ | refine VrN.norm (wrap_i64 (by omega)) ?_ | refine VrN.keep ?_ | refine Nd.mk (by decide +kernel) ?_ | refine Nd.mk (by omega) ?_ | refine RdN.intro _ rfl (by rfl) ?_); (conv => whnf))))
 refine call1 (RSame_c a ha b hb _ (fun w hw => hw.1.1.2)) ?_
 ((conv => whnf); (repeat ((first | refine Nd.mk (fun w hw => ⟨hw.2.1, hw.2.2.1, hw.2.2.2.2.2.1⟩) ?_ | refine RwN.own ?_ | refine VrN.norm (wrap_i64 (by omega)) ?_ | refine VrN.keep ?_ | refine Nd.mk (by decide +kernel) ?_ | refine Nd.mk (by omega) ?_ | refine RdN.intro _ rfl (by rfl) ?_); (conv => whnf))))
 generalize sameT a b = s
 refine ⟨.bool false, ⟨fun cs b e => (by cases e), rfl, fun w _ => (by cases s <;> rfl), ?_⟩⟩
 ((conv => whnf); (repeat ((first | refine Nd.mk (fun w hw => ⟨hw.2.1, hw.2.2.1, hw.2.2.2.2.2.1⟩) ?_ | refine RwN.own ?_ | refine VrN.norm (wrap_i64 (by omega)) ?_ | refine VrN.keep ?_ | refine Nd.mk (by decide +kernel) ?_ | refine Nd.mk (by omega) ?_ | refine RdN.intro _ rfl (by rfl) ?_); (conv => whnf))))
 refine ReadC.agg (a := some ⟨nb, 0, none⟩) (q := 0) (nodeC a) rfl rfl rfl (fun w hw => hw.1) rfl (fun j hj => by rw [Nat.zero_add]) ?_
 ((conv => whnf); (repeat ((first | refine Nd.mk (fun w hw => ⟨hw.2.1, hw.2.2.1, hw.2.2.2.2.2.1⟩) ?_ | refine RwN.own ?_ | refine VrN.norm (wrap_i64 (by omega)) ?_ | refine VrN.keep ?_ | refine Nd.mk (by decide +kernel) ?_ | refine Nd.mk (by omega) ?_ | refine RdN.intro _ rfl (by rfl) ?_); (conv => whnf))))
 refine ReadC.agg (a := some ⟨nb, 0, none⟩) (q := 0) (nodeC a) rfl rfl rfl (fun w hw => hw.1) rfl (fun j hj => by rw [Nat.zero_add]) ?_
 ((conv => whnf); (repeat ((first | refine Nd.mk (fun w hw => ⟨hw.2.1, hw.2.2.1, hw.2.2.2.2.2.1⟩) ?_ | refine RwN.own ?_ | refine VrN.norm (wrap_i64 (by omega)) ?_ | refine VrN.keep ?_ | refine Nd.mk (by decide +kernel) ?_ | refine Nd.mk (by omega) ?_ | refine RdN.intro _ rfl (by rfl) ?_); (conv => whnf))))
 refine callG ((RCopy_c a ha).keep CopyR.idx (fun w => (ScanF w ∧ TreeF w a ∧ TreeF w b) ∧ ∀ k ∈ u.kids, ∀ g ∈ k.kids, TreeF w g) (fun w hw => hw.1.2.1)) [0] rfl ⟨rfl, trivial⟩ rfl fun v hv => ?_
 ((conv => whnf); (repeat ((first | refine Nd.mk (fun w hw => ⟨hw.2.1, hw.2.2.1, hw.2.2.2.2.2.1⟩) ?_ | refine RwN.own ?_ | refine VrN.norm (wrap_i64 (by omega)) ?_ | refine VrN.keep ?_ | refine Nd.mk (by decide +kernel) ?_ | refine Nd.mk (by omega) ?_ | refine RdN.intro _ rfl (by rfl) ?_); (conv => whnf))))
 refine call1 (Same_c a ha v hv.2 _ (fun w hw => ⟨hw.1.1.1.2.1, hw.1.2⟩)) ?_
 rw [(sameT_iff a v).2 hv.1.symm]
 ((conv => whnf); (repeat ((first | refine Nd.mk (fun w hw => ⟨hw.2.1, hw.2.2.1, hw.2.2.2.2.2.1⟩) ?_ | refine RwN.own ?_ | refine VrN.norm (wrap_i64 (by omega)) ?_ | refine VrN.keep ?_ | refine Nd.mk (by decide +kernel) ?_ | refine Nd.mk (by omega) ?_ | refine RdN.intro _ rfl (by rfl) ?_); (conv => whnf))))
 refine ReadC.agg (a := some ⟨nb, 0, none⟩) (q := 0) (nodeC a) rfl rfl rfl (fun w hw => hw.1) rfl (fun j hj => by rw [Nat.zero_add]) ?_
 ((conv => whnf); (repeat ((first | refine Nd.mk (fun w hw => ⟨hw.2.1, hw.2.2.1, hw.2.2.2.2.2.1⟩) ?_ | refine RwN.own ?_ | refine VrN.norm (wrap_i64 (by omega)) ?_ | refine VrN.keep ?_ | refine Nd.mk (by decide +kernel) ?_ | refine Nd.mk (by omega) ?_ | refine RdN.intro _ rfl (by rfl) ?_); (conv => whnf))))
 refine ReadC.agg (a := some ⟨cb, 0, none⟩) (q := 0) (nodeC u) rfl rfl rfl (fun w hw => hw.2.2) rfl (fun j hj => by rw [Nat.zero_add]) ?_
 ((conv => whnf); (repeat ((first | refine Nd.mk (fun w hw => ⟨hw.2.1, hw.2.2.1, hw.2.2.2.2.2.1⟩) ?_ | refine RwN.own ?_ | refine VrN.norm (wrap_i64 (by omega)) ?_ | refine VrN.keep ?_ | refine Nd.mk (by decide +kernel) ?_ | refine Nd.mk (by omega) ?_ | refine RdN.intro _ rfl (by rfl) ?_); (conv => whnf))))
 have hfu : ∀ w, SlAt u.a (u.kids.length * 4) (nodesC u.kids) w → famF (rowsT u.kids) w → (∀ k ∈ u.kids, ∀ g ∈ k.kids, TreeF w g) → TreeF w u := fun w h1 h2 h3 =>
  .mk h1 hu.k.len hu.k.str hu.cap fun k hk => by
   have hkk := hu.k.kid hk
   refine .mk ?_ hkk.len hkk.str hkk.cap (h3 k hk)
   obtain ⟨⟨ob, hka⟩, _⟩ := hu.own k hk
   cases ob with
   | none =>
    have : k.a = none := hka
    rw [this, hkk.nil this]
    exact SlAt.nil
   | some q =>
    have hka : k.a = some ⟨q, 0, none⟩ := hka
    have hr := h2.2 ⟨nodeT, 4, k.kids.length, nodesC k.kids, q, k.cap⟩ (List.mem_flatMap.2 ⟨k, hk, by unfold rowT; rw [hka]; exact List.mem_singleton.2 rfl⟩)
    rw [hka]
    exact hr.sl
 refine call1 (RSame_c a ha u hu.k _ (fun w hw => ⟨hw.1.1.1.2.1, hfu w hw.2.2.2.1 hw.2.2.2.2.1 hw.1.1.2⟩)) ?_
 rw [(sameT_iff a u).2 hu.er.symm]
 ((conv => whnf); (repeat ((first | refine Nd.mk (fun w hw => ⟨hw.2.1, hw.2.2.1, hw.2.2.2.2.2.1⟩) ?_ | refine RwN.own ?_ | refine VrN.norm (wrap_i64 (by omega)) ?_ | refine VrN.keep ?_ | refine Nd.mk (by decide +kernel) ?_ | refine Nd.mk (by omega) ?_ | refine RdN.intro _ rfl (by rfl) ?_); (conv => whnf))))
 refine LdN.agg (a := some ⟨nb, 0, none⟩) (q := 0) (nodeC a) rfl (fun w hw => hw.2.1) rfl (fun j hj => by rw [Nat.zero_add]) ?_
 (conv => whnf)
 refine callG ((RCopy_c a ha).keep CopyR.idx (fun w => ((ScanF w ∧ TreeF w a ∧ TreeF w b) ∧ ∀ k ∈ u.kids, ∀ g ∈ k.kids, TreeF w g) ∧ TreeF w v) (fun w hw => hw.1.1.2.1)) [0] rfl ⟨rfl, trivial⟩ rfl fun x hx => ?_
 (conv => whnf)
 refine BoxN.known [.int .i64 0, .string (bs []), .int .i64 0, .slice none 0 0] rfl fun wb => ?_
 (conv => whnf)
 refine EffW.appTo (i := 8) (q := 0) (ys := nodeC x) (nodeC x) 4 rfl rfl rfl rfl rfl rfl rfl (Nat.le_of_ble_eq_true rfl) rfl rfl ?_
 refine wX ?_
 obtain ⟨ob, hua⟩ := hu.a
 have hul := hu.k.len
 refine LoopN.introS ChS (fun ⟨i, zs, rs⟩ => i ≤ u.kids.length ∧ KidsAt u.kids zs ∧ RowsOk u.kids rs)
  (fun ⟨i, _, _⟩ => mkS Tryd.f3.ntmps 0 [(2, .c (.v (.pointer (some ⟨nb, 0, none⟩)))), (3, .c (.v (.pointer (some ⟨mb, 0, none⟩)))), (4, .c (.v (.bool false))), (5, .c (.v (.pointer (some ⟨cb, 0, none⟩)))), (6, .c (.v (.pointer (some ⟨wb, 0, none⟩)))), (7, .c (.v (.int .i64 (i : Int))))])
  (fun ⟨_, zs, rs⟩ => [.fact (fun w => ScanF w ∧ TreeF w a ∧ TreeF w x), .app nodeT 4 (nodeC a) (some ⟨nb, 0, none⟩) 1 1, .app nodeT 4 (nodeC b) (some ⟨mb, 0, none⟩) 1 1, .dead, .dead, .app nodeT 4 zs (at0 ob) u.kids.length u.cap, famE rs, .app nodeT 4 (nodeC u) (some ⟨cb, 0, none⟩) 1 1, .app nodeT 4 (nodeC x) (some ⟨wb, 0, none⟩) 1 1])
  (fun ⟨i, _, _⟩ => u.kids.length - i) [] rfl (fun _ => rfl) (fun _ => rfl) (fun _ _ => okHB_eq rfl)
  ⟨⟨0, nodesC u.kids, rowsT u.kids⟩, ⟨Nat.zero_le _, .mk _, .mk hu⟩, ?_, _, turn_refl _, ⟨fun w hw => ⟨hw.1.1.1.1, hw.1.1.1.2.1, hw.2⟩, wkE_refl _, wkE_refl _, wkE_refl _, wkE_refl _, by rw [← hua]; exact wkE_refl _, wkE_refl _, wkE_refl _, wkE_refl _, wkH_nil _⟩⟩ ?_
 ·exact wKK
 rintro ⟨i, zs, rs⟩ ⟨hi, hz, hr⟩
 refine wX ?_
 refine LdN.one (a := some ⟨cb, 0, none⟩) (q := 3) (.slice u.a u.kids.length u.cap) rfl (fun w hw => hw.2.2.2.2.2.1) rfl ?_
 refine wX ?_
 refine brd_dec (fun h1 => ?_) (fun h1 => ?_)
 ·obtain ⟨k, hk⟩ : ∃ k, u.kids[i]? = some k := ⟨_, List.getElem?_eq_getElem (by omega)⟩
  have hkm := List.mem_of_getElem? hk
  have hkk := hu.k.kid hkm
  have hkl := hkk.len
  cases ob with
  | none => rw [hu.k.nil hua] at hk; cases hk
  | some ub =>
  have hua : u.a = some ⟨ub, 0, none⟩ := hua
  rw [hua]
  have hun : u.kids.length ≤ u.cap := hu.cap
  by_cases hne : k.kids = []
  ·have hk0 : k.kids.length = 0 := by rw [hne]; rfl
   refine wX ?_
   refine LoopN.unroll 1 ?_
   refine wX ?_
   refine LdN.one (a := some ⟨cb, 0, none⟩) (q := 3) (.slice (some ⟨ub, 0, none⟩) u.kids.length u.cap) rfl (fun w hw => hw.2.2.2.2.2.1) (by show some (Value.slice u.a _ _) = _; rw [hua]) ?_
   refine wX ?_
   refine Nd.mk ⟨rfl, by omega, by omega⟩ ?_
   refine wX ?_
   refine LdN.fld (.slice k.a k.kids.length k.cap) rfl (fun w hw => hw.2.2.2.1) (by rw [Int.toNat_natCast]; exact hz.2 i k hk) ?_
   refine wX ?_
   refine brd_dec (fun h2 => by omega) (fun _ => ?_)
   refine wX ?_
   refine LdN.one (a := some ⟨cb, 0, none⟩) (q := 3) (.slice (some ⟨ub, 0, none⟩) u.kids.length u.cap) rfl (fun w hw => hw.2.2.2.2.2.1) (by show some (Value.slice u.a _ _) = _; rw [hua]) ?_
   refine wX ?_
   refine Nd.mk ⟨rfl, by omega, by omega⟩ ?_
   refine wX ?_
   refine EffW.appTo (i := 5) (q := i * 4) (ys := [_]) (zs.set (i * 4) (.int .i64 99)) 4 rfl (by show AV.c (CV.v (Value.pointer (some (Addr.add (elemAddr (some ⟨ub, 0, none⟩) (Int.toNat (i : Int) * 4)) 0)))) = _; rw [Int.toNat_natCast, elemAddr, Addr.add_add]; exact congrArg (fun z => AV.c (CV.v (Value.pointer (some z)))) (add_0 _ _)) rfl rfl rfl rfl rfl (by show i * 4 + 1 ≤ u.kids.length * 4; omega) (put_set _ (by rw [hz.1]; omega)) rfl ?_
   refine wX ?_
   refine ⟨⟨i + 1, zs.set (i * 4) (.int .i64 99), rs⟩, ⟨by omega, hz.set i _, hr⟩, by show u.kids.length - (i + 1) < u.kids.length - i; omega, ?_, _, turn_refl _, wkH_refl _⟩
   exact wKK
  ·obtain ⟨r, hrm, e1, e2, e3, e4, e5⟩ := hr k hkm hne
   obtain ⟨rT, rsz, rn, rxs, rb, rc⟩ := r
   simp only at e1 e2 e3 e4 e5
   subst e1 e2 e3
   obtain ⟨s1, s2, hs⟩ := List.append_of_mem hrm
   have hp : rs.Perm (⟨nodeT, 4, k.kids.length, rxs, rb, rc⟩ :: (s1 ++ s2)) := by rw [hs]; exact List.perm_middle
   refine wX ?_
   refine LoopN.introS InS (fun ⟨j, _⟩ => j ≤ k.kids.length)
    (fun ⟨j, _⟩ => mkS Tryd.f3.ntmps 0 [(2, .c (.v (.pointer (some ⟨nb, 0, none⟩)))), (3, .c (.v (.pointer (some ⟨mb, 0, none⟩)))), (4, .c (.v (.bool false))), (5, .c (.v (.pointer (some ⟨cb, 0, none⟩)))), (6, .c (.v (.pointer (some ⟨wb, 0, none⟩)))), (7, .c (.v (.int .i64 (i : Int)))), (8, .c (.v (.int .i64 (j : Int))))])
    (fun ⟨_, xs⟩ => [.fact (fun w => ScanF w ∧ TreeF w a ∧ TreeF w x), .app nodeT 4 (nodeC a) (some ⟨nb, 0, none⟩) 1 1, .app nodeT 4 (nodeC b) (some ⟨mb, 0, none⟩) 1 1, .dead, .dead, .app nodeT 4 zs (some ⟨ub, 0, none⟩) u.kids.length u.cap, famE (s1 ++ s2), .app nodeT 4 (nodeC u) (some ⟨cb, 0, none⟩) 1 1, .app nodeT 4 (nodeC x) (some ⟨wb, 0, none⟩) 1 1, .app nodeT 4 xs (some ⟨rb, 0, none⟩) k.kids.length rc])
    (fun ⟨j, _⟩ => k.kids.length - j) [.dead] rfl (fun _ => rfl) (fun _ => rfl) (fun _ _ => okHB_eq rfl)
    ⟨⟨0, rxs⟩, Nat.zero_le _, ?_, _, (famTake 6 9 ⟨nodeT, 4, k.kids.length, rxs, rb, rc⟩ rfl rfl rfl hp).s, ⟨wkE_refl _, wkE_refl _, wkE_refl _, wkE_refl _, wkE_refl _, wkE_refl _, wkE_refl _, wkE_refl _, wkE_refl _, wkE_refl _, wkH_nil _⟩⟩ ?_
   ·exact wKK
   rintro ⟨j, xs⟩ hj
   refine wX ?_
   refine LdN.one (a := some ⟨cb, 0, none⟩) (q := 3) (.slice (some ⟨ub, 0, none⟩) u.kids.length u.cap) rfl (fun w hw => hw.2.2.2.2.2.1) (by show some (Value.slice u.a _ _) = _; rw [hua]) ?_
   refine wX ?_
   refine Nd.mk ⟨rfl, by omega, by omega⟩ ?_
   refine wX ?_
   refine LdN.fld (.slice k.a k.kids.length k.cap) rfl (fun w hw => hw.2.2.2.1) (by rw [Int.toNat_natCast]; exact hz.2 i k hk) ?_
   refine wX ?_
   refine brd_dec (fun h2 => ?_) (fun h2 => ?_)
   ·refine wX ?_
    refine LdN.one (a := some ⟨cb, 0, none⟩) (q := 3) (.slice (some ⟨ub, 0, none⟩) u.kids.length u.cap) rfl (fun w hw => hw.2.2.2.2.2.1) (by show some (Value.slice u.a _ _) = _; rw [hua]) ?_
    refine wX ?_
    refine Nd.mk ⟨rfl, by omega, by omega⟩ ?_
    refine wX ?_
    refine LdN.fld (.slice k.a k.kids.length k.cap) rfl (fun w hw => hw.2.2.2.1) (by rw [Int.toNat_natCast]; exact hz.2 i k hk) ?_
    refine wX ?_
    refine Nd.mk ⟨by rw [e4]; rfl, by omega, by omega⟩ ?_
    rw [e4]
    refine wX ?_
    refine EffW.appTo (i := 9) (q := j * 4 + 1) (ys := [_]) _ 4 rfl (by show AV.c (CV.v (Value.pointer (some (Addr.add (elemAddr (some ⟨rb, 0, none⟩) (Int.toNat (j : Int) * 4)) 1)))) = _; rw [Int.toNat_natCast, elemAddr, Addr.add_add]; exact congrArg (fun z => AV.c (CV.v (Value.pointer (some z)))) (add_0 _ _)) rfl rfl rfl rfl rfl (by show j * 4 + 1 + 1 ≤ k.kids.length * 4; omega) rfl rfl ?_
    refine wX ?_
    refine ⟨⟨j + 1, _⟩, by show j + 1 ≤ _; omega, by show k.kids.length - (j + 1) < k.kids.length - j; omega, ?_, _, turn_refl _, wkH_refl _⟩
    exact wKK
   ·refine wX ?_
    refine LdN.one (a := some ⟨cb, 0, none⟩) (q := 3) (.slice (some ⟨ub, 0, none⟩) u.kids.length u.cap) rfl (fun w hw => hw.2.2.2.2.2.1) (by show some (Value.slice u.a _ _) = _; rw [hua]) ?_
    refine wX ?_
    refine Nd.mk ⟨rfl, by omega, by omega⟩ ?_
    refine wX ?_
    refine EffW.appTo (i := 5) (q := i * 4) (ys := [_]) (zs.set (i * 4) (.int .i64 99)) 4 rfl (by show AV.c (CV.v (Value.pointer (some (Addr.add (elemAddr (some ⟨ub, 0, none⟩) (Int.toNat (i : Int) * 4)) 0)))) = _; rw [Int.toNat_natCast, elemAddr, Addr.add_add]; exact congrArg (fun z => AV.c (CV.v (Value.pointer (some z)))) (add_0 _ _)) rfl rfl rfl rfl rfl (by show i * 4 + 1 ≤ u.kids.length * 4; omega) (put_set _ (by rw [hz.1]; omega)) rfl ?_
    refine wX ?_
    refine ⟨⟨i + 1, zs.set (i * 4) (.int .i64 99), ⟨nodeT, 4, k.kids.length, xs, rb, rc⟩ :: (s1 ++ s2)⟩, ⟨by omega, hz.set i _, hr.put hp rfl rfl rfl rfl rfl⟩, by show u.kids.length - (i + 1) < u.kids.length - i; omega, ?_, _, (famPut 6 9 rfl rfl rfl (List.Perm.refl _)).s, ⟨wkE_refl _, wkE_refl _, wkE_refl _, wkE_refl _, wkE_refl _, wkE_refl _, wkE_refl _, wkE_refl _, wkE_refl _, wkH_nil _⟩⟩
    exact wKK
 ·refine wX ?_
  refine LdN.agg (a := some ⟨nb, 0, none⟩) (q := 0) (nodeC a) rfl (fun w hw => hw.2.1) rfl (fun j hj => by rw [Nat.zero_add]) ?_
  refine wX ?_
  refine LdN.agg (a := some ⟨wb, 0, none⟩) (q := 0) (nodeC x) rfl (fun w hw => hw.2.2.2.2.2.2.1) rfl (fun j hj => by rw [Nat.zero_add]) ?_
  refine wX ?_
  refine call1 (RSame_c a ha x hx.2 _ (fun w hw => ⟨hw.1.2.1, hw.1.2.2⟩)) ?_
  rw [(sameT_iff a x).2 hx.1.symm]
  refine wX ?_
  refine call1 (hsane _ (fun w hw => hw.1.1)) ?_
  exact wZ
end Go.Proofs.YtpikpjlhdkkigaaDoor
namespace Go.Tree
set_option maxRecDepth 20000
abbrev Nm := List (List (List UInt8))
abbrev Pl := Nat × Nat
structure WR where
 nm : Nm
 pl : List Pl
 un : Bool
def namesAt (nm : Nm) (s : Nat) : List (List UInt8) := nm.getD s []
def fnd (nm : Nm) : List Nat → List UInt8 → Option Pl
 | [], _ => none
 | s :: ch, x => match (namesAt nm s).idxOf? x with
  | some i => some (s, i)
  | none => fnd nm ch x
def decl (nm : Nm) (s : Nat) (x : List UInt8) : Nm × Pl := (nm.set s (namesAt nm s ++ [x]), (s, (namesAt nm s).length))
def sets (nm : Nm) (ch : List Nat) (x : List UInt8) : Nm × Pl := match fnd nm ch x with
 | some p => (nm, p)
 | none => decl nm (ch.headD 0) x
def WR.pre (r : WR) (p : Pl) : WR := ⟨r.nm, p :: r.pl, r.un⟩
def WR.cat (r q : WR) : WR := ⟨q.nm, r.pl ++ q.pl, r.un || q.un⟩
mutual
def wk : TP → List Nat → Nm → WR
 | ⟨o, x, _, _, ks, _⟩, ch, nm =>
  if o = 10 then ⟨(wks ks ch nm).nm, (fnd nm ch x).getD (0, 0) :: (wks ks ch nm).pl, (fnd nm ch x).isNone || (wks ks ch nm).un⟩
  else if o = 11 ∨ o = 49 ∨ (o = 52 ∧ x ≠ []) then (wks ks ch (sets nm ch x).1).pre (sets nm ch x).2
  else if o = 54 ∧ x ≠ [] then (wks ks ch (decl nm (ch.headD 0) x).1).pre (decl nm (ch.headD 0) x).2
  else if o = 35 then wks ks [nm.length] (nm ++ [[]])
  else if o = 24 ∨ o = 25 then wks ks (nm.length :: ch) (nm ++ [[]])
  else if o = 41 ∧ x ≠ [] then (wkr ks x ch nm).1.pre (wkr ks x ch nm).2
  else if o = 32 ∨ o = 33 ∨ o = 34 then wkc ks ch nm
  else wks ks ch nm
termination_by structural x => x
def wks : List TP → List Nat → Nm → WR
 | [], _, nm => ⟨nm, [], false⟩
 | k :: ks, ch, nm => (wk k ch nm).cat (wks ks ch (wk k ch nm).nm)
termination_by structural x => x
def wkc : List TP → List Nat → Nm → WR
 | [], _, nm => ⟨nm, [], false⟩
 | k :: ks, ch, nm => if ks.isEmpty then wk k [nm.length] (nm ++ [[]]) else (wk k ch nm).cat (wkc ks ch (wk k ch nm).nm)
termination_by structural x => x
def wkr : List TP → List UInt8 → List Nat → Nm → WR × Pl
 | [], _, _, nm => (⟨nm, [], false⟩, (0, 0))
 | k :: ks, x, ch, nm => if ks.isEmpty then (wk k ch (sets nm ch x).1, (sets nm ch x).2) else ((wk k ch nm).cat (wkr ks x ch (wk k ch nm).nm).1, (wkr ks x ch (wk k ch nm).nm).2)
termination_by structural x => x
end
def Grw (nm nm' : Nm) : Prop := nm.length ≤ nm'.length ∧ ∀ s, namesAt nm s <+: namesAt nm' s
theorem Grw.refl (nm : Nm) : Grw nm nm := ⟨Nat.le_refl _, fun _ => List.prefix_refl _⟩
theorem Grw.trans {a b c : Nm} (h : Grw a b) (k : Grw b c) : Grw a c := ⟨Nat.le_trans h.1 k.1, fun s => (h.2 s).trans (k.2 s)⟩
theorem namesAt_set (nm : Nm) (s u : Nat) (l : List (List UInt8)) : namesAt (nm.set s l) u = if s = u ∧ s < nm.length then l else namesAt nm u := by
 unfold namesAt
 rw [List.getD_eq_getElem?_getD, List.getD_eq_getElem?_getD, List.getElem?_set]
 split
 ·rename_i h
  subst h
  by_cases hs : s < nm.length
  ·simp [hs]
  ·simp [hs]
 ·rename_i h
  rw [if_neg (fun e => h e.1)]
theorem namesAt_open (nm : Nm) (u : Nat) : namesAt (nm ++ [[]]) u = namesAt nm u := by
 unfold namesAt
 rw [List.getD_eq_getElem?_getD, List.getD_eq_getElem?_getD, List.getElem?_append]
 split
 ·rfl
 ·rename_i h
  rw [List.getElem?_eq_none (by omega : nm.length ≤ u)]
  rcases Nat.eq_zero_or_pos (u - nm.length) with h0 | h0
  ·rw [h0]; rfl
  ·rw [List.getElem?_eq_none (by simp; omega)]
theorem grw_decl (nm : Nm) (s : Nat) (x : List UInt8) : Grw nm (decl nm s x).1 := by
 refine ⟨by simp [decl], fun u => ?_⟩
 unfold decl
 rw [namesAt_set]
 split
 ·rename_i h
  rw [h.1]
  exact List.prefix_append _ _
 ·exact List.prefix_refl _
theorem grw_sets (nm : Nm) (ch : List Nat) (x : List UInt8) : Grw nm (sets nm ch x).1 := by
 unfold sets
 split
 ·exact Grw.refl _
 ·exact grw_decl _ _ _
theorem grw_open (nm : Nm) : Grw nm (nm ++ [[]]) := ⟨by simp, fun u => by rw [namesAt_open]; exact List.prefix_refl _⟩
theorem wks_grow_of {l : List TP} (ih : ∀ k ∈ l, ∀ ch nm, Grw nm (wk k ch nm).nm) : ∀ ch nm, Grw nm (wks l ch nm).nm := by
 induction l with
 | nil => exact fun ch nm => Grw.refl nm
 | cons k l ihl => exact fun ch nm => (ih k (List.mem_cons_self ..) ch nm).trans (ihl (fun k hk => ih k (List.mem_cons_of_mem _ hk)) ch _)
theorem wkc_grow_of {l : List TP} (ih : ∀ k ∈ l, ∀ ch nm, Grw nm (wk k ch nm).nm) : ∀ ch nm, Grw nm (wkc l ch nm).nm := by
 induction l with
 | nil => exact fun ch nm => Grw.refl nm
 | cons k l ihl =>
  intro ch nm
  rw [wkc]
  split
  ·exact (grw_open nm).trans (ih k (List.mem_cons_self ..) _ _)
  ·exact (ih k (List.mem_cons_self ..) ch nm).trans (ihl (fun k hk => ih k (List.mem_cons_of_mem _ hk)) ch _)
theorem wkr_grow_of {l : List TP} (ih : ∀ k ∈ l, ∀ ch nm, Grw nm (wk k ch nm).nm) (x : List UInt8) : ∀ ch nm, Grw nm (wkr l x ch nm).1.nm := by
 induction l with
 | nil => exact fun ch nm => Grw.refl nm
 | cons k l ihl =>
  intro ch nm
  rw [wkr]
  split
  ·exact (grw_sets nm ch x).trans (ih k (List.mem_cons_self ..) _ _)
  ·exact (ih k (List.mem_cons_self ..) ch nm).trans (ihl (fun k hk => ih k (List.mem_cons_of_mem _ hk)) ch _)
theorem wk_grow : ∀ (t : TP) (ch : List Nat) (nm : Nm), Grw nm (wk t ch nm).nm := by
 refine TP.ind fun ⟨o, x, n, a, ks, c⟩ ih ch nm => ?_
 rw [wk]
 have hs := wks_grow_of ih
 split
 ·exact hs ch nm
 split
 ·exact (grw_sets nm ch x).trans (hs ch _)
 split
 ·exact (grw_decl nm _ x).trans (hs ch _)
 split
 ·exact (grw_open nm).trans (hs _ _)
 split
 ·exact (grw_open nm).trans (hs _ _)
 split
 ·exact wkr_grow_of ih x ch nm
 split
 ·exact wkc_grow_of ih ch nm
 ·exact hs ch nm
theorem wks_grow (l : List TP) : ∀ ch nm, Grw nm (wks l ch nm).nm := wks_grow_of fun k _ => wk_grow k
def Ch (nm : Nm) (ch : List Nat) : Prop := ch ≠ [] ∧ ∀ s ∈ ch, s < nm.length
theorem Ch.grow {nm nm' : Nm} {ch : List Nat} (h : Ch nm ch) (g : Grw nm nm') : Ch nm' ch := ⟨h.1, fun s hs => Nat.lt_of_lt_of_le (h.2 s hs) g.1⟩
theorem Ch.one (nm : Nm) : Ch (nm ++ [[]]) [nm.length] := ⟨by simp, fun s hs => by simp at hs; subst hs; simp⟩
theorem Ch.more {nm : Nm} {ch : List Nat} (h : Ch nm ch) : Ch (nm ++ [[]]) (nm.length :: ch) := ⟨by simp, fun s hs => by
 rcases List.mem_cons.1 hs with rfl | hs
 ·simp
 ·have := h.2 s hs; simp; omega⟩
theorem Ch.hd {nm : Nm} {ch : List Nat} (h : Ch nm ch) : ch.headD 0 < nm.length := by
 obtain ⟨h1, h2⟩ := h
 cases ch with
 | nil => exact absurd rfl h1
 | cons s r => exact h2 s (List.mem_cons_self ..)
def vis (nm : Nm) (ch : List Nat) (x : List UInt8) : Prop := ∃ s ∈ ch, x ∈ namesAt nm s
theorem fnd_iff (nm : Nm) (ch : List Nat) (x : List UInt8) : (fnd nm ch x).isSome = true ↔ vis nm ch x := by
 induction ch with
 | nil => simp [fnd, vis]
 | cons s r ih =>
  rw [fnd]
  cases h : (namesAt nm s).idxOf? x with
  | some i =>
   refine ⟨fun _ => ⟨s, List.mem_cons_self .., ?_⟩, fun _ => rfl⟩
   rw [List.idxOf?_eq_some_iff] at h
   obtain ⟨h1, h2, _⟩ := h
   rw [← h2]
   exact List.getElem_mem h1
  | none =>
   rw [List.idxOf?_eq_none_iff] at h
   refine ih.trans ⟨fun ⟨u, hu, hx⟩ => ⟨u, List.mem_cons_of_mem _ hu, hx⟩, fun ⟨u, hu, hx⟩ => ?_⟩
   rcases List.mem_cons.1 hu with rfl | hu
   ·exact absurd hx h
   ·exact ⟨u, hu, hx⟩
theorem vis.grow {nm nm' : Nm} {ch : List Nat} {x : List UInt8} (h : vis nm ch x) (g : Grw nm nm') : vis nm' ch x := by
 obtain ⟨s, hs, hx⟩ := h
 exact ⟨s, hs, (g.2 s).subset hx⟩
theorem vis_decl {nm : Nm} {ch : List Nat} (h : Ch nm ch) (x : List UInt8) : vis (decl nm (ch.headD 0) x).1 ch x := by
 have hh := h.hd
 refine ⟨ch.headD 0, ?_, ?_⟩
 ·obtain ⟨h1, _⟩ := h
  cases ch with
  | nil => exact absurd rfl h1
  | cons s r => exact List.mem_cons_self ..
 ·unfold decl
  rw [namesAt_set, if_pos ⟨rfl, hh⟩]
  simp
theorem vis_sets {nm : Nm} {ch : List Nat} (h : Ch nm ch) (x : List UInt8) : vis (sets nm ch x).1 ch x := by
 unfold sets
 cases hf : fnd nm ch x with
 | some p => exact (fnd_iff nm ch x).1 (by rw [hf]; rfl)
 | none => exact vis_decl h x
def Kn (k : List (List UInt8)) (t : TP) (k' : List (List UInt8)) : Prop := ∀ ch nm, Ch nm ch → (∀ x ∈ k, vis nm ch x) → (wk t ch nm).un = false ∧ ∀ x ∈ k', vis (wk t ch nm).nm ch x
def Kns (k : List (List UInt8)) (l : List TP) (k' : List (List UInt8)) : Prop := ∀ ch nm, Ch nm ch → (∀ x ∈ k, vis nm ch x) → (wks l ch nm).un = false ∧ ∀ x ∈ k', vis (wks l ch nm).nm ch x
theorem Kns.nil (k : List (List UInt8)) : Kns k [] k := fun _ _ _ h => ⟨rfl, h⟩
theorem Kns.cons {k k1 k2 : List (List UInt8)} {t : TP} {l : List TP} (h : Kn k t k1) (hl : Kns k1 l k2) : Kns k (t :: l) k2 := fun ch nm hc hv => by
 obtain ⟨h1, h2⟩ := h ch nm hc hv
 obtain ⟨h3, h4⟩ := hl ch _ (hc.grow (wk_grow t ch nm)) h2
 exact ⟨by rw [wks, WR.cat, h1, h3]; rfl, h4⟩
theorem wks_app (l m : List TP) (ch : List Nat) : ∀ nm, wks (l ++ m) ch nm = (wks l ch nm).cat (wks m ch (wks l ch nm).nm) := by
 induction l with
 | nil => intro nm; simp [wks, WR.cat]
 | cons k l ih =>
  intro nm
  rw [List.cons_append, wks, ih, wks]
  simp [WR.cat, Bool.or_assoc]
theorem Kns.app {k k1 k2 : List (List UInt8)} {l m : List TP} (h : Kns k l k1) (hm : Kns k1 m k2) : Kns k (l ++ m) k2 := fun ch nm hc hv => by
 obtain ⟨h1, h2⟩ := h ch nm hc hv
 obtain ⟨h3, h4⟩ := hm ch _ (hc.grow (wks_grow l ch nm)) h2
 rw [wks_app]
 exact ⟨by rw [WR.cat, h1, h3]; rfl, h4⟩
theorem Kns.one {k k1 : List (List UInt8)} {t : TP} (h : Kn k t k1) : Kns k [t] k1 := Kns.cons h (Kns.nil _)
theorem Kns.weak {k k' k2 k3 : List (List UInt8)} {l : List TP} (h : Kns k l k2) (h1 : ∀ x ∈ k, x ∈ k') (h2 : ∀ x ∈ k3, x ∈ k2) : Kns k' l k3 := fun ch nm hc hv => by
 obtain ⟨h3, h4⟩ := h ch nm hc fun x hx => hv x (h1 x hx)
 exact ⟨h3, fun x hx => h4 x (h2 x hx)⟩
theorem Kn.weak {k k' k2 k3 : List (List UInt8)} {t : TP} (h : Kn k t k2) (h1 : ∀ x ∈ k, x ∈ k') (h2 : ∀ x ∈ k3, x ∈ k2) : Kn k' t k3 := fun ch nm hc hv => by
 obtain ⟨h3, h4⟩ := h ch nm hc fun x hx => hv x (h1 x hx)
 exact ⟨h3, fun x hx => h4 x (h2 x hx)⟩
def plainOp (o : Int) (x : List UInt8) : Prop := o ≠ 10 ∧ o ≠ 11 ∧ o ≠ 49 ∧ ¬ (o = 52 ∧ x ≠ []) ∧ ¬ (o = 54 ∧ x ≠ []) ∧ o ≠ 35 ∧ o ≠ 24 ∧ o ≠ 25 ∧ ¬ (o = 41 ∧ x ≠ []) ∧ o ≠ 32 ∧ o ≠ 33 ∧ o ≠ 34
instance (o : Int) (x : List UInt8) : Decidable (plainOp o x) := by unfold plainOp; infer_instance
theorem wk_plain {o n : Int} {x : List UInt8} {a : Option Addr} {ks : List TP} {c : Nat} (h : plainOp o x) (ch : List Nat) (nm : Nm) : wk ⟨o, x, n, a, ks, c⟩ ch nm = wks ks ch nm := by
 obtain ⟨h1, h2, h3, h4, h5, h6, h7, h8, h9, h10, h11, h12⟩ := h
 rw [wk, if_neg h1, if_neg (by simp only [not_or]; exact ⟨h2, h3, h4⟩), if_neg h5, if_neg h6, if_neg (by simp only [not_or]; exact ⟨h7, h8⟩), if_neg h9, if_neg (by simp only [not_or]; exact ⟨h10, h11, h12⟩)]
theorem Kn.plain {k k' : List (List UInt8)} {o n : Int} {x : List UInt8} {a : Option Addr} {ks : List TP} {c : Nat} (ho : plainOp o x) (h : Kns k ks k') : Kn k ⟨o, x, n, a, ks, c⟩ k' := fun ch nm hc hv => by
 rw [wk_plain ho]
 exact h ch nm hc hv
theorem Kn.set {k k' : List (List UInt8)} {o n : Int} {x : List UInt8} {a : Option Addr} {ks : List TP} {c : Nat} (ho : o = 11 ∨ o = 49 ∨ (o = 52 ∧ x ≠ [])) (h : Kns (x :: k) ks k') : Kn k ⟨o, x, n, a, ks, c⟩ k' := fun ch nm hc hv => by
 rw [wk, if_neg (by omega), if_pos ho]
 exact h ch _ (hc.grow (grw_sets nm ch x)) fun y hy => by
  rcases List.mem_cons.1 hy with rfl | hy
  ·exact vis_sets hc _
  ·exact (hv y hy).grow (grw_sets nm ch x)
theorem wkc_snoc (l : List TP) (s : TP) (ch : List Nat) : ∀ nm, wkc (l ++ [s]) ch nm = (wks l ch nm).cat (wk s [(wks l ch nm).nm.length] ((wks l ch nm).nm ++ [[]])) := by
 induction l with
 | nil => intro nm; simp [wkc, wks, WR.cat]
 | cons k l ih =>
  intro nm
  rw [List.cons_append, wkc, if_neg (by simp), ih, wks]
  simp [WR.cat, Bool.or_assoc]
theorem wkr_snoc (l : List TP) (s : TP) (x : List UInt8) (ch : List Nat) : ∀ nm, wkr (l ++ [s]) x ch nm = ((wks l ch nm).cat (wk s ch (sets (wks l ch nm).nm ch x).1), (sets (wks l ch nm).nm ch x).2) := by
 induction l with
 | nil => intro nm; simp [wkr, wks, WR.cat]
 | cons k l ih =>
  intro nm
  rw [List.cons_append, wkr, if_neg (by simp), ih, wks]
  simp [WR.cat, Bool.or_assoc]
theorem Kn.cls {k k1 k2 : List (List UInt8)} {o n : Int} {x : List UInt8} {a : Option Addr} {ks : List TP} {s : TP} {c : Nat} (ho : o = 32 ∨ o = 33 ∨ o = 34) (h : Kns k ks k1) (hs : Kn [] s k2) : Kn k ⟨o, x, n, a, ks ++ [s], c⟩ k1 := fun ch nm hc hv => by
 rw [wk, if_neg (by omega), if_neg (by omega), if_neg (by omega), if_neg (by omega), if_neg (by omega), if_neg (by omega), if_pos ho, wkc_snoc]
 obtain ⟨h1, h2⟩ := h ch nm hc hv
 refine ⟨?_, fun y hy => ((h2 y hy).grow (grw_open _)).grow (wk_grow s _ _)⟩
 rw [WR.cat, h1, (hs _ _ (Ch.one _) fun y hy => by cases hy).1]
 rfl
def PlOk (nm : Nm) (pl : List Pl) : Prop := ∀ p ∈ pl, p.1 < nm.length ∧ p.2 < (namesAt nm p.1).length
theorem PlOk.grow {nm nm' : Nm} {pl : List Pl} (h : PlOk nm pl) (g : Grw nm nm') : PlOk nm' pl := fun p hp => ⟨Nat.lt_of_lt_of_le (h p hp).1 g.1, Nat.lt_of_lt_of_le (h p hp).2 (g.2 p.1).length_le⟩
theorem PlOk.cons {nm : Nm} {p : Pl} {pl : List Pl} (h1 : p.1 < nm.length ∧ p.2 < (namesAt nm p.1).length) (h : PlOk nm pl) : PlOk nm (p :: pl) := fun q hq => by
 rcases List.mem_cons.1 hq with rfl | hq
 ·exact h1
 ·exact h q hq
theorem PlOk.app {nm : Nm} {l m : List Pl} (h : PlOk nm l) (k : PlOk nm m) : PlOk nm (l ++ m) := fun p hp => (List.mem_append.1 hp).elim (h p) (k p)
theorem fnd_ok {nm : Nm} {ch : List Nat} (hc : ∀ s ∈ ch, s < nm.length) {x : List UInt8} {p : Pl} (h : fnd nm ch x = some p) : p.1 < nm.length ∧ p.2 < (namesAt nm p.1).length := by
 induction ch with
 | nil => cases h
 | cons s r ih =>
  rw [fnd] at h
  cases hi : (namesAt nm s).idxOf? x with
  | some i =>
   rw [hi] at h
   obtain rfl := Option.some.inj h
   rw [List.idxOf?_eq_some_iff] at hi
   exact ⟨hc s (List.mem_cons_self ..), hi.1⟩
  | none =>
   rw [hi] at h
   exact ih (fun s hs => hc s (List.mem_cons_of_mem _ hs)) h
theorem decl_ok {nm : Nm} {s : Nat} (hs : s < nm.length) (x : List UInt8) : (decl nm s x).2.1 < (decl nm s x).1.length ∧ (decl nm s x).2.2 < (namesAt (decl nm s x).1 (decl nm s x).2.1).length := by
 unfold decl
 dsimp only
 rw [namesAt_set, if_pos ⟨rfl, hs⟩]
 simp [hs]
theorem sets_ok {nm : Nm} {ch : List Nat} (hc : Ch nm ch) (x : List UInt8) : (sets nm ch x).2.1 < (sets nm ch x).1.length ∧ (sets nm ch x).2.2 < (namesAt (sets nm ch x).1 (sets nm ch x).2.1).length := by
 unfold sets
 cases hf : fnd nm ch x with
 | some p => exact fnd_ok hc.2 hf
 | none => exact decl_ok hc.hd x
def Good (t : TP) : Prop := ∀ ch nm, Ch nm ch → (wk t ch nm).un = false → PlOk (wk t ch nm).nm (wk t ch nm).pl
theorem goods {l : List TP} (ih : ∀ k ∈ l, Good k) : ∀ ch nm, Ch nm ch → (wks l ch nm).un = false → PlOk (wks l ch nm).nm (wks l ch nm).pl := by
 induction l with
 | nil => exact fun ch nm _ _ p hp => by cases hp
 | cons k l ihl =>
  intro ch nm hc hu
  rw [wks, WR.cat] at hu
  simp only [Bool.or_eq_false_iff] at hu
  have hg := wks_grow l ch (wk k ch nm).nm
  exact ((ih k (List.mem_cons_self ..) ch nm hc hu.1).grow hg).app (ihl (fun k hk => ih k (List.mem_cons_of_mem _ hk)) ch _ (hc.grow (wk_grow k ch nm)) hu.2)
theorem snoc_of {α : Type} {l : List α} (h : l ≠ []) : ∃ m x, l = m ++ [x] := ⟨l.dropLast, l.getLast h, (List.dropLast_concat_getLast h).symm⟩
theorem Good.of {t : TP} (hr : t.op = 41 → t.kids ≠ []) (ih : ∀ k ∈ t.kids, Good k) : Good t := by
 obtain ⟨o, x, n, a, ks, c⟩ := t
 intro ch nm hc
 have hs := goods ih
 rw [wk]
 split
 ·intro hu
  simp only [Bool.or_eq_false_iff] at hu
  refine PlOk.cons ?_ (hs ch nm hc hu.2)
  cases hf : fnd nm ch x with
  | none => rw [hf] at hu; exact absurd hu.1 (by simp)
  | some p =>
   obtain ⟨h1, h2⟩ := fnd_ok hc.2 hf
   have hg := wks_grow ks ch nm
   exact ⟨Nat.lt_of_lt_of_le h1 hg.1, Nat.lt_of_lt_of_le h2 (hg.2 p.1).length_le⟩
 split
 ·intro hu
  obtain ⟨h1, h2⟩ := sets_ok hc x
  have hg := wks_grow ks ch (sets nm ch x).1
  exact PlOk.cons ⟨Nat.lt_of_lt_of_le h1 hg.1, Nat.lt_of_lt_of_le h2 (hg.2 _).length_le⟩ (hs ch _ (hc.grow (grw_sets nm ch x)) hu)
 split
 ·intro hu
  obtain ⟨h1, h2⟩ := decl_ok hc.hd x
  have hg := wks_grow ks ch (decl nm (ch.headD 0) x).1
  exact PlOk.cons ⟨Nat.lt_of_lt_of_le h1 hg.1, Nat.lt_of_lt_of_le h2 (hg.2 _).length_le⟩ (hs ch _ (hc.grow (grw_decl nm _ x)) hu)
 split
 ·exact hs _ _ (Ch.one nm)
 split
 ·exact hs _ _ hc.more
 split
 ·rename_i h41
  obtain ⟨m, s, hms⟩ := snoc_of (hr h41.1)
  have hms : ks = m ++ [s] := hms
  have ihm : ∀ k ∈ m, Good k := fun k hk => ih k (by show k ∈ ks; rw [hms]; simp [hk])
  have ihs : Good s := ih s (by show s ∈ ks; rw [hms]; simp)
  rw [hms, wkr_snoc]
  intro hu
  rw [WR.pre, WR.cat] at hu
  simp only [Bool.or_eq_false_iff] at hu
  have hc1 := hc.grow (wks_grow m ch nm)
  have hg1 := grw_sets (wks m ch nm).nm ch x
  have hg2 := wk_grow s ch (sets (wks m ch nm).nm ch x).1
  obtain ⟨h1, h2⟩ := sets_ok hc1 x
  exact PlOk.cons ⟨Nat.lt_of_lt_of_le h1 hg2.1, Nat.lt_of_lt_of_le h2 (hg2.2 _).length_le⟩ ((((goods ihm ch nm hc hu.1).grow hg1).grow hg2).app (ihs ch _ (hc1.grow hg1) hu.2))
 split
 ·intro hu
  rcases List.eq_nil_or_concat ks with h0 | ⟨m, s, hms⟩
  ·subst h0
   intro p hp
   cases hp
  ·rw [List.concat_eq_append] at hms
   have ihm : ∀ k ∈ m, Good k := fun k hk => ih k (by show k ∈ ks; rw [hms]; simp [hk])
   have ihs : Good s := ih s (by show s ∈ ks; rw [hms]; simp)
   rw [hms, wkc_snoc] at hu ⊢
   rw [WR.cat] at hu
   simp only [Bool.or_eq_false_iff] at hu
   have hg2 := wk_grow s [(wks m ch nm).nm.length] ((wks m ch nm).nm ++ [[]])
   exact (((goods ihm ch nm hc hu.1).grow (grw_open _)).grow hg2).app (ihs _ _ (Ch.one _) hu.2)
 ·exact hs ch nm hc
end Go.Tree
namespace Go.Tree
open Go.Scan
set_option maxRecDepth 20000
def loB (s : List UInt8) : Bool := inB s && !kwB s && !endB s
def naB (s : List UInt8) : Bool := inB s && !kwB s
def meB (s : List UInt8) : Bool := opL.contains s || inB s || setB s
inductive Ro where
 | ex | arg | blk | par | res | ens | inn (k : Bool) | els | pat (k : Bool) | pre | use | top
def parOk : Int → List (List UInt8) → List TP → Prop
 | _, _, [] => True
 | k, us, p :: ps => k ≤ p.n ∧ p.n ≤ 3 ∧ ¬ (p.n = k ∧ 2 ≤ k) ∧ p.name ∉ us ∧ parOk p.n (if p.name = [] then us else p.name :: us) ps
def pathT (t : TP) : Prop := t.op = 14 ∨ t.op = 15 ∧ ∃ k, t.kids = [k] ∧ k.op = 14
def constT (t : TP) : Prop := t.op = 4 ∨ t.op = 5 ∨ t.op = 6 ∨ t.op = 0 ∨ t.op = 1 ∨ t.op = 2 ∨ t.op = 10 ∨ pathT t
def opS : List UInt8 → Bool := fun s => opL.contains s
def ix1 : List UInt8 := [91, 93]
def ix2 : List UInt8 := [91, 93, 61]
inductive V : Ro → TP → Prop
 | bare {o a c} (h : o = 0 ∨ o = 1 ∨ o = 2 ∨ o = 3 ∨ o = 39) : V .ex ⟨o, [], 0, a, [], c⟩
 | int {n a c} (h : -1000000000000000 ≤ n ∧ n ≤ 1000000000000000) : V .ex ⟨4, [], n, a, [], c⟩
 | str {x a c} (h : x.length ≤ 2000) : V .ex ⟨5, x, 0, a, [], c⟩
 | sym {x a c} (h : meB x = true ∨ icB x = true ∨ iiB x = true) : V .ex ⟨6, x, 0, a, [], c⟩
 | dstr1 {a c s} (h : V .ex s) (hs : s.op = 26) : V .ex ⟨7, [], 0, a, [s], c⟩
 | dstr3 {a c s x y ax ay cx cy} (h : V .ex s) (hs : s.op = 26) (hx : x ≠ [] ∧ x.length ≤ 2000) (hy : y ≠ [] ∧ y.length ≤ 2000) : V .ex ⟨7, [], 0, a, [⟨5, x, 0, ax, [], cx⟩, s, ⟨5, y, 0, ay, [], cy⟩], c⟩
 | args {o a c l} (ho : o = 8 ∨ o = 21) (h : ∀ k ∈ l, V .arg k) : V .ex ⟨o, [], 0, a, l, c⟩
 | hash {a c l} (h2 : l.length % 2 = 0) (h : ∀ k ∈ l, V .ex k) : V .ex ⟨9, [], 0, a, l, c⟩
 | loc {x a c} (h : loB x = true) : V .ex ⟨10, x, 0, a, [], c⟩
 | setl {x a c k} (h : loB x = true) (hk : V .ex k) : V .ex ⟨11, x, 0, a, [k], c⟩
 | ivar {x a c} (h : iiB x = true) : V .ex ⟨12, x, 0, a, [], c⟩
 | seti {x a c k} (h : iiB x = true) (hk : V .ex k) : V .ex ⟨13, x, 0, a, [k], c⟩
 | const {x a c} (h : icB x = true) : V .ex ⟨14, x, 0, a, [], c⟩
 | scope {o x a c k} (ho : o = 15 ∨ o = 16) (h : icB x = true) (hk : V .ex k) : V .ex ⟨o, x, 0, a, [k], c⟩
 | cop {x a c k l} (h : opS x = true) (hk : V .ex k) (hl : ∀ k ∈ l, V .ex k) (h1 : 1 ≤ l.length) (h2 : x = ix2 → 2 ≤ l.length) (h3 : x ≠ ix1 → x ≠ ix2 → l.length = 1) : V .ex ⟨17, x, 0, a, k :: l, c⟩
 | cset {x a c k q} (h : meB x = true) (ho : opS x = false) (he : x.getLast? = some 61) (hk : V .ex k) (hq : V .ex q) : V .ex ⟨17, x, 0, a, [k, q], c⟩
 | call {x n a c k l b} (h : meB x = true) (ho : opS x = false) (he : x.getLast? ≠ some 61) (hn : n = 0 ∨ n = 1) (hk : V .ex k) (hl : ∀ k ∈ l, V .arg k) (hb : ∀ k ∈ b, V .blk k) (h1 : b.length ≤ 1) : V .ex ⟨17, x, n, a, k :: (l ++ b), c⟩
 | fcall {x a c l b} (h : naB x = true) (hl : ∀ k ∈ l, V .arg k) (hb : ∀ k ∈ b, V .blk k) (h1 : b.length ≤ 1) : V .ex ⟨18, x, 0, a, l ++ b, c⟩
 | super {a c l b} (hl : ∀ k ∈ l, V .arg k) (hb : ∀ k ∈ b, V .blk k) (h1 : b.length ≤ 1) : V .ex ⟨19, [], 0, a, l ++ b, c⟩
 | zsup {a c} : V .ex ⟨20, [], 0, a, [], c⟩
 | lam {a c l s} (hl : ∀ k ∈ l, V .par k) (hp : parOk 0 [] l) (hs : V .ex s) (h : s.op = 26) : V .ex ⟨25, [], 0, a, l ++ [s], c⟩
 | seq {a c l} (h : ∀ k ∈ l, V .ex k) : V .ex ⟨26, [], 0, a, l, c⟩
 | iff {a c k s q} (hk : V .ex k) (hs : V .ex s) (hso : s.op = 26) (hq : V .ex q) (hqo : q.op = 26) : V .ex ⟨27, [], 0, a, [k, s, q], c⟩
 | whil {o a c k s} (ho : o = 28 ∨ o = 34) (hk : V .ex k) (hs : V .ex s) (hso : s.op = 26) : V .ex ⟨o, [], 0, a, [k, s], c⟩
 | and {o a c k q} (ho : o = 29 ∨ o = 30) (hk : V .ex k) (hq : V .ex q) : V .ex ⟨o, [], 0, a, [k, q], c⟩
 | not {a c k} (hk : V .ex k) : V .ex ⟨31, [], 0, a, [k], c⟩
 | cls0 {x a c s} (h : icB x = true) (hs : V .ex s) (hso : s.op = 26) : V .ex ⟨32, x, 0, a, [s], c⟩
 | cls1 {x a c k s} (h : icB x = true) (hk : V .ex k) (hs : V .ex s) (hso : s.op = 26) : V .ex ⟨32, x, 1, a, [k, s], c⟩
 | modu {x a c s} (h : icB x = true) (hs : V .ex s) (hso : s.op = 26) : V .ex ⟨33, x, 0, a, [s], c⟩
 | dfn {x n a c l s} (h : meB x = true) (hn : n = 0 ∨ n = 1) (hl : ∀ k ∈ l, V .par k) (hp : parOk 0 [] l) (hs : V .ex s) (hso : s.op = 26) : V .ex ⟨35, x, n, a, l ++ [s], c⟩
 | ret {o a c l} (ho : o = 36 ∨ o = 37 ∨ o = 38) (h1 : l.length ≤ 1) (h : ∀ k ∈ l, V .ex k) : V .ex ⟨o, [], 0, a, l, c⟩
 | begin {a c s l e} (hs : V .ex s) (hso : s.op = 26) (hl : ∀ k ∈ l, V .res k) (he : ∀ k ∈ e, V .ens k) (h1 : e.length ≤ 1) (h2 : 1 ≤ l.length + e.length) : V .ex ⟨40, [], 0, a, s :: (l ++ e), c⟩
 | alias {x y a c ay cy} (h : meB x = true) (hy : meB y = true) : V .ex ⟨43, x, 0, a, [⟨6, y, 0, ay, [], cy⟩], c⟩
 | undef {x a c} (h : meB x = true) : V .ex ⟨44, x, 0, a, [], c⟩
 | cas {d n a c k l e} (hn : n = if d then 1 else 0) (hk : V .ex k) (hl : ∀ k ∈ l, V (.inn d) k) (h1 : 1 ≤ l.length) (he : ∀ k ∈ e, V .els k) (h2 : e.length ≤ 1) : V .ex ⟨46, [], n, a, k :: (l ++ e), c⟩
 | argx {t} (h : V .ex t) : V .arg t
 | splat {a c k} (h : V .ex k) : V .arg ⟨22, [], 0, a, [k], c⟩
 | bpass {a c k} (h : V .ex k) : V .blk ⟨23, [], 0, a, [k], c⟩
 | block {a c l s} (hl : ∀ k ∈ l, V .par k) (hp : parOk 0 [] l) (hs : V .ex s) (h : s.op = 26) : V .blk ⟨24, [], 0, a, l ++ [s], c⟩
 | par0 {a c} : V .par ⟨54, [], 2, a, [], c⟩
 | parn {x n a c} (h : loB x = true) (hn : n = 0 ∨ n = 2 ∨ n = 3) : V .par ⟨54, x, n, a, [], c⟩
 | par1 {x a c k} (h : loB x = true) (hk : V .ex k) : V .par ⟨54, x, 1, a, [k], c⟩
 | res {x a c l s} (h : x = [] ∨ loB x = true) (hl : ∀ k ∈ l, V .ex k) (hs : V .ex s) (hso : s.op = 26) : V .res ⟨41, x, 0, a, l ++ [s], c⟩
 | ens {a c s} (hs : V .ex s) (hso : s.op = 26) : V .ens ⟨42, [], 0, a, [s], c⟩
 | els {a c s} (hs : V .ex s) (hso : s.op = 26) : V .els ⟨55, [], 0, a, [s], c⟩
 | inn {d a c p s} (hp : V (.pat d) p) (hs : V .ex s) (hso : s.op = 26) : V (.inn d) ⟨47, [], 0, a, [p, s], c⟩
 | ing {a c p k s} (hp : V (.pat true) p) (hk : V .ex k) (hs : V .ex s) (hso : s.op = 26) : V (.inn true) ⟨47, [], 1, a, [p, k, s], c⟩
 | pval0 {a c k} (hk : V .ex k) : V (.pat false) ⟨48, [], 0, a, [k], c⟩
 | pval1 {a c k} (hk : V .ex k) (hc : constT k) : V (.pat true) ⟨48, [], 0, a, [k], c⟩
 | palt0 {a c l} (hl : ∀ k ∈ l, V (.pat false) k) (ho : ∀ k ∈ l, k.op = 48) (h2 : 2 ≤ l.length) : V (.pat false) ⟨53, [], 0, a, l, c⟩
 | palt1 {a c l} (hl : ∀ k ∈ l, V (.pat true) k) (h2 : 2 ≤ l.length) : V (.pat true) ⟨53, [], 0, a, l, c⟩
 | pbind {x a c} (h : loB x = true) (hx : x ≠ [95]) : V (.pat true) ⟨49, x, 0, a, [], c⟩
 | pany {a c} : V (.pat true) ⟨50, [], 0, a, [], c⟩
 | parr {a c l} (hl : ∀ k ∈ l, k.op ≠ 52 → V (.pat true) k) (hr : ∀ k ∈ l, k.op = 52 → V .pre k) (h1 : (l.filter fun k => k.op == 52).length ≤ 1) : V (.pat true) ⟨51, [], 0, a, l, c⟩
 | prest {x a c} (h : x = [] ∨ loB x = true) : V .pre ⟨52, x, 0, a, [], c⟩
 | use {a c k} (hk : V .ex k) (hp : pathT k) : V .use ⟨45, [], 0, a, [k], c⟩
 | top {a c l} (h : ∀ k ∈ l, k.op ≠ 45 → V .ex k) (hu : ∀ k ∈ l, k.op = 45 → V .use k) : V .top ⟨26, [], 0, a, l, c⟩
theorem lo_ne {x : List UInt8} (h : loB x = true) : x ≠ [] := fun e => by rw [e] at h; exact absurd h (by decide)
def Ro.inner : Ro → Prop
 | .use => False
 | .top => False
 | _ => True
theorem V.opx {r : Ro} {t : TP} (h : V r t) (hr : r.inner) (ha : r ≠ .arg) : t.op ≠ 45 := by
 cases h <;> first | exact hr.elim | (intro e; dsimp only at e; omega) | exact absurd rfl ha
theorem arg_cases {t : TP} (h : V .arg t) : V .ex t ∨ ∃ a c k, V .ex k ∧ t = ⟨22, [], 0, a, [k], c⟩ := by
 cases h with
 | argx h => exact .inl h
 | splat h => exact .inr ⟨_, _, _, h, rfl⟩
theorem V.op {r : Ro} {t : TP} (h : V r t) (hr : r.inner) : t.op ≠ 45 := by
 by_cases ha : r = .arg
 ·subst ha
  rcases arg_cases h with h | ⟨a, c, k, _, rfl⟩
  ·exact h.opx trivial (by intro e; cases e)
  ·show ¬ (22 : Int) = 45
   decide
 ·exact h.opx hr ha
theorem allV {P : TP → Prop} {l m : List TP} (h : ∀ k ∈ l, P k) (h2 : ∀ k ∈ m, P k) : ∀ k ∈ l ++ m, P k := fun k hk => (List.mem_append.1 hk).elim (h k) (h2 k)
theorem allC {P : TP → Prop} {x : TP} {m : List TP} (h : P x) (h2 : ∀ k ∈ m, P k) : ∀ k ∈ x :: m, P k := fun k hk => by
 rcases List.mem_cons.1 hk with rfl | hk
 ·exact h
 ·exact h2 k hk
theorem allN {P : TP → Prop} : ∀ k ∈ ([] : List TP), P k := fun k hk => by cases hk
def In (k : TP) : Prop := ∃ r, Ro.inner r ∧ V r k
theorem In.of {r : Ro} {k : TP} (hr : Ro.inner r) (h : V r k) : In k := ⟨r, hr, h⟩
theorem Ins.of {r : Ro} {l : List TP} (hr : Ro.inner r) (h : ∀ k ∈ l, V r k) : ∀ k ∈ l, In k := fun k hk => ⟨r, hr, h k hk⟩
theorem V.kidsx {r : Ro} {t : TP} (h : V r t) (hr : r ≠ .top) (ha : r ≠ .arg) : ∀ k ∈ t.kids, In k := by
 cases h with
 | bare h => exact allN
 | int h => exact allN
 | str h => exact allN
 | sym h => exact allN
 | dstr1 h hs => exact allC (.of (r := .ex) trivial h) allN
 | dstr3 h hs hx hy => exact allC (.of (r := .ex) trivial (.str hx.2)) (allC (.of (r := .ex) trivial h) (allC (.of (r := .ex) trivial (.str hy.2)) allN))
 | args ho h => exact Ins.of (r := .arg) trivial h
 | hash h2 h => exact Ins.of (r := .ex) trivial h
 | loc h => exact allN
 | setl h hk => exact allC (.of (r := .ex) trivial hk) allN
 | ivar h => exact allN
 | seti h hk => exact allC (.of (r := .ex) trivial hk) allN
 | const h => exact allN
 | scope ho h hk => exact allC (.of (r := .ex) trivial hk) allN
 | cop h hk hl h1 h2 h3 => exact allC (.of (r := .ex) trivial hk) (Ins.of (r := .ex) trivial hl)
 | cset h ho he hk hq => exact allC (.of (r := .ex) trivial hk) (allC (.of (r := .ex) trivial hq) allN)
 | call h ho he hn hk hl hb h1 => exact allC (.of (r := .ex) trivial hk) (allV (Ins.of (r := .arg) trivial hl) (Ins.of (r := .blk) trivial hb))
 | fcall h hl hb h1 => exact allV (Ins.of (r := .arg) trivial hl) (Ins.of (r := .blk) trivial hb)
 | super hl hb h1 => exact allV (Ins.of (r := .arg) trivial hl) (Ins.of (r := .blk) trivial hb)
 | zsup => exact allN
 | lam hl hp hs h => exact allV (Ins.of (r := .par) trivial hl) (allC (.of (r := .ex) trivial hs) allN)
 | seq h => exact Ins.of (r := .ex) trivial h
 | iff hk hs hso hq hqo => exact allC (.of (r := .ex) trivial hk) (allC (.of (r := .ex) trivial hs) (allC (.of (r := .ex) trivial hq) allN))
 | whil ho hk hs hso => exact allC (.of (r := .ex) trivial hk) (allC (.of (r := .ex) trivial hs) allN)
 | and ho hk hq => exact allC (.of (r := .ex) trivial hk) (allC (.of (r := .ex) trivial hq) allN)
 | not hk => exact allC (.of (r := .ex) trivial hk) allN
 | cls0 h hs hso => exact allC (.of (r := .ex) trivial hs) allN
 | cls1 h hk hs hso => exact allC (.of (r := .ex) trivial hk) (allC (.of (r := .ex) trivial hs) allN)
 | modu h hs hso => exact allC (.of (r := .ex) trivial hs) allN
 | dfn h hn hl hp hs hso => exact allV (Ins.of (r := .par) trivial hl) (allC (.of (r := .ex) trivial hs) allN)
 | ret ho h1 h => exact Ins.of (r := .ex) trivial h
 | begin hs hso hl he h1 h2 => exact allC (.of (r := .ex) trivial hs) (allV (Ins.of (r := .res) trivial hl) (Ins.of (r := .ens) trivial he))
 | alias h hy => exact allC (.of (r := .ex) trivial (.sym (.inl hy))) allN
 | undef h => exact allN
 | cas hn hk hl h1 he h2 => exact allC (.of (r := .ex) trivial hk) (allV (Ins.of (r := .inn _) trivial hl) (Ins.of (r := .els) trivial he))
 | argx h => exact absurd rfl ha
 | splat h => exact allC (.of (r := .ex) trivial h) allN
 | bpass h => exact allC (.of (r := .ex) trivial h) allN
 | block hl hp hs h => exact allV (Ins.of (r := .par) trivial hl) (allC (.of (r := .ex) trivial hs) allN)
 | par0 => exact allN
 | parn h hn => exact allN
 | par1 h hk => exact allC (.of (r := .ex) trivial hk) allN
 | res h hl hs hso => exact allV (Ins.of (r := .ex) trivial hl) (allC (.of (r := .ex) trivial hs) allN)
 | ens hs hso => exact allC (.of (r := .ex) trivial hs) allN
 | els hs hso => exact allC (.of (r := .ex) trivial hs) allN
 | inn hp hs hso => exact allC (.of (r := .pat _) trivial hp) (allC (.of (r := .ex) trivial hs) allN)
 | ing hp hk hs hso => exact allC (.of (r := .pat _) trivial hp) (allC (.of (r := .ex) trivial hk) (allC (.of (r := .ex) trivial hs) allN))
 | pval0 hk => exact allC (.of (r := .ex) trivial hk) allN
 | pval1 hk hc => exact allC (.of (r := .ex) trivial hk) allN
 | palt0 hl ho h2 => exact Ins.of (r := .pat _) trivial hl
 | palt1 hl h2 => exact Ins.of (r := .pat _) trivial hl
 | pbind h hx => exact allN
 | pany => exact allN
 | parr hl hr1 h1 =>
  intro k hk
  by_cases h : k.op = 52
  ·exact .of (r := .pre) trivial (hr1 k hk h)
  ·exact .of (r := .pat _) trivial (hl k hk h)
 | prest h => exact allN
 | use hk hp => exact allC (.of (r := .ex) trivial hk) allN
 | top h hu => exact absurd rfl hr
theorem V.kids {r : Ro} {t : TP} (h : V r t) (hr : r ≠ .top) : ∀ k ∈ t.kids, In k := by
 by_cases ha : r = .arg
 ·subst ha
  rcases arg_cases h with h | ⟨a, c, k, hk, rfl⟩
  ·exact h.kidsx (by intro e; cases e) (by intro e; cases e)
  ·exact allC (.of (r := .ex) trivial hk) allN
 ·exact h.kidsx hr ha
theorem In.us {t : TP} (h : In t) : t.us = 0 := by
 revert h
 refine TP.ind (P := fun t => In t → t.us = 0) (fun t ih h => ?_) t
 obtain ⟨r, hr, hv⟩ := h
 have hk := hv.kids (by intro e; subst e; exact hr)
 have hs : ∀ l : List TP, (∀ k ∈ l, k.us = 0) → uss l = 0 := fun l hl => by
  induction l with
  | nil => rfl
  | cons k l ihl => rw [uss, hl k (List.mem_cons_self ..), ihl fun k hk => hl k (List.mem_cons_of_mem _ hk)]
 rw [us_eq, if_neg (hv.op hr), hs _ fun k h => ih k h (hk k h)]
theorem V.top_us {t : TP} (h : V .top t) : t.us = (t.kids.filter fun k => k.op == 45).length := by
 cases h with
 | top h hu =>
  rename_i a c l
  have hl : ∀ m : List TP, (∀ k ∈ m, k ∈ l) → uss m = (m.filter fun k => k.op == 45).length := fun m => by
   induction m with
   | nil => intro _; rfl
   | cons k m ih =>
    intro hm
    have hk := hm k (List.mem_cons_self ..)
    rw [uss, ih fun k h => hm k (List.mem_cons_of_mem _ h), List.filter_cons]
    by_cases ho : k.op = 45
    ·have hv := hu k hk ho
     have : uss k.kids = 0 := by
      have hin := hv.kids (by intro e; cases e)
      have hs : ∀ l : List TP, (∀ k ∈ l, k.us = 0) → uss l = 0 := fun l hl => by
       induction l with
       | nil => rfl
       | cons k l ihl => rw [uss, hl k (List.mem_cons_self ..), ihl fun k hk => hl k (List.mem_cons_of_mem _ hk)]
      exact hs _ fun k h => (hin k h).us
     rw [us_eq, if_pos ho, this]
     simp [ho]
     omega
    ·have hv := h k hk ho
     rw [(In.of (r := .ex) trivial hv).us]
     simp [ho]
  rw [us_eq]
  exact (Nat.zero_add _).trans (hl l fun k h => h)
end Go.Tree
namespace Go.AX
def isA : Option Ent → Bool
 | some (.app ..) => true
 | _ => false
def swE (H : List Ent) (i j : Nat) : List Ent :=
 match nthE H i, nthE H j with
 | some e, some f => (H.set i f).set j e
 | _, _ => H
theorem Sat.swE {ρ : List Loc} {S : Nat → Prop} {H : List Ent} {w : World} (h : Sat ρ S H w) {i j : Nat} (hi : isA (nthE H i) = true) (hj : isA (nthE H j) = true) (hne : Nat.beq i j = false) : Sat ρ S (swE H i j) w ∧ Ev ρ S H w ρ S (swE H i j) w := by
 unfold AX.swE
 rw [nthE_eq] at hi hj ⊢
 rw [nthE_eq]
 cases hi' : H[i]? with
 | none => rw [hi'] at hi; cases hi
 | some e =>
  cases hj' : H[j]? with
  | none => rw [hj'] at hj; cases hj
  | some f =>
   rw [hi'] at hi
   rw [hj'] at hj
   cases e <;> first | (cases hi; done) | skip
   cases f <;> first | (cases hj; done) | skip
   exact h.swap hi' hj' (Nat.ne_of_beq_eq_false hne)
theorem ReadW.slc_lo {P : Program} {o : Oper} {s : List AV} {H : List Ent} {K : AV → Prop} {t e : TypeId} {x y : Operand} {a : Option Addr} {n cap sz : Nat} {k : IntKind} {i : Int} {inf : TypeInfo} (j n' : Nat) (a' : Option Addr) (ho : o.op = .slice t x (some y) none none) (hu : P.underlying t = some (.slice e)) (hi : P.info? e = some inf) (hs : inf.size = sz)
  (hx : opv s x = .c (.v (.slice a n cap))) (hy : opv s y = .c (.v (.int k i))) (hj : i = (j : Int) ∧ j ≤ n ∧ n ≤ cap) (hn : n - j = n') (ha : (if cap = j then a else a.map (·.add (j * sz))) = a') (h : K (.c (.v (.slice a' n' (cap - j))))) : ReadW P o s H K := by
 obtain ⟨rfl, hjn, hnc⟩ := hj
 subst hn ha hs
 refine ReadW.val _ (fun cs b => by rw [ho]; simp) (by rw [ho]; simp [Op.operands, allPlain, hx, hy]) (fun w _ => ?_) h
 have e1 := plainEv_v hx
 have e2 := plainEv_v hy
 have : (Instr.sliceAt t (.slice a n cap) (some (.int k (j : Int))) none none).run P w = .ok (.slice (if cap = j then a else a.map (·.add (j * inf.size))) (n - j) (cap - j)) w := by
  simp [Instr.sliceAt, Instr.slice, run_underlying hu, Instr.sliceBounds, Instr.sliceBound, asIntOf, hjn, sizeOf, typeInfo, hi]
 refine run_op_slice ho ?_
 rw [e1]
 simpa [e2] using this
end Go.AX
namespace Go.Proofs.YtpikpjlhdkkigaaDoor
open Go.AX Go.RowKit Go.Tree Go.Scan
set_option maxRecDepth 20000
def LsF (a : Option Addr) (l : List TP) (w : World) : Prop := SlAt a (l.length * 4) (nodesC l) w ∧ ∀ k ∈ l, TreeF w k
structure LsK (a : Option Addr) (cap : Nat) (l : List TP) : Prop where
 cap : l.length ≤ cap
 nil : a = none → l = []
 len : l.length ≤ 1048576
 k : ∀ k ∈ l, TreeK k
theorem TreeF.ls {w : World} {t : TP} (h : TreeF w t) : LsF t.a t.kids w := ⟨h.row, fun _ hk => h.kid hk⟩
theorem TreeK.ls {t : TP} (h : TreeK t) : LsK t.a t.cap t.kids := ⟨h.cap, h.nil, h.len, fun _ hk => h.kid hk⟩
theorem LsF.take {a : Option Addr} {l : List TP} {w : World} (h : LsF a l w) (n : Nat) : LsF a (l.take n) w := by
 obtain ⟨⟨h1, h2, h3⟩, h4⟩ := h
 have hl : (l.take n).length ≤ l.length := by rw [List.length_take]; omega
 refine ⟨⟨nodesC_len _, fun hp => h2 (by omega), fun j hj => ?_⟩, fun k hk => h4 k (List.mem_of_mem_take hk)⟩
 rw [h3 j (by omega)]
 have : nodesC l = nodesC (l.take n) ++ nodesC (l.drop n) := by rw [nodesC_app, List.take_append_drop]
 rw [this, List.getElem?_append_left (by rw [nodesC_len]; exact hj)]
theorem LsK.take {a : Option Addr} {cap : Nat} {l : List TP} (h : LsK a cap l) (n : Nat) : LsK a cap (l.take n) := ⟨by have := h.cap; rw [List.length_take]; omega, fun ha => by rw [h.nil ha, List.take_nil], by have := h.len; rw [List.length_take]; omega, fun k hk => h.k k (List.mem_of_mem_take hk)⟩
def Yes (g : Nat) (t : TP) : Prop := ∀ H, (∀ w, Facts H w → ScanF w ∧ TreeF w t) → SpecH Tryd.prog g (pvs [nodeV t]) H (Ret (.bool true) H)
def YesL (g : Nat) (l : List TP) : Prop := ∀ (a : Option Addr) (cap : Nat), LsK a cap l → ∀ H, (∀ w, Facts H w → ScanF w ∧ LsF a l w) → SpecH Tryd.prog g (pvs [.slice a l.length cap]) H (Ret (.bool true) H)
theorem NoIdx_c (g : Nat) (caps : Array Value) (a : Option Addr) (l : List TP) (cap : Nat) (F : World → Prop) (hl : LsK a cap l) (hf : ∀ k ∈ l, ∀ H, (∀ w, Facts H w → ScanF w ∧ TreeF w k ∧ F w) → SpecH Tryd.prog g (pvs [nodeV k] ++ pvs caps.toList) H (Ret (.bool false) H)) :
  ∀ H, (∀ w, Facts H w → ScanF w ∧ LsF a l w ∧ F w) → SpecH Tryd.prog 26 (pvs [.slice a l.length cap, .func (.func g) #[] caps]) H (Ret (.int .i64 (-1)) H) := by
 refine factC hm Tryd.func26 (by kernel_rfl) rfl rfl ?_
 have hll := hl.len
 refine wX ?_
 refine loopS Nat (fun i => i ≤ l.length) (fun i => mkS Tryd.f26.ntmps 0 [(0, .c (.v (.slice a l.length cap))), (1, .c (.v (.func (.func g) #[] caps))), (7, .c (.v (.int .i64 (l.length : Int)))), (8, .c (.v (.int .i64 (i : Int))))]) (fun i => l.length - i) rfl (fun _ => rfl) 0 (Nat.zero_le _) ?_ fun i hi => ?_
 ·exact wKK
 refine wX ?_
 refine brd_dec (fun h1 => ?_) (fun h1 => ?_)
 ·obtain ⟨k, hk⟩ : ∃ k, l[i]? = some k := ⟨_, List.getElem?_eq_getElem (by omega)⟩
  have hsa := isT hl.nil hk
  have hkm := List.mem_of_getElem? hk
  refine wX ?_
  refine Nd.mk ⟨hsa, by omega, by omega⟩ ?_
  refine wX ?_
  refine LdN.agg (nodeC k) rfl (fun w hw => hw.1.2.1.1) rfl (fun j hj => by
   rw [Int.toNat_natCast]
   exact nodesC_get l i j hj hk) ?_
  refine wX ?_
  refine call1 (hf k hkm _ (fun w hw => ⟨hw.1.1, hw.1.2.1.2 k hkm, hw.1.2.2⟩)) ?_
  refine wX ?_
  refine ⟨i + 1, by show i + 1 ≤ _; omega, by show l.length - (i + 1) < l.length - i; omega, ?_, wHH⟩
  exact wKK
 ·exact wZ
theorem NoFn_c (g : Nat) (caps : Array Value) (a : Option Addr) (l : List TP) (cap : Nat) (F : World → Prop) (hl : LsK a cap l) (hf : ∀ k ∈ l, ∀ H, (∀ w, Facts H w → ScanF w ∧ TreeF w k ∧ F w) → SpecH Tryd.prog g (pvs [nodeV k] ++ pvs caps.toList) H (Ret (.bool false) H)) :
  ∀ H, (∀ w, Facts H w → ScanF w ∧ LsF a l w ∧ F w) → SpecH Tryd.prog 19 (pvs [.slice a l.length cap, .func (.func g) #[] caps]) H (Ret (.bool false) H) := by
 refine factC hm Tryd.func19 (by kernel_rfl) rfl rfl ?_
 refine wX ?_
 refine call1 (NoIdx_c g caps a l cap F hl hf _ (fun w hw => hw.1)) ?_
 refine wX ?_
 rfl
theorem unnamed_c (t : TP) (hx : t.name = []) (hn : t.n = 0) : ∀ H, SpecH Tryd.prog 48 (pvs [nodeV t]) H (Ret (.bool true) H) := by
 obtain ⟨o, x, n, a, ks, c⟩ := t
 simp only at hx hn
 subst hx hn
 refine pureC hm Tryd.func48 (by kernel_rfl) rfl rfl ?_
 refine wX ?_
 rfl
theorem leaf_c (t : TP) (hk : t.kids = []) : ∀ H, SpecH Tryd.prog 28 (pvs [nodeV t]) H (Ret (.bool true) H) := by
 obtain ⟨o, x, n, a, ks, c⟩ := t
 simp only at hk
 subst hk
 refine pureC hm Tryd.func28 (by kernel_rfl) rfl rfl ?_
 refine wX ?_
 rfl
theorem bare_c (t : TP) (hx : t.name = []) (hn : t.n = 0) (hk : t.kids = []) : ∀ H, SpecH Tryd.prog 27 (pvs [nodeV t]) H (Ret (.bool true) H) := by
 obtain ⟨o, x, n, a, ks, c⟩ := t
 simp only at hx hn hk
 subst hx hn hk
 refine pureC hm Tryd.func27 (by kernel_rfl) rfl rfl ?_
 refine wX ?_
 refine call1 (leaf_c ⟨o, [], 0, a, [], c⟩ rfl _) ?_
 refine wX ?_
 rfl
def exOp (o : Int) : Prop := 0 ≤ o ∧ o ≤ 46 ∧ o ≠ 22 ∧ o ≠ 23 ∧ o ≠ 24 ∧ o ≠ 41 ∧ o ≠ 42
theorem Expr_c (o : Int) (h : exOp o) : ∀ H, SpecH Tryd.prog 56 (pvs [.int .i64 o]) H (Ret (.bool true) H) := by
 refine pureC hm Tryd.func56 (by kernel_rfl) rfl rfl ?_
 obtain ⟨h0, h1, h2, h3, h4, h5, h6⟩ := h
 refine wX ?_
 repeat' (refine brd_eq (fun h => by omega) (fun _ => ?_); (first | refine wX ?_ | exact wZ))
 refine brd_dec (fun _ => ?_) (fun h => by omega)
 refine wX ?_
 exact ret_b (by simp; omega)
theorem V.exOp {t : TP} (h : V .ex t) : exOp t.op := by
 cases h <;> (refine ⟨?_, ?_, ?_, ?_, ?_, ?_, ?_⟩ <;> (dsimp only; omega))
theorem usings_c : ∀ t : TP, TreeK t → t.sz ≤ 1000000 → ∀ H, (∀ w, Facts H w → TreeF w t) → SpecH Tryd.prog 16 (pvs [nodeV t]) H (Ret (.int .i64 (t.us : Int)) H) := by
 refine TP.ind fun t ih ht hs => ?_
 refine factC hm Tryd.func16 (by kernel_rfl) rfl rfl ?_
 have hl := ht.len
 have hsz := sz_eq t
 have hue := us_eq t
 have hus : ∀ l : List TP, uss l ≤ szs l := fun l => by
  induction l with
  | nil => exact Nat.le_refl _
  | cons k l ihl =>
   have hk : k.us ≤ k.sz := TP.ind (P := fun k => k.us ≤ k.sz) (fun k ihk => by
    rw [us_eq, sz_eq]
    have : ∀ m : List TP, (∀ q ∈ m, q.us ≤ q.sz) → uss m ≤ szs m := fun m hm => by
     induction m with
     | nil => exact Nat.le_refl _
     | cons q m ihm =>
      have h1 := hm q (List.mem_cons_self ..)
      have h2 := ihm fun p hp => hm p (List.mem_cons_of_mem _ hp)
      rw [uss, szs]
      omega
    have := this k.kids ihk
    split <;> omega) k
   rw [uss, szs]
   omega
 obtain ⟨z, hzd⟩ : ∃ z : Nat, (if t.op = 45 then 1 else 0) = z := ⟨_, rfl⟩
 have hz1 : z ≤ 1 := by rw [← hzd]; split <;> omega
 rw [hzd] at hue
 refine wX ?_
 refine brd_eq (fun h0 => ?_) (fun h0 => ?_)
 ·obtain rfl : z = 1 := by rw [← hzd, if_pos h0]
  refine wX ?_
  refine loopS Nat (fun i => i ≤ t.kids.length) (fun i => mkS Tryd.f16.ntmps 0 [(1, .c (.lp 1 0)), (2, .c (.v (.int .i64 0))), (3, .c (.v (.int .i64 ((1 + uss (t.kids.take i) : Nat) : Int)))), (10, .c (.v (.slice t.a t.kids.length t.cap))), (11, .c (.v (.int .i64 (t.kids.length : Int)))), (12, .c (.v (.int .i64 (i : Int))))]) (fun i => t.kids.length - i) rfl (fun _ => rfl) 0 (Nat.zero_le _) ?_ fun i hi => ?_
  ·exact wKK
  have hti : uss (t.kids.take i) ≤ 1000000 := by have h1 := hus (t.kids.take i); have h2 := szs_take t.kids i; omega
  refine wX ?_
  refine brd_dec (fun h1 => ?_) (fun h1 => ?_)
  ·obtain ⟨k, hk⟩ : ∃ k, t.kids[i]? = some k := ⟨_, List.getElem?_eq_getElem (by omega)⟩
   have hsa := kid_some ht hk
   have hkm := List.mem_of_getElem? hk
   have hks := sz_kid hkm
   have htk := take_uss hk
   have hti1 : uss (t.kids.take (i + 1)) ≤ 1000000 := by have h1 := hus (t.kids.take (i + 1)); have h2 := szs_take t.kids (i + 1); omega
   refine wX ?_
   refine Nd.mk ⟨hsa, by omega, by omega⟩ ?_
   refine wX ?_
   refine LdN.agg (nodeC k) rfl (fun w hw => hw.1.row) rfl (fun j hj => by rw [Int.toNat_natCast]; exact nodesC_get t.kids i j hj hk) ?_
   refine wX ?_
   refine call1 (ih k hkm (ht.kid hkm) (by omega) _ (fun w hw => hw.1.kid hkm)) ?_
   refine wX ?_
   refine ⟨i + 1, by show i + 1 ≤ _; omega, by show t.kids.length - (i + 1) < t.kids.length - i; omega, ?_, wHH⟩
   (repeat' (first | exact trivial | refine And.intro (by with_reducible rfl) ?_ | (with_reducible exact wkC_refl _) | (with_reducible exact wkCs_refl _) | refine And.intro ?_ ?_))
   all_goals first | rfl | exact av_int (by omega) | exact av_int (by rw [wrap_i64 (by omega)]; omega)
  ·have hie : i = t.kids.length := by omega
   rw [hie, List.take_length]
   refine wX ?_
   rw [hue]
 ·obtain rfl : z = 0 := by rw [← hzd, if_neg h0]
  refine wX ?_
  refine loopS Nat (fun i => i ≤ t.kids.length) (fun i => mkS Tryd.f16.ntmps 0 [(1, .c (.lp 1 0)), (2, .c (.v (.int .i64 0))), (3, .c (.v (.int .i64 ((0 + uss (t.kids.take i) : Nat) : Int)))), (10, .c (.v (.slice t.a t.kids.length t.cap))), (11, .c (.v (.int .i64 (t.kids.length : Int)))), (12, .c (.v (.int .i64 (i : Int))))]) (fun i => t.kids.length - i) rfl (fun _ => rfl) 0 (Nat.zero_le _) ?_ fun i hi => ?_
  ·exact wKK
  have hti : uss (t.kids.take i) ≤ 1000000 := by have h1 := hus (t.kids.take i); have h2 := szs_take t.kids i; omega
  refine wX ?_
  refine brd_dec (fun h1 => ?_) (fun h1 => ?_)
  ·obtain ⟨k, hk⟩ : ∃ k, t.kids[i]? = some k := ⟨_, List.getElem?_eq_getElem (by omega)⟩
   have hsa := kid_some ht hk
   have hkm := List.mem_of_getElem? hk
   have hks := sz_kid hkm
   have htk := take_uss hk
   have hti1 : uss (t.kids.take (i + 1)) ≤ 1000000 := by have h1 := hus (t.kids.take (i + 1)); have h2 := szs_take t.kids (i + 1); omega
   refine wX ?_
   refine Nd.mk ⟨hsa, by omega, by omega⟩ ?_
   refine wX ?_
   refine LdN.agg (nodeC k) rfl (fun w hw => hw.1.row) rfl (fun j hj => by rw [Int.toNat_natCast]; exact nodesC_get t.kids i j hj hk) ?_
   refine wX ?_
   refine call1 (ih k hkm (ht.kid hkm) (by omega) _ (fun w hw => hw.1.kid hkm)) ?_
   refine wX ?_
   refine ⟨i + 1, by show i + 1 ≤ _; omega, by show t.kids.length - (i + 1) < t.kids.length - i; omega, ?_, wHH⟩
   (repeat' (first | exact trivial | refine And.intro (by with_reducible rfl) ?_ | (with_reducible exact wkC_refl _) | (with_reducible exact wkCs_refl _) | refine And.intro ?_ ?_))
   all_goals first | rfl | exact av_int (by omega) | exact av_int (by rw [wrap_i64 (by omega)]; omega)
  ·have hie : i = t.kids.length := by omega
   rw [hie, List.take_length]
   refine wX ?_
   rw [hue]
def leftE (lb : Nat) (z : Int) : Ent := .app 3 1 [.int .i64 z] (some ⟨lb, 0, none⟩) 1 1
def Fit (z d : Int) (l : List TP) : Prop := (szs l : Int) ≤ z ∧ ∀ k ∈ l, d + k.dp ≤ 61
def SmallC (t : TP) : Prop := TreeK t → ∀ (lb : Nat) (z d : Int), 0 ≤ z ∧ z ≤ 1000000 → 1 ≤ d ∧ d ≤ 1000 → ∀ A : World → Prop, (∀ w, A w → TreeF w t) →
 SpecH Tryd.prog 14 (pvs [nodeV t, .pointer (some ⟨lb, 0, none⟩), .int .i64 d]) [.fact A, leftE lb z]
  (RetG (ι := Bool × Int) (fun i => (i.1 = true ↔ Fit z d [t]) ∧ (i.1 = true → i.2 = z - t.sz) ∧ -1 ≤ i.2 ∧ i.2 ≤ z) (fun i => .bool i.1) fun i => [.fact A, leftE lb i.2])
def smE (A : World → Prop) (pb db lb : Nat) (d z : Int) : List Ent := [.fact A, .app 46 1 [.pointer (some ⟨lb, 0, none⟩)] (some ⟨pb, 0, none⟩) 1 1, .app 3 1 [.int .i64 d] (some ⟨db, 0, none⟩) 1 1, leftE lb z]
theorem smalln_c (t : TP) (hc : SmallC t) (ht : TreeK t) (pb db lb : Nat) (z d : Int) (hz : 0 ≤ z ∧ z ≤ 1000000) (hd : 1 ≤ d ∧ d < 1000) (A : World → Prop) (hA : ∀ w, A w → TreeF w t) :
  SpecH Tryd.prog 20 (pvs [nodeV t, .pointer (some ⟨pb, 0, none⟩), .pointer (some ⟨db, 0, none⟩)]) (smE A pb db lb d z)
   (RetG (ι := Bool × Int) (fun i => (i.1 = true ↔ ¬ Fit z (d + 1) [t]) ∧ (i.1 = false → i.2 = z - t.sz) ∧ -1 ≤ i.2 ∧ i.2 ≤ z) (fun i => .bool i.1) fun i => smE A pb db lb d i.2) := by
 refine ownC hm Tryd.func20 (by kernel_rfl) rfl rfl (fun _ _ => okHB_eq rfl) (fun _ _ => Nat.le_of_ble_eq_true rfl) ?_
 refine wX ?_
 refine LdN.one (a := some ⟨pb, 0, none⟩) (q := 0) (.pointer (some ⟨lb, 0, none⟩)) rfl (fun w hw => hw.2.1) rfl ?_
 refine wX ?_
 refine LdN.one (a := some ⟨db, 0, none⟩) (q := 0) (.int .i64 d) rfl (fun w hw => hw.2.2.1) rfl ?_
 refine wX ?_
 have hw1 : IntKind.i64.wrap (d + 1) = d + 1 := wrap_i64 (by omega)
 rw [hw1]
 refine callG (hc ht lb z (d + 1) hz ⟨by omega, by omega⟩ A hA) [0, 3] rfl ⟨rfl, rfl, trivial⟩ rfl fun i hi => ?_
 obtain ⟨b, z'⟩ := i
 obtain ⟨h1, h2, h3, h4⟩ := hi
 refine wX ?_
 refine ⟨(!b, z'), ⟨?_, fun h => h2 (by simpa using h), h3, h4⟩, rfl, ⟨wkE_refl _, wkE_refl _, wkE_refl _, wkE_refl _, wkH_nil _⟩⟩
 rw [← h1]
 cases b <;> simp
structure SmS where
 i : Nat
 z : Int
theorem Fit.cons {z d : Int} {k : TP} {l : List TP} : Fit z d (k :: l) ↔ Fit z d [k] ∧ Fit (z - k.sz) d l := by
 unfold Fit
 simp only [szs, List.mem_cons, List.not_mem_nil, or_false, forall_eq, forall_eq_or_imp]
 constructor
 ·rintro ⟨h1, h2, h3⟩
  exact ⟨⟨by omega, h2⟩, by omega, h3⟩
 ·rintro ⟨⟨h1, h2⟩, h3, h4⟩
  exact ⟨by omega, h2, h4⟩
theorem Fit.nil {z d : Int} (h : 0 ≤ z) : Fit z d [] := ⟨by show ((0 : Nat) : Int) ≤ z; omega, fun k hk => by cases hk⟩
set_option maxHeartbeats 4000000 in
theorem smallI_c (a : Option Addr) (l : List TP) (cap : Nat) (hl : LsK a cap l) (hc : ∀ k ∈ l, SmallC k) (pb db lb : Nat) (z d : Int) (hz : 0 ≤ z ∧ z ≤ 1000000) (hd : 1 ≤ d ∧ d < 1000) (A : World → Prop) (hA : ∀ w, A w → LsF a l w) :
  SpecH Tryd.prog 26 (pvs [.slice a l.length cap, .func (.func 20) #[] #[.pointer (some ⟨pb, 0, none⟩), .pointer (some ⟨db, 0, none⟩)]]) (smE A pb db lb d z)
   (RetG (ι := Int × Int) (fun i => (0 ≤ i.1 ↔ ¬ Fit z (d + 1) l) ∧ (i.1 < 0 → i.2 = z - szs l) ∧ -1 ≤ i.2 ∧ i.2 ≤ z) (fun i => .int .i64 i.1) fun i => smE A pb db lb d i.2) := by
 refine ownC hm Tryd.func26 (by kernel_rfl) rfl rfl (fun _ _ => okHB_eq rfl) (fun _ _ => Nat.le_of_ble_eq_true rfl) ?_
 have hll := hl.len
 refine wX ?_
 refine LoopN.intro SmS (fun ⟨i, z'⟩ => i ≤ l.length ∧ z' = z - szs (l.take i) ∧ 0 ≤ z' ∧ (Fit z (d + 1) l ↔ Fit z' (d + 1) (l.drop i)))
  (fun ⟨i, _⟩ => mkS Tryd.f26.ntmps 0 [(0, .c (.v (.slice a l.length cap))), (1, .c (.v (.func (.func 20) #[] #[.pointer (some ⟨pb, 0, none⟩), .pointer (some ⟨db, 0, none⟩)]))), (7, .c (.v (.int .i64 (l.length : Int)))), (8, .c (.v (.int .i64 (i : Int))))])
  (fun ⟨_, z'⟩ => smE A pb db lb d z') (fun ⟨i, _⟩ => l.length - i) [] rfl (fun _ => rfl) (fun _ => rfl) (fun _ _ => okHB_eq rfl)
  ⟨⟨0, z⟩, ⟨Nat.zero_le _, by simp [szs], hz.1, Iff.rfl⟩, ?_, wkH_refl _⟩ ?_
 ·exact wKK
 rintro ⟨i, z'⟩ ⟨hi, hz', hz0, hfit⟩
 refine wX ?_
 refine brd_dec (fun h1 => ?_) (fun h1 => ?_)
 ·obtain ⟨k, hk⟩ : ∃ k, l[i]? = some k := ⟨_, List.getElem?_eq_getElem (by omega)⟩
  have hsa := isT hl.nil hk
  have hkm := List.mem_of_getElem? hk
  have hts := take_szs hk
  have hdr : l.drop i = k :: l.drop (i + 1) := by
   obtain ⟨h1, h2⟩ := List.getElem?_eq_some_iff.1 hk
   rw [List.drop_eq_getElem_cons h1, h2]
  rw [hdr] at hfit
  refine wX ?_
  refine Nd.mk ⟨hsa, by omega, by omega⟩ ?_
  refine wX ?_
  refine LdN.agg (nodeC k) rfl (fun w hw => (hA w hw.1).1) rfl (fun j hj => by rw [Int.toNat_natCast]; exact nodesC_get l i j hj hk) ?_
  refine wX ?_
  refine callG (smalln_c k (hc k hkm) (hl.k k hkm) pb db lb z' d ⟨hz0, by omega⟩ hd A (fun w hw => (hA w hw).2 k hkm)) [0, 1, 2, 3] rfl ⟨rfl, rfl, rfl, rfl, trivial⟩ rfl fun r hr => ?_
  obtain ⟨b, z2⟩ := r
  obtain ⟨r1, r2, r3, r4⟩ := hr
  cases b with
  | true =>
   refine wX ?_
   refine ⟨((i : Int), z2), ⟨⟨fun _ hf => ?_, fun _ => by show (0 : Int) ≤ (i : Int); omega⟩, fun h => by have h : (i : Int) < 0 := h; omega, r3, by show z2 ≤ z; simp only at r4; omega⟩, rfl, wkH_refl _⟩
   exact r1.1 rfl (Fit.cons.1 (hfit.1 hf)).1
  | false =>
   have hk1 : Fit z' (d + 1) [k] := Classical.byContradiction fun h => by cases r1.2 h
   have hz2 : z2 = z' - k.sz := r2 rfl
   have hkz : (szs [k] : Int) ≤ z' := hk1.1
   have hkz2 : szs [k] = k.sz := by simp [szs]
   refine wX ?_
   refine ⟨⟨i + 1, z2⟩, ⟨by omega, by rw [hz2, hts, hz']; omega, by omega, ?_⟩, by show l.length - (i + 1) < l.length - i; omega, ?_, wkH_refl _⟩
   ·rw [hfit, Fit.cons, hz2]
    exact ⟨fun h => h.2, fun h => ⟨hk1, h⟩⟩
   ·exact wKK
 ·have hie : i = l.length := by omega
  subst hie
  rw [List.drop_length] at hfit
  rw [List.take_length] at hz'
  refine wX ?_
  refine ⟨(-1, z'), ⟨⟨fun h => absurd h (by show ¬ (0 : Int) ≤ -1; decide), fun h => absurd (hfit.2 (Fit.nil hz0)) h⟩, fun _ => hz', by show -1 ≤ z'; omega, by show z' ≤ z; omega⟩, rfl, wkH_refl _⟩
theorem smallF_c (a : Option Addr) (l : List TP) (cap : Nat) (hl : LsK a cap l) (hc : ∀ k ∈ l, SmallC k) (pb db lb : Nat) (z d : Int) (hz : 0 ≤ z ∧ z ≤ 1000000) (hd : 1 ≤ d ∧ d < 1000) (A : World → Prop) (hA : ∀ w, A w → LsF a l w) :
  SpecH Tryd.prog 19 (pvs [.slice a l.length cap, .func (.func 20) #[] #[.pointer (some ⟨pb, 0, none⟩), .pointer (some ⟨db, 0, none⟩)]]) (smE A pb db lb d z)
   (RetG (ι := Bool × Int) (fun i => (i.1 = true ↔ ¬ Fit z (d + 1) l) ∧ (i.1 = false → i.2 = z - szs l) ∧ -1 ≤ i.2 ∧ i.2 ≤ z) (fun i => .bool i.1) fun i => smE A pb db lb d i.2) := by
 refine ownC hm Tryd.func19 (by kernel_rfl) rfl rfl (fun _ _ => okHB_eq rfl) (fun _ _ => Nat.le_of_ble_eq_true rfl) ?_
 refine wX ?_
 refine callG (smallI_c a l cap hl hc pb db lb z d hz hd A hA) [0, 1, 2, 3] rfl ⟨rfl, rfl, rfl, rfl, trivial⟩ rfl fun r hr => ?_
 obtain ⟨n, z2⟩ := r
 obtain ⟨r1, r2, r3, r4⟩ := hr
 refine wX ?_
 refine ⟨(decide (n ≥ 0), z2), ⟨?_, fun h => r2 (by have : ¬ n ≥ 0 := of_decide_eq_false h; show n < 0; omega), r3, r4⟩, rfl, wkH_refl _⟩
 rw [← r1]
 simp
set_option maxHeartbeats 4000000 in
theorem small_c : ∀ t, SmallC t := by
 refine TP.ind fun t ih ht lb z d hz hd A hA => ?_
 refine ownC hm Tryd.func14 (by kernel_rfl) rfl rfl (fun _ _ => okHB_eq rfl) (fun _ _ => Nat.le_of_ble_eq_true rfl) ?_
 have hsz := sz_eq t
 have hdp := dp_eq t
 have hs1 : szs [t] = t.sz := by simp [szs]
 have hfit : Fit z d [t] ↔ 1 ≤ z ∧ d ≤ 60 ∧ Fit (z - 1) (d + 1) t.kids := by
  unfold Fit
  rw [hs1]
  constructor
  ·rintro ⟨h1, h2⟩
   have h3 := h2 t (List.mem_singleton.2 rfl)
   refine ⟨by omega, by omega, by omega, fun k hk => ?_⟩
   have := dps_mem hk
   omega
  ·rintro ⟨h1, h2, h3, h4⟩
   refine ⟨by omega, fun k hk => ?_⟩
   rw [List.mem_singleton.1 hk]
   have : ∀ l : List TP, (∀ k ∈ l, d + 1 + (k.dp : Int) ≤ 61) → d + 1 + (dps l : Int) ≤ 61 := fun l hl => by
    induction l with
    | nil => show d + 1 + ((0 : Nat) : Int) ≤ 61; omega
    | cons k l ihl =>
     have a1 := hl k (List.mem_cons_self ..)
     have a2 := ihl fun q hq => hl q (List.mem_cons_of_mem _ hq)
     rw [dps]
     omega
   have := this t.kids h4
   omega
 (conv => whnf)
 refine BoxN.own ?_
 (conv => whnf)
 refine BoxN.known [.pointer (some ⟨lb, 0, none⟩)] rfl fun pb => ?_
 (conv => whnf)
 refine BoxN.known [.int .i64 d] rfl fun db => ?_
 refine wX ?_
 have hw1 : IntKind.i64.wrap (z - 1) = z - 1 := wrap_i64 (by omega)
 refine LdN.one (a := some ⟨pb, 0, none⟩) (q := 0) (.pointer (some ⟨lb, 0, none⟩)) rfl (fun w hw => hw.2.2.1) rfl ?_
 refine wX ?_
 refine LdN.one (a := some ⟨lb, 0, none⟩) (q := 0) (.int .i64 z) rfl (fun w hw => hw.2.1) rfl ?_
 refine wX ?_
 refine EffW.appTo (i := 1) (q := 0) (ys := [_]) [.int .i64 (z - 1)] 1 rfl rfl rfl rfl rfl rfl rfl (Nat.le_of_ble_eq_true rfl) (by rw [hw1]; rfl) rfl ?_
 refine wX ?_
 refine LdN.one (a := some ⟨pb, 0, none⟩) (q := 0) (.pointer (some ⟨lb, 0, none⟩)) rfl (fun w hw => hw.2.2.1) rfl ?_
 refine wX ?_
 refine LdN.one (a := some ⟨lb, 0, none⟩) (q := 0) (.int .i64 (z - 1)) rfl (fun w hw => hw.2.1) rfl ?_
 refine wX ?_
 refine brd_dec (fun h1 => ?_) (fun h1 => ?_)
 ·refine wX ?_
  refine ⟨(false, z - 1), ⟨⟨fun h => (by cases h), fun h => absurd (hfit.1 h).1 (by omega)⟩, (fun h => by cases h), by show -1 ≤ z - 1; omega, by show z - 1 ≤ z; omega⟩, rfl, ⟨wkE_refl _, wkE_refl _, wkH_nil _⟩⟩
 refine wX ?_
 refine LdN.one (a := some ⟨db, 0, none⟩) (q := 0) (.int .i64 d) rfl (fun w hw => hw.2.2.2.1) rfl ?_
 refine wX ?_
 refine brd_dec (fun h2 => ?_) (fun h2 => ?_)
 ·refine wX ?_
  refine ⟨(false, z - 1), ⟨⟨fun h => (by cases h), fun h => absurd (hfit.1 h).2.1 (by omega)⟩, (fun h => by cases h), by show -1 ≤ z - 1; omega, by show z - 1 ≤ z; omega⟩, rfl, ⟨wkE_refl _, wkE_refl _, wkH_nil _⟩⟩
 refine wX ?_
 refine SpecH.args (args' := pvs [.slice t.a t.kids.length t.cap, .func (.func 20) #[] #[.pointer (some ⟨pb, 0, none⟩), .pointer (some ⟨db, 0, none⟩)]]) (by simp [pvs, opvs, opv, nth, plainEv]; try rfl) ?_
 refine callG (smallF_c t.a t.kids t.cap ht.ls ih pb db lb (z - 1) d ⟨by omega, by omega⟩ ⟨by omega, by omega⟩ A (fun w hw => (hA w hw).ls)) [0, 3, 4, 1] rfl ⟨rfl, rfl, rfl, rfl, trivial⟩ rfl fun r hr => ?_
 obtain ⟨b, z2⟩ := r
 obtain ⟨r1, r2, r3, r4⟩ := hr
 refine wX ?_
 refine ⟨(!b, z2), ⟨?_, fun h => ?_, r3, by show z2 ≤ z; simp only at r4; omega⟩, rfl, ⟨wkE_refl _, wkE_refl _, wkH_nil _⟩⟩
 ·rw [hfit]
  cases b with
  | true => exact ⟨fun h => (by cases h), fun h => absurd h.2.2 (r1.1 rfl)⟩
  | false => exact ⟨fun _ => ⟨by omega, by omega, Classical.byContradiction fun h => by cases r1.2 h⟩, fun _ => rfl⟩
 ·have : b = false := by simpa using h
  have := r2 this
  simp only at this
  show z2 = z - t.sz
  omega
end Go.Proofs.YtpikpjlhdkkigaaDoor
namespace Go.AX
theorem SpecH.turnK {P : Program} {f : FuncId} {args : List AV} {H : List Ent} {K : Out → List Ent → Prop} (h : SpecH P f args H fun out H' => ∃ G, TurnS H' G ∧ K out G) : SpecH P f args H K :=
 ⟨h.ok, fun ρ S w vs hs hr => (h.run ρ S w vs hs hr).mono fun e w' ⟨ρ2, S2, H2, out, a1, a2, a3, G, t, hK⟩ => by
  obtain ⟨S3, hs3, ev⟩ := t.2 ρ2 S2 w' a1
  exact ⟨ρ2, S3, G, out, hs3, a2.trans ev, a3, hK⟩⟩
theorem ownT {P : Program} (hm : P.follows .mixedOrders = true) {f : FuncId} {fn : Func} {c : Code} (hf : P.funcs[f]? = some fn) (hn : (fn.name == "runtime.NumGoroutine") = false) (hb : fn.body = some c)
  {args : List AV} {H : List Ent} (hl : Nat.ble args.length fn.ntmps = true) {ι : Type} {inv : ι → Prop} {val : ι → Value} {G : ι → List Ent} (hok : ∀ i, inv i → okH (G i).length (G i)) (hl2 : ∀ i, inv i → H.length ≤ (G i).length)
  (h : initK fn.ntmps args fun s => exec P c s H (endK P fn.results.toList fun out H' => ∃ J, TurnS H' J ∧ ∃ i, inv i ∧ out = .val (.c (.v (val i))) ∧ wkH J (G i))) : SpecH P f args H (RetG inv val G) :=
 SpecH.wkG hok hl2 (SpecH.turnK (spec_of_exec hm hf hn hb hl h))
end Go.AX
namespace Go.Proofs.YtpikpjlhdkkigaaDoor
open Go.AX Go.RowKit Go.Tree Go.Scan
set_option maxRecDepth 20000
structure ScD where
 b : Nat
 na : Option Nat
 nc : Nat
 ar : Option Nat
 l : List (List UInt8)
def nmS (sc : List ScD) : Nm := sc.map ScD.l
def ptrO (o : Option Nat) : Value := .pointer (o.map fun b => ⟨b, 0, none⟩)
def scoC (i : Nat) (d : ScD) : List Value := [.int .i64 (i : Int), .slice (at0 d.na) d.l.length d.nc, ptrO d.ar]
def rowS (i : Nat) (d : ScD) : RowD := ⟨44, 3, 1, scoC i d, d.b, 1⟩
def rowN (d : ScD) : List RowD := optRow 9 1 d.l.length (strsC d.l) d.na d.nc
def rows1 : Nat → List ScD → List RowD
 | _, [] => []
 | i, d :: r => rowS i d :: rows1 (i + 1) r
def rows2 (sc : List ScD) : List RowD := sc.flatMap rowN
theorem rows1_app (l m : List ScD) : ∀ i, rows1 i (l ++ m) = rows1 i l ++ rows1 (i + l.length) m := by
 induction l with
 | nil => intro i; simp [rows1]
 | cons d l ih =>
  intro i
  rw [List.cons_append, rows1, ih, rows1, List.length_cons, List.cons_append, show i + 1 + l.length = i + (l.length + 1) by omega]
theorem split_at {α : Type} {l : List α} {s : Nat} {d : α} (h : l[s]? = some d) : ∃ u v, l = u ++ d :: v ∧ u.length = s ∧ ∀ d', l.set s d' = u ++ d' :: v := by
 obtain ⟨h1, h2⟩ := List.getElem?_eq_some_iff.1 h
 refine ⟨l.take s, l.drop (s + 1), ?_, by rw [List.length_take]; omega, fun d' => ?_⟩
 ·rw [← h2, ← List.drop_eq_getElem_cons h1, List.take_append_drop]
 ·rw [List.set_eq_take_append_cons_drop, if_pos h1]
theorem rows_split {sc : List ScD} {s : Nat} {d : ScD} (h : sc[s]? = some d) : ∃ R1 R2 : List RowD, (rows1 0 sc).Perm (rowS s d :: R1) ∧ (rows2 sc).Perm (rowN d ++ R2) ∧ ∀ d', (rows1 0 (sc.set s d')).Perm (rowS s d' :: R1) ∧ (rows2 (sc.set s d')).Perm (rowN d' ++ R2) := by
 obtain ⟨u, v, rfl, hu, hset⟩ := split_at h
 have h1 : ∀ e, (rows1 0 (u ++ e :: v)).Perm (rowS s e :: (rows1 0 u ++ rows1 (s + 1) v)) := fun e => by
  rw [rows1_app, Nat.zero_add, hu]
  exact List.perm_middle
 have h2 : ∀ e, (rows2 (u ++ e :: v)).Perm (rowN e ++ (rows2 u ++ rows2 v)) := fun e => by
  unfold rows2
  rw [List.flatMap_append, List.flatMap_cons]
  rw [← List.append_assoc, ← List.append_assoc]
  exact List.Perm.append_right _ List.perm_append_comm
 exact ⟨_, _, h1 d, h2 d, fun d' => by rw [hset]; exact ⟨h1 d', h2 d'⟩⟩
def ScoF (sc : List ScD) (w : World) : Prop := ∀ s d, sc[s]? = some d → SlAt (some ⟨d.b, 0, none⟩) 3 (scoC s d) w ∧ SlAt (at0 d.na) d.l.length (strsC d.l) w
structure ScOk (d : ScD) : Prop where
 nil : d.na = none → d.l = [] ∧ d.nc = 0
 cap : d.l.length ≤ d.nc
 len : d.l.length ≤ 100000
theorem rows1_mem {sc : List ScD} {s : Nat} {d : ScD} (h : sc[s]? = some d) : rowS s d ∈ rows1 0 sc := by
 obtain ⟨R1, R2, h1, _, _⟩ := rows_split h
 exact h1.mem_iff.2 (List.mem_cons_self ..)
theorem scF_of {sc : List ScD} {w : World} (hok : ∀ d ∈ sc, ScOk d) (h1 : famF (rows1 0 sc) w) (h2 : famF (rows2 sc) w) : ScoF sc w := fun s d hd => by
 have hm := List.mem_of_getElem? hd
 refine ⟨(h1.2 _ (rows1_mem hd)).sl, ?_⟩
 cases hn : d.na with
 | none =>
  rw [((hok d hm).nil hn).1]
  exact SlAt.nil
 | some b =>
  have := (h2.2 ⟨9, 1, d.l.length, strsC d.l, b, d.nc⟩ (List.mem_flatMap.2 ⟨d, hm, by unfold rowN; rw [hn]; exact List.mem_singleton.2 rfl⟩)).sl
  show SlAt (some ⟨b, 0, none⟩) _ _ _
  simpa using this
def ChP (sc : List ScD) : List Nat → Option Nat → Prop
 | [], o => o = none
 | s :: r, o => ∃ d, sc[s]? = some d ∧ o = some d.b ∧ ChP sc r d.ar
theorem nm_at {sc : List ScD} {s : Nat} {d : ScD} (h : sc[s]? = some d) : namesAt (nmS sc) s = d.l := by
 unfold namesAt nmS
 rw [List.getD_eq_getElem?_getD, List.getElem?_map, h]
 rfl
def ixO : Option Nat → Int
 | some i => i
 | none => -1
theorem idx_take {x : List UInt8} : ∀ {l : List (List UInt8)} {i : Nat} {t : List UInt8}, l[i]? = some t → (l.take i).idxOf? x = none → t = x → l.idxOf? x = some i
 | [], i, t, h, _, _ => by cases h
 | y :: l, 0, t, h, _, e => by
  obtain rfl := Option.some.inj h
  rw [List.idxOf?_cons, e]
  simp
 | y :: l, i + 1, t, h, hn, e => by
  rw [List.take_succ_cons, List.idxOf?_cons] at hn
  rw [List.idxOf?_cons]
  split at hn
  ·cases hn
  ·rename_i hyx
   rw [if_neg hyx]
   have hn' : (l.take i).idxOf? x = none := by simpa using hn
   rw [idx_take (l := l) (i := i) (t := t) h hn' e]
   rfl
theorem IndexS_c (a : Option Addr) (l : List (List UInt8)) (cap : Nat) (s : List UInt8) (ha : l ≠ [] → a.isSome = true) (hl : l.length ≤ 1000000) :
  ∀ H, (∀ w, Facts H w → SlAt a l.length (strsC l) w) → SpecH Tryd.prog 36 (pvs [.slice a l.length cap, .string (bs s)]) H (Ret (.int .i64 (ixO (l.idxOf? s))) H) := by
 refine factC hm Tryd.func36 (by kernel_rfl) rfl rfl ?_
 refine wX ?_
 refine loopS Nat (fun i => i ≤ l.length ∧ (l.take i).idxOf? s = none) (fun i => mkS Tryd.f36.ntmps 0 [(0, .c (.v (.slice a l.length cap))), (1, .c (.v (.string (bs s)))), (7, .c (.v (.int .i64 (l.length : Int)))), (8, .c (.v (.int .i64 (i : Int))))]) (fun i => l.length - i) rfl (fun _ => rfl) 0 ⟨Nat.zero_le _, by simp⟩ ?_ ?_
 ·exact wKK
 intro i ⟨hi, hno⟩
 refine wX ?_
 refine brd_dec (fun h1 => ?_) (fun h1 => ?_)
 ·obtain ⟨t, ht⟩ : ∃ t, l[i]? = some t := ⟨_, List.getElem?_eq_getElem (by omega)⟩
  have hsa : a.isSome = true := ha (fun h => by rw [h] at ht; cases ht)
  refine wX ?_
  refine Nd.mk ⟨hsa, by omega, by omega⟩ ?_
  refine wX ?_
  refine LdN.one (.string (bs t)) rfl (fun w hw => hw.1) (by show (strsC l)[Int.toNat _ * 1]? = _; rw [Int.toNat_natCast, Nat.mul_one]; exact strsC_get ht) ?_
  refine wX ?_
  refine brd_intro (fun h2 => ?_) (fun h2 => ?_)
  ·have h3 : s = t := eq_of_beq (show (s == t) = true from h2)
   refine wX ?_
   rw [idx_take ht hno h3.symm]
   rfl
  ·have h3 : (s == t) = false := h2
   refine wX ?_
   refine ⟨i + 1, ⟨by omega, ?_⟩, by omega, ?_, wHH⟩
   ·rw [List.idxOf?_eq_none_iff] at hno ⊢
    rw [List.take_add_one, ht]
    simp only [List.mem_append, not_or]
    refine ⟨hno, ?_⟩
    simp
    intro h
    rw [h] at h3
    simp at h3
   ·exact wKK
 ·have hie : i = l.length := by omega
  subst hie
  rw [List.take_length] at hno
  refine wX ?_
  rw [hno]
  rfl
def fndV : Option Pl → Value
 | some p => .tuple #[.agg #[.int .i64 (p.1 : Int), .int .i64 (p.2 : Int)], .bool true]
 | none => .tuple #[.agg #[.int .i64 0, .int .i64 0], .bool false]
structure FdS where
 ch : List Nat
 o : Option Nat
theorem find_c (sc : List ScD) (hok : ∀ d ∈ sc, ScOk d) (ch : List Nat) (o : Option Nat) (hch : ChP sc ch o) (x : List UInt8) : ∀ H, (∀ w, Facts H w → ScoF sc w) → SpecH Tryd.prog 22 (pvs [ptrO o, .string (bs x)]) H (Ret (fndV (fnd (nmS sc) ch x)) H) := by
 refine factC hm Tryd.func22 (by kernel_rfl) rfl rfl ?_
 refine wX ?_
 refine loopS FdS (fun ⟨c, p⟩ => ChP sc c p ∧ fnd (nmS sc) ch x = fnd (nmS sc) c x) (fun ⟨_, p⟩ => mkS Tryd.f22.ntmps 0 [(0, .c (.v (ptrO p))), (1, .c (.v (.string (bs x)))), (4, .c (.lp 1 0)), (5, .c (.v (.bool false)))]) (fun ⟨c, _⟩ => c.length) rfl (fun _ => rfl) ⟨ch, o⟩ ⟨hch, rfl⟩ ?_ ?_
 ·exact wKK
 rintro ⟨c, p⟩ ⟨hc, hf⟩
 cases c with
 | nil =>
  obtain rfl : p = none := hc
  rw [hf]
  refine wX ?_
  rfl
 | cons s r =>
  obtain ⟨d, hd, rfl, hr⟩ := hc
  have hm := hok d (List.mem_of_getElem? hd)
  have hfs : fnd (nmS sc) (s :: r) x = match d.l.idxOf? x with | some i => some (s, i) | none => fnd (nmS sc) r x := by rw [fnd, nm_at hd]; first | done | (cases d.l.idxOf? x <;> rfl)
  rw [hfs] at hf
  refine wX ?_
  refine LdN.one (a := some ⟨d.b, 0, none⟩) (q := 1) (.slice (at0 d.na) d.l.length d.nc) rfl (fun w hw => (hw.1 s d hd).1) rfl ?_
  refine wX ?_
  refine call1 (IndexS_c (at0 d.na) d.l d.nc x (fun h => ?_) (by have := hm.len; omega) _ (fun w hw => (hw.1 s d hd).2)) ?_
  ·cases hn : d.na with
   | none => exact absurd (hm.nil hn).1 h
   | some b => rfl
  cases hi : d.l.idxOf? x with
  | some i =>
   rw [hi] at hf
   rw [hf]
   refine wX ?_
   refine LdN.one (a := some ⟨d.b, 0, none⟩) (q := 0) (.int .i64 (s : Int)) rfl (fun w hw => (hw.1 s d hd).1) rfl ?_
   refine wX ?_
   rfl
  | none =>
   rw [hi] at hf
   refine wX ?_
   refine LdN.one (a := some ⟨d.b, 0, none⟩) (q := 2) (ptrO d.ar) rfl (fun w hw => (hw.1 s d hd).1) rfl ?_
   refine wX ?_
   refine ⟨⟨r, d.ar⟩, ⟨hr, hf⟩, Nat.lt_succ_self _, ?_, wHH⟩
   exact wKK
end Go.Proofs.YtpikpjlhdkkigaaDoor
namespace Go.Proofs.YtpikpjlhdkkigaaDoor
open Go.AX Go.RowKit Go.Tree Go.Scan
set_option maxRecDepth 20000
structure RvS where
 sc : List ScD
 pl : List Pl
 un : Bool
 sa : Option Nat
 scap : Nat
 pa : Option Nat
 pcap : Nat
def rvC (st : RvS) : List Value := [.slice (at0 st.sa) st.sc.length st.scap, .slice (at0 st.pa) st.pl.length st.pcap, .bool st.un]
def ptrsC (sc : List ScD) : List Value := sc.map fun d => .pointer (some ⟨d.b, 0, none⟩)
def plC (p : Pl) : List Value := [.int .i64 (p.1 : Int), .int .i64 (p.2 : Int)]
def plsC (l : List Pl) : List Value := l.flatMap plC
def rvE (A : World → Prop) (rb : Nat) (st : RvS) : List Ent :=
 [.fact A, .app 39 3 (rvC st) (some ⟨rb, 0, none⟩) 1 1, .app 42 1 (ptrsC st.sc) (at0 st.sa) st.sc.length st.scap, .app 52 2 (plsC st.pl) (at0 st.pa) st.pl.length st.pcap, famE (rows1 0 st.sc), famE (rows2 st.sc)]
structure RvOk (st : RvS) (m : Nat) : Prop where
 sc : ∀ d ∈ st.sc, ScOk d
 sl : st.sc.length ≤ st.scap
 sn : st.sa = none → st.sc = []
 sm : st.sc.length ≤ m
 pl : st.pl.length ≤ st.pcap
 pn : st.pa = none → st.pl = []
 pm : st.pl.length ≤ m
 nl : ∀ d ∈ st.sc, d.l.length ≤ m
 top : m ≤ 100000
theorem RvOk.mono {st : RvS} {m n : Nat} (ok : RvOk st m) (h : m ≤ n) (hn : n ≤ 100000) : RvOk st n := ⟨ok.sc, ok.sl, ok.sn, Nat.le_trans ok.sm h, ok.pl, ok.pn, Nat.le_trans ok.pm h, fun d hd => Nat.le_trans (ok.nl d hd) h, hn⟩
def ScG (sc sc' : List ScD) : Prop := ∀ (s : Nat) (d : ScD), sc[s]? = some d → ∃ d' : ScD, sc'[s]? = some d' ∧ d'.b = d.b ∧ d'.ar = d.ar
theorem ScG.refl (sc : List ScD) : ScG sc sc := fun _ d h => ⟨d, h, rfl, rfl⟩
theorem ScG.trans {a b c : List ScD} (h : ScG a b) (k : ScG b c) : ScG a c := fun s d hd => by
 obtain ⟨d1, h1, h2, h3⟩ := h s d hd
 obtain ⟨d2, k1, k2, k3⟩ := k s d1 h1
 exact ⟨d2, k1, k2.trans h2, k3.trans h3⟩
theorem ChP.grow {sc sc' : List ScD} (g : ScG sc sc') : ∀ {ch : List Nat} {o : Option Nat}, ChP sc ch o → ChP sc' ch o
 | [], _, h => h
 | s :: r, o, ⟨d, h1, h2, h3⟩ => by
  obtain ⟨d', g1, g2, g3⟩ := g s d h1
  exact ⟨d', g1, by rw [g2]; exact h2, by rw [g3]; exact ChP.grow g h3⟩
theorem ScG.set {sc : List ScD} {s : Nat} {d d' : ScD} (h : sc[s]? = some d) (h1 : d'.b = d.b) (h2 : d'.ar = d.ar) : ScG sc (sc.set s d') := fun u e he => by
 by_cases hu : s = u
 ·subst hu
  rw [h] at he
  obtain rfl := Option.some.inj he
  exact ⟨d', by rw [List.getElem?_set_self (List.getElem?_eq_some_iff.1 h).1], h1, h2⟩
 ·exact ⟨e, by rw [List.getElem?_set_ne hu]; exact he, rfl, rfl⟩
theorem ScG.snoc (sc : List ScD) (d : ScD) : ScG sc (sc ++ [d]) := fun s e he => ⟨e, by rw [List.getElem?_append_left (List.getElem?_eq_some_iff.1 he).1]; exact he, rfl, rfl⟩
def opened (st : RvS) (b : Nat) (ar : Option Nat) (sb scap : Nat) : RvS := { st with sc := st.sc ++ [⟨b, none, 0, ar, []⟩], sa := some sb, scap := scap }
structure OpI where
 b : Nat
 sb : Nat
 cap : Nat
theorem open_c (A : World → Prop) (rb : Nat) (st : RvS) {m : Nat} (ok : RvOk st m) (o : Option Nat) : SpecH Tryd.prog 18 (pvs [.pointer (some ⟨rb, 0, none⟩), ptrO o]) (rvE A rb st)
  (RetG (ι := OpI) (fun i => st.sc.length + 1 ≤ i.cap) (fun i => .pointer (some ⟨i.b, 0, none⟩)) fun i => rvE A rb (opened st i.b o i.sb i.cap)) := by
 refine ownT hm Tryd.func18 (by kernel_rfl) rfl rfl (fun _ _ => okHB_eq rfl) (fun _ _ => Nat.le_of_ble_eq_true rfl) ?_
 have hsm := ok.sm
 have htop := ok.top
 have e0 : at0 st.sa = none → st.sc = [] := fun h => ok.sn (by cases hs : st.sa with | none => rfl | some b => rw [hs] at h; cases h)
 refine wXB ?_
 refine LdN.one (a := some ⟨rb, 0, none⟩) (q := 0) (.slice (at0 st.sa) st.sc.length st.scap) rfl (fun w hw => hw.2.1) rfl ?_
 refine wXB ?_
 refine BoxN.known [.int .i64 (st.sc.length : Int), .slice none 0 0, ptrO o] rfl fun b => ?_
 refine wX ?_
 refine LdN.one (a := some ⟨rb, 0, none⟩) (q := 0) (.slice (at0 st.sa) st.sc.length st.scap) rfl (fun w hw => hw.2.1) rfl ?_
 refine wX ?_
 refine Nd.mk ⟨Nat.le_refl 1, rfl, rfl⟩ ?_
 (conv => whnf)
 refine AppN.grow 2 (ptrsC st.sc) [.pointer (some ⟨b, 0, none⟩)] rfl rfl ⟨Nat.le_refl 1, ⟨by show (st.sc.length + 1) * 8 ≤ _; omega, by omega⟩, by decide⟩ fun sb' c' g1 g2 => ?_
 refine wX ?_
 refine EffW.appTo (i := 1) (q := 0) (ys := [_]) (rvC (opened st b o sb' c')) 3 rfl rfl rfl rfl rfl rfl rfl (Nat.le_of_ble_eq_true rfl) (by simp [rvC, opened, at0]) rfl ?_
 refine wX ?_
 have e1 : ptrsC st.sc ++ [.pointer (some ⟨b, 0, none⟩)] = ptrsC (opened st b o sb' c').sc := by simp [ptrsC, opened]
 have e2 : st.sc.length + 1 = (opened st b o sb' c').sc.length := by simp [opened]
 have e3 : rows1 0 (opened st b o sb' c').sc = rows1 0 st.sc ++ [rowS st.sc.length ⟨b, none, 0, o, []⟩] := by
  show rows1 0 (st.sc ++ [_]) = _
  rw [rows1_app, Nat.zero_add]
  rfl
 have e4 : rows2 (opened st b o sb' c').sc = rows2 st.sc := by
  show rows2 (st.sc ++ [_]) = _
  unfold rows2
  rw [List.flatMap_append]
  exact List.append_nil _
 rw [e1, e2]
 refine ⟨_, (famPut 4 6 (l' := rows1 0 (opened st b o sb' c').sc) rfl rfl rfl (by rw [e3]; exact (List.perm_append_singleton _ _).symm)).s, ⟨b, sb', c'⟩, by rw [← e2]; exact g1, rfl, ⟨wkE_refl _, wkE_refl _, wkE_refl _, wkE_refl _, wkE_refl _, by rw [e4]; exact wkE_refl _, wkH_nil _⟩⟩
theorem RvOk.opened {st : RvS} {m : Nat} (ok : RvOk st m) (hm2 : m < 100000) {b sb c : Nat} {o : Option Nat} (h : st.sc.length + 1 ≤ c) : RvOk (opened st b o sb c) (m + 1) where
 sc := fun d hd => by
  rcases List.mem_append.1 (show d ∈ st.sc ++ [_] from hd) with hd | hd
  ·exact ok.sc d hd
  ·rw [List.mem_singleton.1 hd]
   exact ⟨fun _ => ⟨rfl, rfl⟩, Nat.le_refl _, Nat.zero_le _⟩
 sl := by show (st.sc ++ [_]).length ≤ c; rw [List.length_append]; exact h
 sn := fun h => by cases h
 sm := by show (st.sc ++ [_]).length ≤ _; rw [List.length_append]; exact Nat.succ_le_succ ok.sm
 pl := ok.pl
 pn := ok.pn
 pm := Nat.le_succ_of_le ok.pm
 nl := fun d hd => by
  rcases List.mem_append.1 (show d ∈ st.sc ++ [_] from hd) with hd | hd
  ·exact Nat.le_succ_of_le (ok.nl d hd)
  ·rw [List.mem_singleton.1 hd]
   exact Nat.zero_le _
 top := hm2
end Go.Proofs.YtpikpjlhdkkigaaDoor
