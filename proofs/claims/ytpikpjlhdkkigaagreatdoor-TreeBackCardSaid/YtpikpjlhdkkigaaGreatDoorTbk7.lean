/-
  Lemmas (V8 V9 VA Q6 Q7 Q8 Q9 G2 G3 G4).
-/
import Derived.Test.YtpikpjlhdkkigaaGreatDoorTbk6
set_option linter.unusedVariables false
set_option linter.unusedSimpArgs false
namespace Go.Proofs.YtpikpjlhdkkigaaGreatDoor
open Go.AX Go.RowKit Go.Tree Go.Scan
set_option maxRecDepth 20000
theorem isPath_c : ∀ t, pathT t → TreeK t → ∀ H, (∀ w, Facts H w → TreeF w t) → SpecH Tryz.prog 121 (pvs [nodeV t]) H (Ret (.bool true) H) := by
 have h14 : ∀ t : TP, t.op = 14 → ∀ H, (∀ w, Facts H w → TreeF w t) → SpecH Tryz.prog 121 (pvs [nodeV t]) H (Ret (.bool true) H) := fun t ho => by
  refine factC hm Tryz.func121 (by kernel_rfl) rfl rfl ?_
  refine wX ?_
  refine brd_eq (fun _ => ?_) (fun h => absurd ho h)
  exact wZ
 intro t hp ht
 rcases hp with ho | ⟨ho, k, hk, hko⟩
 ·exact h14 t ho
 ·refine factC hm Tryz.func121 (by kernel_rfl) rfl rfl ?_
  have hkm : k ∈ t.kids := by rw [hk]; exact List.mem_singleton.2 rfl
  have hsa : t.a.isSome = true := kid_some (i := 0) (k := k) ht (by rw [hk]; rfl)
  have hl1 : t.kids.length = 1 := by rw [hk]; rfl
  refine wX ?_
  refine brd_eq (fun h => by omega) (fun _ => ?_)
  refine wX ?_
  refine brd_eq (fun _ => ?_) (fun h => absurd ho h)
  refine wX ?_
  refine Nd.mk ⟨hsa, by decide, by rw [hl1]; decide⟩ ?_
  refine wX ?_
  refine LdN.agg (a := t.a) (q := 0) (nodeC k) rfl (fun w hw => hw.1.row) rfl (fun j hj => nodesC_get t.kids 0 j hj (by rw [hk]; rfl)) ?_
  refine wX ?_
  refine call1 (h14 k hko _ (fun w hw => hw.1.kid hkm)) ?_
  exact wZ
def PatC (d : Bool) (t : TP) : Prop := ∀ H, (∀ w, Facts H w → ScanF w ∧ TreeF w t) → SpecH Tryz.prog 90 (pvs [nodeV t, .bool d]) H (Ret (.bool true) H)
def cstL : List Int := [4, 5, 6, 0, 1, 2, 10]
theorem cst_in {t : TP} (h : constT t) : cstL.contains t.op = true ∨ cstL.contains t.op = false ∧ pathT t := by
 unfold constT at h
 rcases h with h | h | h | h | h | h | h | h
 any_goals (left; rw [h]; rfl)
 right
 refine ⟨?_, h⟩
 rcases h with h | ⟨h, _⟩ <;> rw [h] <;> rfl
theorem patn_c (d : Bool) (ib : Nat) (k : TP) (hp : PatC d k) : ∀ H, (∀ w, Facts H w → ScanF w ∧ TreeF w k ∧ SlAt (some ⟨ib, 0, none⟩) 1 [.bool d] w) → SpecH Tryz.prog 122 (pvs [nodeV k] ++ pvs (#[.pointer (some ⟨ib, 0, none⟩)] : Array Value).toList) H (Ret (.bool false) H) := by
 refine factC (xs := [nodeV k, .pointer (some ⟨ib, 0, none⟩)]) hm Tryz.func122 (by kernel_rfl) rfl rfl ?_
 refine wX ?_
 refine LdN.one (a := some ⟨ib, 0, none⟩) (q := 0) (.bool d) rfl (fun w hw => hw.1.2.2) rfl ?_
 refine wX ?_
 refine call1 (hp _ (fun w hw => ⟨hw.1.1, hw.1.2.1⟩)) ?_
 refine wX ?_
 rfl
set_option maxHeartbeats 4000000 in
theorem pval_c {n : Nat} (hx : Hx n) (d : Bool) {a : Option Addr} {c : Nat} {k : TP} (hs : k.sz < n) (hv : V .ex k) (hc : d = true → constT k) (ht : TreeK ⟨48, [], 0, a, [k], c⟩) : PatC d ⟨48, [], 0, a, [k], c⟩ := by
 refine factC (xs := [.agg #[.int .i64 48, .string (bs []), .int .i64 0, .slice a 1 c], .bool d]) hm Tryz.func90 (by kernel_rfl) rfl rfl ?_
 have hsa : a.isSome = true := kid_some (i := 0) ht rfl
 have hkk := ht.kid (k := k) (List.mem_singleton.2 rfl)
 refine wX ?_
 refine call1 (unnamed_c (⟨48, [], 0, a, [k], c⟩ : TP) rfl rfl _) ?_
 refine wX ?_
 refine Nd.mk ⟨hsa, by decide, by decide⟩ ?_
 refine wX ?_
 refine LdN.agg (a := a) (q := 0) (nodeC k) rfl (fun w hw => hw.1.2.row) rfl (fun j hj => nodesC_get [k] 0 j hj rfl) ?_
 refine wX ?_
 refine call1 (expr_c hx hs hkk hv _ (fun w hw => ⟨hw.1.1, hw.1.2.kid (List.mem_singleton.2 rfl)⟩)) ?_
 refine wX ?_
 refine Nd.mk ⟨hsa, by decide, by decide⟩ ?_
 refine wX ?_
 refine LdN.agg (a := a) (q := 0) (nodeC k) rfl (fun w hw => hw.1.2.row) rfl (fun j hj => nodesC_get [k] 0 j hj rfl) ?_
 cases d with
 | false =>
  exact wZ
 | true =>
  refine wXR ?_
  refine RwN.known (intC cstL) rfl fun rb => ?_
  refine wXR ?_
  refine call1 (ContainsI_c (some ⟨rb, 0, none⟩) cstL 7 k.op (fun _ => rfl) (by decide) _ (fun w hw => hw.2.1)) ?_
  rcases cst_in (hc rfl) with h | ⟨h, hp⟩
  ·rw [h]
   exact wZR
  ·rw [h]
   refine wXR ?_
   refine call1 (isPath_c k hp hkk _ (fun w hw => hw.1.2.kid (List.mem_singleton.2 rfl))) ?_
   exact wZR
theorem pbind_c {x : List UInt8} {a : Option Addr} {c : Nat} (h : loB x = true) (hx : x ≠ [95]) (ht : TreeK ⟨49, x, 0, a, [], c⟩) : PatC true ⟨49, x, 0, a, [], c⟩ := by
 refine factC (xs := [.agg #[.int .i64 49, .string (bs x), .int .i64 0, .slice a 0 c], .bool true]) hm Tryz.func90 (by kernel_rfl) rfl rfl ?_
 have hxl : x.length ≤ 1048576 := ht.str
 refine wX ?_
 refine call1 (leaf_c (⟨49, x, 0, a, [], c⟩ : TP) rfl _) ?_
 refine wX ?_
 refine call1 (isLocal_c x hxl h _ (fun w hw => hw.1.1)) ?_
 refine wX ?_
 refine ret_b ?_
 have : (x == [95]) = false := by simpa using hx
 show (!(x == [95])) = true ↔ _
 rw [this]
 simp
theorem pany_c {a : Option Addr} {c : Nat} : PatC true ⟨50, [], 0, a, [], c⟩ := by
 refine factC (xs := [.agg #[.int .i64 50, .string (bs []), .int .i64 0, .slice a 0 c], .bool true]) hm Tryz.func90 (by kernel_rfl) rfl rfl ?_
 refine wX ?_
 refine call1 (bare_c (⟨50, [], 0, a, [], c⟩ : TP) rfl rfl rfl _) ?_
 exact wZ
set_option maxHeartbeats 4000000 in
theorem palt_c (d : Bool) {a : Option Addr} {c : Nat} {l : List TP} (hp : ∀ k ∈ l, PatC d k) (h2 : 2 ≤ l.length) (ht : TreeK ⟨53, [], 0, a, l, c⟩) : PatC d ⟨53, [], 0, a, l, c⟩ := by
 refine factC (xs := [.agg #[.int .i64 53, .string (bs []), .int .i64 0, .slice a l.length c], .bool d]) hm Tryz.func90 (by kernel_rfl) rfl rfl ?_
 have hll : l.length ≤ 1048576 := ht.len
 (conv => whnf)
 refine BoxN.own ?_
 (conv => whnf)
 refine BoxN.known [.bool d] rfl fun ib => ?_
 refine wX ?_
 refine call1 (unnamed_c (⟨53, [], 0, a, l, c⟩ : TP) rfl rfl _) ?_
 refine wX ?_
 refine brd_dec (fun _ => ?_) (fun h => by omega)
 refine wX ?_
 refine SpecH.args (args' := pvs [.slice a l.length c, .func (.func 122) #[] #[.pointer (some ⟨ib, 0, none⟩)]]) (by simp [pvs, opvs, opv, nth, plainEv]; try rfl) ?_
 refine call1 (NoFn_c 122 #[.pointer (some ⟨ib, 0, none⟩)] a l c (SlAt (some ⟨ib, 0, none⟩) 1 [.bool d]) ht.ls (fun k hk => patn_c d ib k (hp k hk)) _ (fun w hw => ⟨hw.1.1, hw.1.2.ls, hw.2.1⟩)) ?_
 refine wX ?_
 rfl
theorem filt_take {l : List TP} {i : Nat} {k : TP} (h : l[i]? = some k) : ((l.take (i + 1)).filter fun k => k.op == 52).length = ((l.take i).filter fun k => k.op == 52).length + (if k.op = 52 then 1 else 0) := by
 rw [List.take_add_one, h, List.filter_append, List.length_append]
 by_cases ho : k.op = 52 <;> simp [ho]
theorem filt_le (l : List TP) (i : Nat) : ((l.take i).filter fun k => k.op == 52).length ≤ (l.filter fun k => k.op == 52).length := (List.Sublist.filter _ (List.take_sublist i l)).length_le
set_option maxHeartbeats 4000000 in
theorem parr_c {a : Option Addr} {c : Nat} {l : List TP} (hp : ∀ k ∈ l, k.op ≠ 52 → PatC true k) (hr : ∀ k ∈ l, k.op = 52 → V .pre k) (h1 : (l.filter fun k => k.op == 52).length ≤ 1) (ht : TreeK ⟨51, [], 0, a, l, c⟩) : PatC true ⟨51, [], 0, a, l, c⟩ := by
 refine factC (xs := [.agg #[.int .i64 51, .string (bs []), .int .i64 0, .slice a l.length c], .bool true]) hm Tryz.func90 (by kernel_rfl) rfl rfl ?_
 have hll : l.length ≤ 1048576 := ht.len
 have hk : LsK a c l := ht.ls
 refine wX ?_
 refine loopS Nat (fun i => i ≤ l.length) (fun i => mkS Tryz.f90.ntmps 0 [(2, .c (.lp 1 0)), (3, .c (.lp 2 0)), (4, .c (.v (.bool false))), (6, .c (.v (.int .i64 (((l.take i).filter fun k => k.op == 52).length : Int)))), (89, .c (.v (.slice a l.length c))), (90, .c (.v (.int .i64 (l.length : Int)))), (91, .c (.v (.int .i64 (i : Int))))]) (fun i => l.length - i) rfl (fun _ => rfl) 0 (Nat.zero_le _) ?_ fun i hi => ?_
 ·exact wKK
 have hfl := filt_le l i
 refine wX ?_
 refine brd_dec (fun h3 => ?_) (fun h3 => ?_)
 ·obtain ⟨k, hki⟩ : ∃ k, l[i]? = some k := ⟨_, List.getElem?_eq_getElem (by omega)⟩
  have hkm := List.mem_of_getElem? hki
  have hkk := hk.k k hkm
  have hsa := isT hk.nil hki
  have hft := filt_take hki
  refine wX ?_
  refine Nd.mk ⟨hsa, by omega, by omega⟩ ?_
  refine wX ?_
  rw [Int.toNat_natCast]
  by_cases ho : k.op = 52
  ·rw [if_pos ho] at hft
   have hv := hr k hkm ho
   cases hv with
   | prest hxn =>
    rename_i x a' c'
    have hxl : x.length ≤ 1048576 := hkk.str
    refine LdN.agg (a := a) (q := i * 4) [.int .i64 52, .string (bs x), .int .i64 0, .slice a' 0 c'] rfl (fun w hw => hw.1.2.row) rfl (fun j hj => nodesC_get (t := ⟨52, x, 0, a', [], c'⟩) l i j hj hki) ?_
    refine wX ?_
    refine call1 (leaf_c (⟨52, x, 0, a', [], c'⟩ : TP) rfl _) ?_
    refine wX ?_
    rcases hxn with hx0 | hxn
    ·refine brd_intro (fun h => absurd hx0 (by have h : (!(x == [])) = true := h; simpa using h)) (fun _ => ?_)
     refine wX ?_
     refine ⟨i + 1, by show i + 1 ≤ _; omega, by show l.length - (i + 1) < l.length - i; omega, ?_, wHH⟩
     (repeat' (first | exact trivial | refine And.intro (by with_reducible rfl) ?_ | (with_reducible exact wkC_refl _) | (with_reducible exact wkCs_refl _) | refine And.intro ?_ ?_))
     all_goals first | rfl | exact av_int (by rw [wrap_i64 (by omega)]; omega) | exact av_int (by omega)
    ·have hne := lo_ne hxn
     refine brd_intro (fun _ => ?_) (fun h => absurd (eq_of_beq (show (x == []) = true by have h : (!(x == [])) = false := h; simpa using h)) hne)
     refine wX ?_
     refine call1 (isLocal_c x hxl hxn _ (fun w hw => hw.1.1)) ?_
     refine wX ?_
     refine ⟨i + 1, by show i + 1 ≤ _; omega, by show l.length - (i + 1) < l.length - i; omega, ?_, wHH⟩
     (repeat' (first | exact trivial | refine And.intro (by with_reducible rfl) ?_ | (with_reducible exact wkC_refl _) | (with_reducible exact wkCs_refl _) | refine And.intro ?_ ?_))
     all_goals first | rfl | exact av_int (by rw [wrap_i64 (by omega)]; omega) | exact av_int (by omega)
  ·rw [if_neg ho] at hft
   refine LdN.agg (a := a) (q := i * 4) (nodeC k) rfl (fun w hw => hw.1.2.row) rfl (fun j hj => nodesC_get l i j hj hki) ?_
   refine wX ?_
   refine brd_eq (fun h => absurd h ho) (fun _ => ?_)
   refine wX ?_
   refine call1 (hp k hkm ho _ (fun w hw => ⟨hw.1.1, hw.1.2.kid hkm⟩)) ?_
   refine wX ?_
   refine ⟨i + 1, by show i + 1 ≤ _; omega, by show l.length - (i + 1) < l.length - i; omega, ?_, wHH⟩
   (repeat' (first | exact trivial | refine And.intro (by with_reducible rfl) ?_ | (with_reducible exact wkC_refl _) | (with_reducible exact wkCs_refl _) | refine And.intro ?_ ?_))
   all_goals first | rfl | exact av_int (by rw [wrap_i64 (by omega)]; omega) | exact av_int (by omega)
 ·have hie : i = l.length := by omega
  rw [hie, List.take_length]
  refine wX ?_
  refine call1 (unnamed_c (⟨51, [], 0, a, l, c⟩ : TP) rfl rfl _) ?_
  refine wX ?_
  exact ret_b (by simp; omega)
set_option maxHeartbeats 4000000 in
theorem pat_c {N : Nat} (hx : Hx N) : ∀ (m : Nat) (t : TP) (d : Bool), t.sz ≤ m → t.sz ≤ N → TreeK t → V (.pat d) t → PatC d t := by
 intro m
 induction m with
 | zero => intro t d h; have := sz_pos t; omega
 | succ m ih =>
  intro t d hm hN hk hv
  have hin : ∀ k ∈ t.kids, k.sz ≤ m ∧ k.sz < N ∧ TreeK k := fun k h => by
   have := sz_kid h
   exact ⟨by omega, by omega, hk.kid h⟩
  cases hv with
  | pval0 hkv => exact pval_c hx false (hin _ (List.mem_singleton.2 rfl)).2.1 hkv (fun h => by cases h) hk
  | pval1 hkv hc => exact pval_c hx true (hin _ (List.mem_singleton.2 rfl)).2.1 hkv (fun _ => hc) hk
  | palt0 hl ho h2 => exact palt_c false (fun k h => ih k false (hin k h).1 (Nat.le_of_lt (hin k h).2.1) (hin k h).2.2 (hl k h)) h2 hk
  | palt1 hl h2 => exact palt_c true (fun k h => ih k true (hin k h).1 (Nat.le_of_lt (hin k h).2.1) (hin k h).2.2 (hl k h)) h2 hk
  | pbind h hx => exact pbind_c h hx hk
  | pany => exact pany_c
  | parr hl hr h1 => exact parr_c (fun k h ho => ih k true (hin k h).1 (Nat.le_of_lt (hin k h).2.1) (hin k h).2.2 (hl k h ho)) hr h1 hk
theorem plainn_c (k : TP) (ho : k.op = 48) : ∀ H, (∀ w, Facts H w → ScanF w ∧ TreeF w k ∧ True) → SpecH Tryz.prog 123 (pvs [nodeV k] ++ pvs (#[] : Array Value).toList) H (Ret (.bool false) H) := by
 refine factC (xs := [nodeV k]) hm Tryz.func123 (by kernel_rfl) rfl rfl ?_
 refine wX ?_
 rw [ho]
 rfl
theorem plainly_c {t : TP} (hv : V (.pat false) t) (ht : TreeK t) : ∀ H, (∀ w, Facts H w → ScanF w ∧ TreeF w t) → SpecH Tryz.prog 91 (pvs [nodeV t]) H (Ret (.bool true) H) := by
 cases hv with
 | pval0 hkv =>
  rename_i a c k
  refine factC (xs := [.agg #[.int .i64 48, .string (bs []), .int .i64 0, .slice a 1 c]]) hm Tryz.func91 (by kernel_rfl) rfl rfl ?_
  exact wZ
 | palt0 hl ho h2 =>
  rename_i a c l
  refine factC (xs := [.agg #[.int .i64 53, .string (bs []), .int .i64 0, .slice a l.length c]]) hm Tryz.func91 (by kernel_rfl) rfl rfl ?_
  refine wX ?_
  refine call1 (NoFn_c 123 #[] a l c (fun _ => True) ht.ls (fun k hk => plainn_c k (ho k hk)) _ (fun w hw => ⟨hw.1.1, hw.1.2.ls, trivial⟩)) ?_
  refine wX ?_
  rfl
def casC (z : Int) (a : Option Addr) (m c : Nat) : List Value := [.int .i64 46, .string (bs []), .int .i64 z, .slice a m c]
theorem casn_c {n : Nat} (hx : Hx n) (d : Bool) (z : Int) (hz : z = if d then 1 else 0) (nb : Nat) (a0 : Option Addr) (m0 c0 : Nat) {t : TP} (hs : t.sz < n) (hv : V (.inn d) t) (ht : TreeK t) : ∀ H, (∀ w, Facts H w → ScanF w ∧ TreeF w t ∧ SlAt (some ⟨nb, 0, none⟩) 4 (casC z a0 m0 c0) w) →
  SpecH Tryz.prog 89 (pvs [nodeV t] ++ pvs (#[.pointer (some ⟨nb, 0, none⟩)] : Array Value).toList) H (Ret (.bool false) H) := by
 have hin : ∀ k ∈ t.kids, k.sz < n ∧ TreeK k := fun k h => by
  have := sz_kid h
  exact ⟨by omega, ht.kid h⟩
 cases hv with
 | inn hp hsv hso =>
  rename_i a c p s
  refine factC (xs := [.agg #[.int .i64 47, .string (bs []), .int .i64 0, .slice a 2 c], .pointer (some ⟨nb, 0, none⟩)]) hm Tryz.func89 (by kernel_rfl) rfl rfl ?_
  have hsa : a.isSome = true := kid_some (i := 0) ht rfl
  obtain ⟨p1, p2⟩ := hin p (by simp)
  obtain ⟨s1, s2⟩ := hin s (by simp)
  cases d with
  | false =>
   obtain rfl : z = 0 := hz
   refine wX ?_
   refine LdN.one (a := some ⟨nb, 0, none⟩) (q := 2) (.int .i64 0) rfl (fun w hw => hw.1.2.2) rfl ?_
   refine wX ?_
   refine Nd.mk ⟨hsa, by decide +kernel, by decide +kernel⟩ ?_
   refine wX ?_
   refine LdN.agg (a := a) (q := 0 * 4) (nodeC p) rfl (fun w hw => hw.1.2.1.row) rfl (fun j hj => nodesC_get _ 0 j hj rfl) ?_
   refine wX ?_
   refine LdN.one (a := some ⟨nb, 0, none⟩) (q := 2) (.int .i64 0) rfl (fun w hw => hw.1.2.2) rfl ?_
   refine wX ?_
   refine callQ (pat_c hx n p false (by omega) (by omega) p2 hp _ ?_) ?_
   ·exact fun w hw => ⟨hw.1.1, hw.1.2.1.kid (by simp)⟩
   refine wX ?_
   refine Nd.mk ⟨hsa, by decide +kernel, by decide +kernel⟩ ?_
   refine wX ?_
   refine LdN.agg (a := a) (q := 1 * 4) (nodeC s) rfl (fun w hw => hw.1.2.1.row) rfl (fun j hj => nodesC_get _ 1 j hj rfl) ?_
   refine wX ?_
   refine callQ (seq_c hx s1 s2 hsv hso _ ?_) ?_
   ·exact fun w hw => ⟨hw.1.1, hw.1.2.1.kid (by simp)⟩
   refine wX ?_
   refine LdN.one (a := some ⟨nb, 0, none⟩) (q := 2) (.int .i64 0) rfl (fun w hw => hw.1.2.2) rfl ?_
   refine wX ?_
   refine Nd.mk ⟨hsa, by decide +kernel, by decide +kernel⟩ ?_
   refine wX ?_
   refine LdN.agg (a := a) (q := 0 * 4) (nodeC p) rfl (fun w hw => hw.1.2.1.row) rfl (fun j hj => nodesC_get _ 0 j hj rfl) ?_
   refine wX ?_
   refine call1 (plainly_c hp p2 _ (fun w hw => ⟨hw.1.1, hw.1.2.1.kid (by simp)⟩)) ?_
   exact wZ
  | true =>
   obtain rfl : z = 1 := hz
   refine wX ?_
   refine LdN.one (a := some ⟨nb, 0, none⟩) (q := 2) (.int .i64 1) rfl (fun w hw => hw.1.2.2) rfl ?_
   refine wX ?_
   refine Nd.mk ⟨hsa, by decide +kernel, by decide +kernel⟩ ?_
   refine wX ?_
   refine LdN.agg (a := a) (q := 0 * 4) (nodeC p) rfl (fun w hw => hw.1.2.1.row) rfl (fun j hj => nodesC_get _ 0 j hj rfl) ?_
   refine wX ?_
   refine LdN.one (a := some ⟨nb, 0, none⟩) (q := 2) (.int .i64 1) rfl (fun w hw => hw.1.2.2) rfl ?_
   refine wX ?_
   refine callQ (pat_c hx n p true (by omega) (by omega) p2 hp _ ?_) ?_
   ·exact fun w hw => ⟨hw.1.1, hw.1.2.1.kid (by simp)⟩
   refine wX ?_
   refine Nd.mk ⟨hsa, by decide +kernel, by decide +kernel⟩ ?_
   refine wX ?_
   refine LdN.agg (a := a) (q := 1 * 4) (nodeC s) rfl (fun w hw => hw.1.2.1.row) rfl (fun j hj => nodesC_get _ 1 j hj rfl) ?_
   refine wX ?_
   refine callQ (seq_c hx s1 s2 hsv hso _ ?_) ?_
   ·exact fun w hw => ⟨hw.1.1, hw.1.2.1.kid (by simp)⟩
   refine wX ?_
   refine LdN.one (a := some ⟨nb, 0, none⟩) (q := 2) (.int .i64 1) rfl (fun w hw => hw.1.2.2) rfl ?_
   exact wZ
 | ing hp hkv hsv hso =>
  rename_i a c p k s
  refine factC (xs := [.agg #[.int .i64 47, .string (bs []), .int .i64 1, .slice a 3 c], .pointer (some ⟨nb, 0, none⟩)]) hm Tryz.func89 (by kernel_rfl) rfl rfl ?_
  have hsa : a.isSome = true := kid_some (i := 0) ht rfl
  obtain ⟨p1, p2⟩ := hin p (by simp)
  obtain ⟨k1, k2⟩ := hin k (by simp)
  obtain ⟨s1, s2⟩ := hin s (by simp)
  obtain rfl : z = 1 := hz
  refine wX ?_
  refine LdN.one (a := some ⟨nb, 0, none⟩) (q := 2) (.int .i64 1) rfl (fun w hw => hw.1.2.2) rfl ?_
  refine wX ?_
  refine Nd.mk ⟨hsa, by decide +kernel, by decide +kernel⟩ ?_
  refine wX ?_
  refine LdN.agg (a := a) (q := 0 * 4) (nodeC p) rfl (fun w hw => hw.1.2.1.row) rfl (fun j hj => nodesC_get _ 0 j hj rfl) ?_
  refine wX ?_
  refine LdN.one (a := some ⟨nb, 0, none⟩) (q := 2) (.int .i64 1) rfl (fun w hw => hw.1.2.2) rfl ?_
  refine wX ?_
  refine callQ (pat_c hx n p true (by omega) (by omega) p2 hp _ ?_) ?_
  ·exact fun w hw => ⟨hw.1.1, hw.1.2.1.kid (by simp)⟩
  refine wX ?_
  refine Nd.mk ⟨hsa, by decide +kernel, by decide +kernel⟩ ?_
  refine wX ?_
  refine LdN.agg (a := a) (q := 2 * 4) (nodeC s) rfl (fun w hw => hw.1.2.1.row) rfl (fun j hj => nodesC_get _ 2 j hj rfl) ?_
  refine wX ?_
  refine callQ (seq_c hx s1 s2 hsv hso _ ?_) ?_
  ·exact fun w hw => ⟨hw.1.1, hw.1.2.1.kid (by simp)⟩
  refine wX ?_
  refine LdN.one (a := some ⟨nb, 0, none⟩) (q := 2) (.int .i64 1) rfl (fun w hw => hw.1.2.2) rfl ?_
  refine wX ?_
  refine Nd.mk ⟨hsa, by decide +kernel, by decide +kernel⟩ ?_
  refine wX ?_
  refine LdN.agg (a := a) (q := 1 * 4) (nodeC k) rfl (fun w hw => hw.1.2.1.row) rfl (fun j hj => nodesC_get _ 1 j hj rfl) ?_
  refine wX ?_
  refine call1 (expr_c hx k1 k2 hkv _ (fun w hw => ⟨hw.1.1, hw.1.2.1.kid (by simp)⟩)) ?_
  refine wX ?_
  rfl
theorem inn_op {d : Bool} {t : TP} (h : V (.inn d) t) : t.op = 47 := by cases h <;> rfl
set_option maxHeartbeats 4000000 in
theorem cases_c {n : Nat} (hx : Hx n) (d : Bool) (z : Int) (hz : z = if d then 1 else 0) {a : Option Addr} {c : Nat} {k : TP} {l e : List TP} (hk : V .ex k) (hl : ∀ k ∈ l, V (.inn d) k) (h1 : 1 ≤ l.length) (he : ∀ k ∈ e, V .els k) (h2 : e.length ≤ 1) (hs : (⟨46, [], z, a, k :: (l ++ e), c⟩ : TP).sz ≤ n) (ht : TreeK ⟨46, [], z, a, k :: (l ++ e), c⟩) :
  Yes 67 ⟨46, [], z, a, k :: (l ++ e), c⟩ := by
 have hin : ∀ p ∈ k :: (l ++ e), p.sz < n ∧ TreeK p := fun p hp => by
  have := sz_kid (t := (⟨46, [], z, a, k :: (l ++ e), c⟩ : TP)) (k := p) hp
  exact ⟨by omega, ht.kid hp⟩
 match e, h2 with
 | [], _ =>
  rw [List.append_nil] at hs ht hin ⊢
  cases d with
  | false =>
   obtain rfl : z = 0 := hz
   refine factC (xs := [.agg #[.int .i64 46, .string (bs []), .int .i64 0, .slice a (k :: (l)).length c]]) hm Tryz.func67 (by kernel_rfl) rfl rfl ?_
   have hsa : a.isSome = true := kid_some (i := 0) ht rfl
   have htl : LsK (tlA a c) (c - 1) (l) := ht.ls.tl
   have hcap : (l).length + 1 ≤ c := ht.cap
   have hlen : (l).length + 1 ≤ 1048576 := ht.len
   have hlc : (k :: (l)).length = (l).length + 1 := rfl
   have hlp : 1 ≤ (l).length := by first | exact h1 | (simp; done) | (simp; omega)
   obtain ⟨k1, k2⟩ := hin k (by simp)
   rw [hlc]
   (conv => whnf)
   refine BoxN.known (casC 0 a ((l).length + 1) c) rfl fun nb => ?_
   refine wX ?_
   refine LdN.one (a := some ⟨nb, 0, none⟩) (q := 1) (.string (bs [])) rfl (fun w hw => hw.2.1) rfl ?_
   refine wX ?_
   refine LdN.one (a := some ⟨nb, 0, none⟩) (q := 2) (.int .i64 0) rfl (fun w hw => hw.2.1) rfl ?_
   refine wX ?_
   refine LdN.one (a := some ⟨nb, 0, none⟩) (q := 2) (.int .i64 0) rfl (fun w hw => hw.2.1) rfl ?_
   refine wX ?_
   refine LdN.one (a := some ⟨nb, 0, none⟩) (q := 3) (.slice a ((l).length + 1) c) rfl (fun w hw => hw.2.1) rfl ?_
   refine wX ?_
   refine brd_dec (fun h => by omega) (fun _ => ?_)
   refine wX ?_
   refine LdN.one (a := some ⟨nb, 0, none⟩) (q := 3) (.slice a ((l).length + 1) c) rfl (fun w hw => hw.2.1) rfl ?_
   refine wX ?_
   refine Nd.mk ⟨hsa, by decide, by omega⟩ ?_
   refine wX ?_
   refine LdN.agg (a := a) (q := 0) (nodeC k) rfl (fun w hw => hw.1.2.row) rfl (fun j hj => nodesC_get (k :: (l)) 0 j hj rfl) ?_
   refine wX ?_
   refine call1 (expr_c hx k1 k2 hk _ (fun w hw => ⟨hw.1.1, hw.1.2.kid (by simp)⟩)) ?_
   refine wX ?_
   refine LdN.one (a := some ⟨nb, 0, none⟩) (q := 3) (.slice a ((l).length + 1) c) rfl (fun w hw => hw.2.1) rfl ?_
   refine wX ?_
   refine ReadW.slc_lo (e := 25) (sz := 4) 1 (l).length (tlA a c) rfl Tryz.underlying23 rfl rfl rfl rfl ⟨rfl, by omega, by omega⟩ (by omega) rfl ?_
   refine wX ?_
   have hta : (tlA a c).isSome = true := isT (i := 0) htl.nil (List.getElem?_eq_getElem (by omega))
   obtain ⟨q, hq⟩ : ∃ q, l[l.length - 1]? = some q := ⟨_, List.getElem?_eq_getElem (by omega)⟩
   have hw1 : IntKind.i64.wrap ((l.length : Int) - 1) = ((l.length - 1 : Nat) : Int) := by rw [wrap_i64 (by omega)]; omega
   rw [hw1]
   refine Nd.mk ⟨hta, by omega, by omega⟩ ?_
   refine wX ?_
   rw [Int.toNat_natCast]
   refine LdN.agg (a := tlA a c) (q := (l.length - 1) * 4) (nodeC q) rfl (fun w hw => (hw.1.2.ls.tl hcap).1) rfl (fun j hj => nodesC_get l (l.length - 1) j hj hq) ?_
   refine wX ?_
   refine brd_eq (fun h => by have := inn_op (hl q (List.mem_of_getElem? hq)); omega) (fun _ => ?_)
   refine wX ?_
   refine brd_dec (fun _ => ?_) (fun h => by omega)
   refine wX ?_
   refine SpecH.args (args' := pvs [.slice (tlA a c) l.length (c - 1), .func (.func 89) #[] #[.pointer (some ⟨nb, 0, none⟩)]]) (by simp [pvs, opvs, opv, nth, plainEv]; try rfl) ?_
   refine call1 (NoFn_c 89 #[.pointer (some ⟨nb, 0, none⟩)] (tlA a c) l (c - 1) (SlAt (some ⟨nb, 0, none⟩) 4 (casC 0 a ((l).length + 1) c)) (htl) (fun q hq => casn_c hx false 0 rfl nb a ((l).length + 1) c (hin q (by simp [hq])).1 (hl q hq) (hin q (by simp [hq])).2) _ (fun w hw => ⟨hw.1.1, hw.1.2.ls.tl hcap, hw.2.1⟩)) ?_
   refine wX ?_
   rfl
  | true =>
   obtain rfl : z = 1 := hz
   refine factC (xs := [.agg #[.int .i64 46, .string (bs []), .int .i64 1, .slice a (k :: (l)).length c]]) hm Tryz.func67 (by kernel_rfl) rfl rfl ?_
   have hsa : a.isSome = true := kid_some (i := 0) ht rfl
   have htl : LsK (tlA a c) (c - 1) (l) := ht.ls.tl
   have hcap : (l).length + 1 ≤ c := ht.cap
   have hlen : (l).length + 1 ≤ 1048576 := ht.len
   have hlc : (k :: (l)).length = (l).length + 1 := rfl
   have hlp : 1 ≤ (l).length := by first | exact h1 | (simp; done) | (simp; omega)
   obtain ⟨k1, k2⟩ := hin k (by simp)
   rw [hlc]
   (conv => whnf)
   refine BoxN.known (casC 1 a ((l).length + 1) c) rfl fun nb => ?_
   refine wX ?_
   refine LdN.one (a := some ⟨nb, 0, none⟩) (q := 1) (.string (bs [])) rfl (fun w hw => hw.2.1) rfl ?_
   refine wX ?_
   refine LdN.one (a := some ⟨nb, 0, none⟩) (q := 2) (.int .i64 1) rfl (fun w hw => hw.2.1) rfl ?_
   refine wX ?_
   refine LdN.one (a := some ⟨nb, 0, none⟩) (q := 2) (.int .i64 1) rfl (fun w hw => hw.2.1) rfl ?_
   refine wX ?_
   refine LdN.one (a := some ⟨nb, 0, none⟩) (q := 3) (.slice a ((l).length + 1) c) rfl (fun w hw => hw.2.1) rfl ?_
   refine wX ?_
   refine brd_dec (fun h => by omega) (fun _ => ?_)
   refine wX ?_
   refine LdN.one (a := some ⟨nb, 0, none⟩) (q := 3) (.slice a ((l).length + 1) c) rfl (fun w hw => hw.2.1) rfl ?_
   refine wX ?_
   refine Nd.mk ⟨hsa, by decide, by omega⟩ ?_
   refine wX ?_
   refine LdN.agg (a := a) (q := 0) (nodeC k) rfl (fun w hw => hw.1.2.row) rfl (fun j hj => nodesC_get (k :: (l)) 0 j hj rfl) ?_
   refine wX ?_
   refine call1 (expr_c hx k1 k2 hk _ (fun w hw => ⟨hw.1.1, hw.1.2.kid (by simp)⟩)) ?_
   refine wX ?_
   refine LdN.one (a := some ⟨nb, 0, none⟩) (q := 3) (.slice a ((l).length + 1) c) rfl (fun w hw => hw.2.1) rfl ?_
   refine wX ?_
   refine ReadW.slc_lo (e := 25) (sz := 4) 1 (l).length (tlA a c) rfl Tryz.underlying23 rfl rfl rfl rfl ⟨rfl, by omega, by omega⟩ (by omega) rfl ?_
   refine wX ?_
   have hta : (tlA a c).isSome = true := isT (i := 0) htl.nil (List.getElem?_eq_getElem (by omega))
   obtain ⟨q, hq⟩ : ∃ q, l[l.length - 1]? = some q := ⟨_, List.getElem?_eq_getElem (by omega)⟩
   have hw1 : IntKind.i64.wrap ((l.length : Int) - 1) = ((l.length - 1 : Nat) : Int) := by rw [wrap_i64 (by omega)]; omega
   rw [hw1]
   refine Nd.mk ⟨hta, by omega, by omega⟩ ?_
   refine wX ?_
   rw [Int.toNat_natCast]
   refine LdN.agg (a := tlA a c) (q := (l.length - 1) * 4) (nodeC q) rfl (fun w hw => (hw.1.2.ls.tl hcap).1) rfl (fun j hj => nodesC_get l (l.length - 1) j hj hq) ?_
   refine wX ?_
   refine brd_eq (fun h => by have := inn_op (hl q (List.mem_of_getElem? hq)); omega) (fun _ => ?_)
   refine wX ?_
   refine brd_dec (fun _ => ?_) (fun h => by omega)
   refine wX ?_
   refine SpecH.args (args' := pvs [.slice (tlA a c) l.length (c - 1), .func (.func 89) #[] #[.pointer (some ⟨nb, 0, none⟩)]]) (by simp [pvs, opvs, opv, nth, plainEv]; try rfl) ?_
   refine call1 (NoFn_c 89 #[.pointer (some ⟨nb, 0, none⟩)] (tlA a c) l (c - 1) (SlAt (some ⟨nb, 0, none⟩) 4 (casC 1 a ((l).length + 1) c)) (htl) (fun q hq => casn_c hx true 1 rfl nb a ((l).length + 1) c (hin q (by simp [hq])).1 (hl q hq) (hin q (by simp [hq])).2) _ (fun w hw => ⟨hw.1.1, hw.1.2.ls.tl hcap, hw.2.1⟩)) ?_
   refine wX ?_
   rfl
 | [q], _ =>
  cases d with
  | false =>
   obtain rfl : z = 0 := hz
   refine factC (xs := [.agg #[.int .i64 46, .string (bs []), .int .i64 0, .slice a (k :: (l ++ [q])).length c]]) hm Tryz.func67 (by kernel_rfl) rfl rfl ?_
   have hsa : a.isSome = true := kid_some (i := 0) ht rfl
   have htl : LsK (tlA a c) (c - 1) (l ++ [q]) := ht.ls.tl
   have hcap : (l ++ [q]).length + 1 ≤ c := ht.cap
   have hlen : (l ++ [q]).length + 1 ≤ 1048576 := ht.len
   have hlc : (k :: (l ++ [q])).length = (l ++ [q]).length + 1 := rfl
   have hlp : 1 ≤ (l ++ [q]).length := by first | exact h1 | (simp; done) | (simp; omega)
   obtain ⟨k1, k2⟩ := hin k (by simp)
   rw [hlc]
   (conv => whnf)
   refine BoxN.known (casC 0 a ((l ++ [q]).length + 1) c) rfl fun nb => ?_
   refine wX ?_
   refine LdN.one (a := some ⟨nb, 0, none⟩) (q := 1) (.string (bs [])) rfl (fun w hw => hw.2.1) rfl ?_
   refine wX ?_
   refine LdN.one (a := some ⟨nb, 0, none⟩) (q := 2) (.int .i64 0) rfl (fun w hw => hw.2.1) rfl ?_
   refine wX ?_
   refine LdN.one (a := some ⟨nb, 0, none⟩) (q := 2) (.int .i64 0) rfl (fun w hw => hw.2.1) rfl ?_
   refine wX ?_
   refine LdN.one (a := some ⟨nb, 0, none⟩) (q := 3) (.slice a ((l ++ [q]).length + 1) c) rfl (fun w hw => hw.2.1) rfl ?_
   refine wX ?_
   refine brd_dec (fun h => by omega) (fun _ => ?_)
   refine wX ?_
   refine LdN.one (a := some ⟨nb, 0, none⟩) (q := 3) (.slice a ((l ++ [q]).length + 1) c) rfl (fun w hw => hw.2.1) rfl ?_
   refine wX ?_
   refine Nd.mk ⟨hsa, by decide, by omega⟩ ?_
   refine wX ?_
   refine LdN.agg (a := a) (q := 0) (nodeC k) rfl (fun w hw => hw.1.2.row) rfl (fun j hj => nodesC_get (k :: (l ++ [q])) 0 j hj rfl) ?_
   refine wX ?_
   refine call1 (expr_c hx k1 k2 hk _ (fun w hw => ⟨hw.1.1, hw.1.2.kid (by simp)⟩)) ?_
   refine wX ?_
   refine LdN.one (a := some ⟨nb, 0, none⟩) (q := 3) (.slice a ((l ++ [q]).length + 1) c) rfl (fun w hw => hw.2.1) rfl ?_
   refine wX ?_
   refine ReadW.slc_lo (e := 25) (sz := 4) 1 (l ++ [q]).length (tlA a c) rfl Tryz.underlying23 rfl rfl rfl rfl ⟨rfl, by omega, by omega⟩ (by omega) rfl ?_
   refine wX ?_
   have hta : (tlA a c).isSome = true := isT (i := 0) htl.nil (List.getElem?_eq_getElem (by omega))
   have hml : (l ++ [q]).length = l.length + 1 := by simp
   have hw1 : IntKind.i64.wrap (((l ++ [q]).length : Int) - 1) = ((l.length : Nat) : Int) := by rw [hml, wrap_i64 (by omega)]; omega
   rw [hw1]
   refine Nd.mk ⟨hta, by omega, by omega⟩ ?_
   refine wX ?_
   rw [Int.toNat_natCast]
   cases he q (List.mem_singleton.2 rfl) with
   | els hsv hso =>
    rename_i a' c' s _ _
    have hq := hin ⟨55, [], 0, a', [s], c'⟩ (by simp)
    have hma : a'.isSome = true := kid_some (i := 0) hq.2 rfl
    refine LdN.agg (a := tlA a c) (q := l.length * 4) [.int .i64 55, .string (bs []), .int .i64 0, .slice a' 1 c'] rfl (fun w hw => (hw.1.2.ls.tl hcap).1) rfl (fun j hj => nodesC_get (t := ⟨55, [], 0, a', [s], c'⟩) (l ++ [⟨55, [], 0, a', [s], c'⟩]) l.length j hj (by simp)) ?_
    refine wX ?_
    refine call1 (unnamed_c (⟨55, [], 0, a', [s], c'⟩ : TP) rfl rfl _) ?_
    refine wX ?_
    refine Nd.mk ⟨hma, by decide, by decide⟩ ?_
    refine wX ?_
    have hft : ∀ w, TreeF w ⟨46, [], 0, a, k :: (l ++ [⟨55, [], 0, a', [s], c'⟩]), c⟩ → TreeF w ⟨55, [], 0, a', [s], c'⟩ := fun w h => h.kid (by simp)
    refine LdN.agg (a := a') (q := 0) (nodeC s) rfl (fun w hw => (hft w hw.1.2).row) rfl (fun j hj => nodesC_get [s] 0 j hj rfl) ?_
    refine wX ?_
    refine call1 (seq_c hx (sz_one hq.1) (hq.2.kid (List.mem_singleton.2 rfl)) hsv hso _ (fun w hw => ⟨hw.1.1, (hft w hw.1.2).kid (List.mem_singleton.2 rfl)⟩)) ?_
    refine wX ?_
    refine ReadW.slc_hi rfl (by kernel_rfl) rfl rfl (by rw [hw1]; omega) ?_
    rw [hw1, Int.toNat_natCast]
    refine wX ?_
    have htk : LsK (tlA a c) (c - 1) l := by have := htl.take l.length; rwa [List.take_left] at this
    refine brd_dec (fun _ => ?_) (fun h => by omega)
    refine wX ?_
    refine SpecH.args (args' := pvs [.slice (tlA a c) l.length (c - 1), .func (.func 89) #[] #[.pointer (some ⟨nb, 0, none⟩)]]) (by simp [pvs, opvs, opv, nth, plainEv]; try rfl) ?_
    refine call1 (NoFn_c 89 #[.pointer (some ⟨nb, 0, none⟩)] (tlA a c) l (c - 1) (SlAt (some ⟨nb, 0, none⟩) 4 (casC 0 a ((l ++ [(⟨55, [], 0, a', [s], c'⟩ : TP)]).length + 1) c)) (htk) (fun q hq => casn_c hx false 0 rfl nb a ((l ++ [(⟨55, [], 0, a', [s], c'⟩ : TP)]).length + 1) c (hin q (by simp [hq])).1 (hl q hq) (hin q (by simp [hq])).2) _ (fun w hw => ⟨hw.1.1, by have := (hw.1.2.ls.tl hcap).take l.length; rwa [List.take_left] at this, hw.2.1⟩)) ?_
    refine wX ?_
    rfl
  | true =>
   obtain rfl : z = 1 := hz
   refine factC (xs := [.agg #[.int .i64 46, .string (bs []), .int .i64 1, .slice a (k :: (l ++ [q])).length c]]) hm Tryz.func67 (by kernel_rfl) rfl rfl ?_
   have hsa : a.isSome = true := kid_some (i := 0) ht rfl
   have htl : LsK (tlA a c) (c - 1) (l ++ [q]) := ht.ls.tl
   have hcap : (l ++ [q]).length + 1 ≤ c := ht.cap
   have hlen : (l ++ [q]).length + 1 ≤ 1048576 := ht.len
   have hlc : (k :: (l ++ [q])).length = (l ++ [q]).length + 1 := rfl
   have hlp : 1 ≤ (l ++ [q]).length := by first | exact h1 | (simp; done) | (simp; omega)
   obtain ⟨k1, k2⟩ := hin k (by simp)
   rw [hlc]
   (conv => whnf)
   refine BoxN.known (casC 1 a ((l ++ [q]).length + 1) c) rfl fun nb => ?_
   refine wX ?_
   refine LdN.one (a := some ⟨nb, 0, none⟩) (q := 1) (.string (bs [])) rfl (fun w hw => hw.2.1) rfl ?_
   refine wX ?_
   refine LdN.one (a := some ⟨nb, 0, none⟩) (q := 2) (.int .i64 1) rfl (fun w hw => hw.2.1) rfl ?_
   refine wX ?_
   refine LdN.one (a := some ⟨nb, 0, none⟩) (q := 2) (.int .i64 1) rfl (fun w hw => hw.2.1) rfl ?_
   refine wX ?_
   refine LdN.one (a := some ⟨nb, 0, none⟩) (q := 3) (.slice a ((l ++ [q]).length + 1) c) rfl (fun w hw => hw.2.1) rfl ?_
   refine wX ?_
   refine brd_dec (fun h => by omega) (fun _ => ?_)
   refine wX ?_
   refine LdN.one (a := some ⟨nb, 0, none⟩) (q := 3) (.slice a ((l ++ [q]).length + 1) c) rfl (fun w hw => hw.2.1) rfl ?_
   refine wX ?_
   refine Nd.mk ⟨hsa, by decide, by omega⟩ ?_
   refine wX ?_
   refine LdN.agg (a := a) (q := 0) (nodeC k) rfl (fun w hw => hw.1.2.row) rfl (fun j hj => nodesC_get (k :: (l ++ [q])) 0 j hj rfl) ?_
   refine wX ?_
   refine call1 (expr_c hx k1 k2 hk _ (fun w hw => ⟨hw.1.1, hw.1.2.kid (by simp)⟩)) ?_
   refine wX ?_
   refine LdN.one (a := some ⟨nb, 0, none⟩) (q := 3) (.slice a ((l ++ [q]).length + 1) c) rfl (fun w hw => hw.2.1) rfl ?_
   refine wX ?_
   refine ReadW.slc_lo (e := 25) (sz := 4) 1 (l ++ [q]).length (tlA a c) rfl Tryz.underlying23 rfl rfl rfl rfl ⟨rfl, by omega, by omega⟩ (by omega) rfl ?_
   refine wX ?_
   have hta : (tlA a c).isSome = true := isT (i := 0) htl.nil (List.getElem?_eq_getElem (by omega))
   have hml : (l ++ [q]).length = l.length + 1 := by simp
   have hw1 : IntKind.i64.wrap (((l ++ [q]).length : Int) - 1) = ((l.length : Nat) : Int) := by rw [hml, wrap_i64 (by omega)]; omega
   rw [hw1]
   refine Nd.mk ⟨hta, by omega, by omega⟩ ?_
   refine wX ?_
   rw [Int.toNat_natCast]
   cases he q (List.mem_singleton.2 rfl) with
   | els hsv hso =>
    rename_i a' c' s _ _
    have hq := hin ⟨55, [], 0, a', [s], c'⟩ (by simp)
    have hma : a'.isSome = true := kid_some (i := 0) hq.2 rfl
    refine LdN.agg (a := tlA a c) (q := l.length * 4) [.int .i64 55, .string (bs []), .int .i64 0, .slice a' 1 c'] rfl (fun w hw => (hw.1.2.ls.tl hcap).1) rfl (fun j hj => nodesC_get (t := ⟨55, [], 0, a', [s], c'⟩) (l ++ [⟨55, [], 0, a', [s], c'⟩]) l.length j hj (by simp)) ?_
    refine wX ?_
    refine call1 (unnamed_c (⟨55, [], 0, a', [s], c'⟩ : TP) rfl rfl _) ?_
    refine wX ?_
    refine Nd.mk ⟨hma, by decide, by decide⟩ ?_
    refine wX ?_
    have hft : ∀ w, TreeF w ⟨46, [], 1, a, k :: (l ++ [⟨55, [], 0, a', [s], c'⟩]), c⟩ → TreeF w ⟨55, [], 0, a', [s], c'⟩ := fun w h => h.kid (by simp)
    refine LdN.agg (a := a') (q := 0) (nodeC s) rfl (fun w hw => (hft w hw.1.2).row) rfl (fun j hj => nodesC_get [s] 0 j hj rfl) ?_
    refine wX ?_
    refine call1 (seq_c hx (sz_one hq.1) (hq.2.kid (List.mem_singleton.2 rfl)) hsv hso _ (fun w hw => ⟨hw.1.1, (hft w hw.1.2).kid (List.mem_singleton.2 rfl)⟩)) ?_
    refine wX ?_
    refine ReadW.slc_hi rfl (by kernel_rfl) rfl rfl (by rw [hw1]; omega) ?_
    rw [hw1, Int.toNat_natCast]
    refine wX ?_
    have htk : LsK (tlA a c) (c - 1) l := by have := htl.take l.length; rwa [List.take_left] at this
    refine brd_dec (fun _ => ?_) (fun h => by omega)
    refine wX ?_
    refine SpecH.args (args' := pvs [.slice (tlA a c) l.length (c - 1), .func (.func 89) #[] #[.pointer (some ⟨nb, 0, none⟩)]]) (by simp [pvs, opvs, opv, nth, plainEv]; try rfl) ?_
    refine call1 (NoFn_c 89 #[.pointer (some ⟨nb, 0, none⟩)] (tlA a c) l (c - 1) (SlAt (some ⟨nb, 0, none⟩) 4 (casC 1 a ((l ++ [(⟨55, [], 0, a', [s], c'⟩ : TP)]).length + 1) c)) (htk) (fun q hq => casn_c hx true 1 rfl nb a ((l ++ [(⟨55, [], 0, a', [s], c'⟩ : TP)]).length + 1) c (hin q (by simp [hq])).1 (hl q hq) (hin q (by simp [hq])).2) _ (fun w hw => ⟨hw.1.1, by have := (hw.1.2.ls.tl hcap).take l.length; rwa [List.take_left] at this, hw.2.1⟩)) ?_
    refine wX ?_
    rfl
def vOp (o : Int) : Bool := [0, 1, 2, 3, 39, 4, 5, 17, 32, 35, 46].contains o
def nOp (o : Int) : Bool := [6, 10, 11, 12, 13, 14, 15, 16, 18, 33, 43, 44].contains o
theorem valid_nm {t : TP} (ho : vOp t.op = false) (hn : t.n = 0) (h : Yes 68 t) : Yes 46 t := by
 obtain ⟨o, x, n, a, ks, c⟩ := t
 simp only at ho hn
 subst hn
 simp [vOp] at ho
 refine factC (xs := [.agg #[.int .i64 o, .string (bs x), .int .i64 0, .slice a ks.length c]]) hm Tryz.func46 (by kernel_rfl) rfl rfl ?_
 refine wX ?_
 repeat (refine brd_eq (fun h => absurd h (by omega)) (fun _ => ?_); (first | refine wX ?_ | exact wZ))
 refine call1 (h _ (fun w hw => hw.1)) ?_
 exact wZ
theorem named_ot {t : TP} (ho : nOp t.op = false) (hx : t.name = []) (h : Yes 93 t) : Yes 68 t := by
 obtain ⟨o, x, n, a, ks, c⟩ := t
 simp only at ho hx
 subst hx
 simp [nOp] at ho
 refine factC (xs := [.agg #[.int .i64 o, .string (bs []), .int .i64 n, .slice a ks.length c]]) hm Tryz.func68 (by kernel_rfl) rfl rfl ?_
 refine wX ?_
 repeat (refine brd_eq (fun h => absurd h (by omega)) (fun _ => ?_); (first | refine wX ?_ | exact wZ))
 refine call1 (h _ (fun w hw => hw.1)) ?_
 exact wZ
set_option maxHeartbeats 4000000 in
theorem valid_ot {t : TP} (hv : vOp t.op = false) (ho : nOp t.op = false) (hn : t.n = 0) (hx : t.name = []) (h : Yes 93 t) : Yes 46 t := valid_nm hv hn (named_ot ho hx h)
set_option maxHeartbeats 4000000 in
theorem valid_c : ∀ N, Hx N := by
 intro N
 induction N with
 | zero => intro t h; omega
 | succ N ih =>
  intro t hs hk hv
  have hN : t.sz ≤ N := by omega
  have hin : ∀ k ∈ t.kids, k.sz < N ∧ TreeK k := fun k h => by
   have := sz_kid h
   exact ⟨by omega, hk.kid h⟩
  have hls := hk.ls
  have hxl := hk.str
  cases hv with
  | bare h =>
   rename_i o a c
   have hb := bare_c (⟨o, [], 0, a, [], c⟩ : TP) rfl rfl rfl
   rcases h with rfl | rfl | rfl | rfl | rfl
   ·-- a node's kind, name, number, length of kids: 0 [] 0 0
    refine factC (xs := [.agg #[.int .i64 0, .string (bs []), .int .i64 0, .slice a 0 c]]) hm Tryz.func46 (by kernel_rfl) rfl rfl ?_
    refine wX ?_
    refine call1 (hb _) ?_
    exact wZ
   ·-- a node's kind, name, number, length of kids: 1 [] 0 0
    refine factC (xs := [.agg #[.int .i64 1, .string (bs []), .int .i64 0, .slice a 0 c]]) hm Tryz.func46 (by kernel_rfl) rfl rfl ?_
    refine wX ?_
    refine call1 (hb _) ?_
    exact wZ
   ·-- a node's kind, name, number, length of kids: 2 [] 0 0
    refine factC (xs := [.agg #[.int .i64 2, .string (bs []), .int .i64 0, .slice a 0 c]]) hm Tryz.func46 (by kernel_rfl) rfl rfl ?_
    refine wX ?_
    refine call1 (hb _) ?_
    exact wZ
   ·-- a node's kind, name, number, length of kids: 3 [] 0 0
    refine factC (xs := [.agg #[.int .i64 3, .string (bs []), .int .i64 0, .slice a 0 c]]) hm Tryz.func46 (by kernel_rfl) rfl rfl ?_
    refine wX ?_
    refine call1 (hb _) ?_
    exact wZ
   ·-- a node's kind, name, number, length of kids: 39 [] 0 0
    refine factC (xs := [.agg #[.int .i64 39, .string (bs []), .int .i64 0, .slice a 0 c]]) hm Tryz.func46 (by kernel_rfl) rfl rfl ?_
    refine wX ?_
    refine call1 (hb _) ?_
    exact wZ
  | int h =>
   rename_i n a c
   refine factC (xs := [.agg #[.int .i64 4, .string (bs []), .int .i64 n, .slice a 0 c]]) hm Tryz.func46 (by kernel_rfl) rfl rfl ?_
   refine wX ?_
   refine call1 (leaf_c (⟨4, [], n, a, [], c⟩ : TP) rfl _) ?_
   refine wX ?_
   rw [show decide (n ≥ -1000000000000000) = true by simpa using h.1]
   refine wX ?_
   rw [show decide (n ≤ 1000000000000000) = true by simpa using h.2]
  | str h =>
   rename_i x a c
   refine factC (xs := [.agg #[.int .i64 5, .string (bs x), .int .i64 0, .slice a 0 c]]) hm Tryz.func46 (by kernel_rfl) rfl rfl ?_
   refine wX ?_
   refine call1 (leaf_c (⟨5, x, 0, a, [], c⟩ : TP) rfl _) ?_
   refine wX ?_
   exact ret_b (by rw [bs_size]; simp; omega)
  | sym h =>
   rename_i x a c
   refine valid_nm rfl rfl ?_
   have hxl : x.length ≤ 1048576 := hxl
   refine factC (xs := [.agg #[.int .i64 6, .string (bs x), .int .i64 0, .slice a 0 c]]) hm Tryz.func68 (by kernel_rfl) rfl rfl ?_
   refine wX ?_
   refine call1 (leaf_c (⟨6, x, 0, a, [], c⟩ : TP) rfl _) ?_
   refine wX ?_
   refine call1 (IsMethod_c x (by omega) _ (fun w hw => hw.1.1)) ?_
   rw [show (opL.contains x || inB x || setB x) = meB x from rfl]
   cases h1 : meB x with
   | true =>
    exact wZ
   | false =>
    refine wX ?_
    refine call1 (IsConst_c x (by omega) _) ?_
    cases h2 : icB x with
    | true =>
     exact wZ
    | false =>
     refine wX ?_
     refine call1 (IsIvar_c x (by omega) _) ?_
     have h3 : iiB x = true := by
      rcases h with h | h | h
      ·rw [h1] at h; cases h
      ·rw [h2] at h; cases h
      ·exact h
     rw [h3]
     exact wZ
  | dstr1 h ho =>
   rename_i a c s
   refine valid_ot rfl rfl rfl rfl ?_
   refine factC (xs := [.agg #[.int .i64 7, .string (bs []), .int .i64 0, .slice a 1 c]]) hm Tryz.func93 (by kernel_rfl) rfl rfl ?_
   refine wX ?_
   refine call1 (dstr1_c ih (hin _ (by simp)).1 h ho a c hls _ (fun w hw => ⟨hw.1.1, hw.1.2.ls⟩)) ?_
   exact wZ
  | dstr3 h ho hx hy =>
   rename_i a c s x y ax ay cx cy
   refine valid_ot rfl rfl rfl rfl ?_
   refine factC (xs := [.agg #[.int .i64 7, .string (bs []), .int .i64 0, .slice a 3 c]]) hm Tryz.func93 (by kernel_rfl) rfl rfl ?_
   refine wX ?_
   refine call1 (dstr3_c ih (fun k hk => (hin k hk).1) h ho hx hy a c hls _ (fun w hw => ⟨hw.1.1, hw.1.2.ls⟩)) ?_
   exact wZ
  | args ho h =>
   rename_i o a c l
   have hl : Sm N .arg l := fun k hk => ⟨(hin k hk).1, h k hk⟩
   rcases ho with rfl | rfl
   ·refine valid_ot rfl rfl rfl rfl ?_
    refine factC (xs := [.agg #[.int .i64 8, .string (bs []), .int .i64 0, .slice a l.length c]]) hm Tryz.func93 (by kernel_rfl) rfl rfl ?_
    refine wX ?_
    refine call1 (args_c ih hl a c hls _ (fun w hw => ⟨hw.1.1, hw.1.2.ls⟩)) ?_
    exact wZ
   ·refine valid_ot rfl rfl rfl rfl ?_
    refine factC (xs := [.agg #[.int .i64 21, .string (bs []), .int .i64 0, .slice a l.length c]]) hm Tryz.func93 (by kernel_rfl) rfl rfl ?_
    refine wX ?_
    refine call1 (args_c ih hl a c hls _ (fun w hw => ⟨hw.1.1, hw.1.2.ls⟩)) ?_
    exact wZ
  | hash h2 h =>
   rename_i a c l
   have hl : Sm N .ex l := fun k hk => ⟨(hin k hk).1, h k hk⟩
   refine valid_ot rfl rfl rfl rfl ?_
   have hmd : ((l.length : Int).tmod 2 == 0) = true := by
    rw [Int.tmod_eq_emod_of_nonneg (by omega)]
    simp
    omega
   refine factC (xs := [.agg #[.int .i64 9, .string (bs []), .int .i64 0, .slice a l.length c]]) hm Tryz.func93 (by kernel_rfl) rfl rfl ?_
   refine wX ?_
   rw [hmd]
   refine wX ?_
   refine call1 (exprs_c ih hl a c hls _ (fun w hw => ⟨hw.1.1, hw.1.2.ls⟩)) ?_
   exact wZ
  | loc h =>
   rename_i x a c
   refine valid_nm rfl rfl ?_
   refine factC (xs := [.agg #[.int .i64 10, .string (bs x), .int .i64 0, .slice a 0 c]]) hm Tryz.func68 (by kernel_rfl) rfl rfl ?_
   refine wX ?_
   refine call1 (leaf_c (⟨10, x, 0, a, [], c⟩ : TP) rfl _) ?_
   refine wX ?_
   refine call1 (isLocal_c x hxl h _ (fun w hw => hw.1.1)) ?_
   exact wZ
  | setl h hkv =>
   rename_i x a c k
   refine valid_nm rfl rfl ?_
   refine factC (xs := [.agg #[.int .i64 11, .string (bs x), .int .i64 0, .slice a 1 c]]) hm Tryz.func68 (by kernel_rfl) rfl rfl ?_
   refine wX ?_
   refine call1 (isLocal_c x hxl h _ (fun w hw => hw.1.1)) ?_
   refine wX ?_
   refine call1 (shaped_c ih [101] ([k]) (⟨⟨(hin k (by simp)).1, hkv, .inl rfl⟩, trivial⟩) (by decide) a c hls _ (fun w hw => ⟨hw.1.1, hw.1.2.ls⟩)) ?_
   exact wZ
  | ivar h =>
   rename_i x a c
   refine valid_nm rfl rfl ?_
   have hxl : x.length ≤ 1048576 := hxl
   refine factC (xs := [.agg #[.int .i64 12, .string (bs x), .int .i64 0, .slice a 0 c]]) hm Tryz.func68 (by kernel_rfl) rfl rfl ?_
   refine wX ?_
   refine call1 (leaf_c (⟨12, x, 0, a, [], c⟩ : TP) rfl _) ?_
   refine wX ?_
   refine call1 (IsIvar_c x (by omega) _) ?_
   rw [h]
   exact wZ
  | seti h hkv =>
   rename_i x a c k
   refine valid_nm rfl rfl ?_
   have hxl : x.length ≤ 1048576 := hxl
   refine factC (xs := [.agg #[.int .i64 13, .string (bs x), .int .i64 0, .slice a 1 c]]) hm Tryz.func68 (by kernel_rfl) rfl rfl ?_
   refine wX ?_
   refine call1 (IsIvar_c x (by omega) _) ?_
   rw [h]
   refine wX ?_
   refine call1 (shaped_c ih [101] ([k]) (⟨⟨(hin k (by simp)).1, hkv, .inl rfl⟩, trivial⟩) (by decide) a c hls _ (fun w hw => ⟨hw.1.1, hw.1.2.ls⟩)) ?_
   exact wZ
  | const h =>
   rename_i x a c
   refine valid_nm rfl rfl ?_
   have hxl : x.length ≤ 1048576 := hxl
   refine factC (xs := [.agg #[.int .i64 14, .string (bs x), .int .i64 0, .slice a 0 c]]) hm Tryz.func68 (by kernel_rfl) rfl rfl ?_
   refine wX ?_
   refine call1 (leaf_c (⟨14, x, 0, a, [], c⟩ : TP) rfl _) ?_
   refine wX ?_
   refine call1 (IsConst_c x (by omega) _) ?_
   rw [h]
   exact wZ
  | scope ho h hkv =>
   rename_i o x a c k
   have hxl : x.length ≤ 1048576 := hxl
   rcases ho with rfl | rfl
   ·refine valid_nm rfl rfl ?_
    refine factC (xs := [.agg #[.int .i64 15, .string (bs x), .int .i64 0, .slice a 1 c]]) hm Tryz.func68 (by kernel_rfl) rfl rfl ?_
    refine wX ?_
    refine call1 (IsConst_c x (by omega) _) ?_
    rw [h]
    refine wX ?_
    refine call1 (shaped_c ih [101] ([k]) (⟨⟨(hin k (by simp)).1, hkv, .inl rfl⟩, trivial⟩) (by decide) a c hls _ (fun w hw => ⟨hw.1.1, hw.1.2.ls⟩)) ?_
    exact wZ
   ·refine valid_nm rfl rfl ?_
    refine factC (xs := [.agg #[.int .i64 16, .string (bs x), .int .i64 0, .slice a 1 c]]) hm Tryz.func68 (by kernel_rfl) rfl rfl ?_
    refine wX ?_
    refine call1 (IsConst_c x (by omega) _) ?_
    rw [h]
    refine wX ?_
    refine call1 (shaped_c ih [101] ([k]) (⟨⟨(hin k (by simp)).1, hkv, .inl rfl⟩, trivial⟩) (by decide) a c hls _ (fun w hw => ⟨hw.1.1, hw.1.2.ls⟩)) ?_
    exact wZ
  | cop h hkv hl h1 h2 h3 =>
   rename_i x a c k l
   refine factC (xs := [.agg #[.int .i64 17, .string (bs x), .int .i64 0, .slice a (k :: l).length c]]) hm Tryz.func46 (by kernel_rfl) rfl rfl ?_
   refine wX ?_
   refine call1 (callop_c ih h hkv hl h1 h2 h3 hN hk _ (fun w hw => hw.1)) ?_
   exact wZ
  | cset h ho he hkv hq =>
   rename_i x a c k q
   refine factC (xs := [.agg #[.int .i64 17, .string (bs x), .int .i64 0, .slice a 2 c]]) hm Tryz.func46 (by kernel_rfl) rfl rfl ?_
   refine wX ?_
   refine call1 (callset_c ih h ho he hkv hq hN hk _ (fun w hw => hw.1)) ?_
   exact wZ
  | call h ho he hn hkv hl hb h1 =>
   rename_i x n a c k l b
   refine factC (xs := [.agg #[.int .i64 17, .string (bs x), .int .i64 n, .slice a (k :: (l ++ b)).length c]]) hm Tryz.func46 (by kernel_rfl) rfl rfl ?_
   refine wX ?_
   refine call1 (callx_c ih h ho he hn hkv hl hb h1 hN hk _ (fun w hw => hw.1)) ?_
   exact wZ
  | fcall h hl hb h1 =>
   rename_i x a c l b
   have hxl : x.length ≤ 1048576 := hxl
   refine valid_nm rfl rfl ?_
   refine factC (xs := [.agg #[.int .i64 18, .string (bs x), .int .i64 0, .slice a (l ++ b).length c]]) hm Tryz.func68 (by kernel_rfl) rfl rfl ?_
   refine wX ?_
   refine call1 (IsName_c x (by omega) _ (fun w hw => hw.1.1)) ?_
   rw [show (inB x && !kwB x) = true from h]
   refine wX ?_
   refine call1 (called_c ih (l := l) (b := b) (fun k hk => ⟨(hin k (by simp [hk])).1, hl k hk⟩) (fun k hk => ⟨(hin k (by simp [hk])).1, hb k hk⟩) h1 a c hls _ (fun w hw => ⟨hw.1.1, hw.1.2.ls⟩)) ?_
   exact wZ
  | super hl hb h1 =>
   rename_i a c l b
   refine valid_ot rfl rfl rfl rfl ?_
   refine factC (xs := [.agg #[.int .i64 19, .string (bs []), .int .i64 0, .slice a (l ++ b).length c]]) hm Tryz.func93 (by kernel_rfl) rfl rfl ?_
   refine wX ?_
   refine call1 (called_c ih (l := l) (b := b) (fun k hk => ⟨(hin k (by simp [hk])).1, hl k hk⟩) (fun k hk => ⟨(hin k (by simp [hk])).1, hb k hk⟩) h1 a c hls _ (fun w hw => ⟨hw.1.1, hw.1.2.ls⟩)) ?_
   exact wZ
  | zsup =>
   rename_i a c
   refine valid_ot rfl rfl rfl rfl ?_
   refine factC (xs := [.agg #[.int .i64 20, .string (bs []), .int .i64 0, .slice a 0 c]]) hm Tryz.func93 (by kernel_rfl) rfl rfl ?_
   refine wX ?_
   refine call1 (cut_c ih (l := []) (b := []) (fun k hk => by cases hk) (fun k hk => by cases hk) (by decide) a c hls _ (fun w hw => ⟨hw.1.1, hw.1.2.ls⟩)) ?_
   refine wX ?_
   refine call1 (leaf_c (⟨20, [], 0, a, [], c⟩ : TP) rfl _) ?_
   exact wZ
  | lam hl hp hsv hso =>
   rename_i a c l s
   refine valid_ot rfl rfl rfl rfl ?_
   refine factC (xs := [.agg #[.int .i64 25, .string (bs []), .int .i64 0, .slice a (l ++ [s]).length c]]) hm Tryz.func93 (by kernel_rfl) rfl rfl ?_
   refine wX ?_
   refine call1 (body_c ih (l := l) (s := s) (fun k hk => ⟨(hin k (by simp [hk])).1, hl k hk⟩) hp (hin s (by simp)).1 hsv hso a c hls _ (fun w hw => ⟨hw.1.1, hw.1.2.ls⟩)) ?_
   exact wZ
  | seq h =>
   rename_i a c l
   refine valid_ot rfl rfl rfl rfl ?_
   refine factC (xs := [.agg #[.int .i64 26, .string (bs []), .int .i64 0, .slice a l.length c]]) hm Tryz.func93 (by kernel_rfl) rfl rfl ?_
   refine wX ?_
   refine call1 (exprs_c ih (l := l) (fun k hk => ⟨(hin k hk).1, h k hk⟩) a c hls _ (fun w hw => ⟨hw.1.1, hw.1.2.ls⟩)) ?_
   exact wZ
  | iff hkv hsv hso hqv hqo =>
   rename_i a c k s q
   refine valid_ot rfl rfl rfl rfl ?_
   refine factC (xs := [.agg #[.int .i64 27, .string (bs []), .int .i64 0, .slice a 3 c]]) hm Tryz.func93 (by kernel_rfl) rfl rfl ?_
   refine wX ?_
   refine call1 (shaped_c ih [101, 115, 115] ([k, s, q]) (⟨⟨(hin k (by simp)).1, hkv, .inl rfl⟩, ⟨(hin s (by simp)).1, hsv, .inr ⟨rfl, hso⟩⟩, ⟨(hin q (by simp)).1, hqv, .inr ⟨rfl, hqo⟩⟩, trivial⟩) (by decide) a c hls _ (fun w hw => ⟨hw.1.1, hw.1.2.ls⟩)) ?_
   exact wZ
  | whil ho hkv hsv hso =>
   rename_i o a c k s
   rcases ho with rfl | rfl
   ·refine valid_ot rfl rfl rfl rfl ?_
    refine factC (xs := [.agg #[.int .i64 28, .string (bs []), .int .i64 0, .slice a 2 c]]) hm Tryz.func93 (by kernel_rfl) rfl rfl ?_
    refine wX ?_
    refine call1 (shaped_c ih [101, 115] ([k, s]) (⟨⟨(hin k (by simp)).1, hkv, .inl rfl⟩, ⟨(hin s (by simp)).1, hsv, .inr ⟨rfl, hso⟩⟩, trivial⟩) (by decide) a c hls _ (fun w hw => ⟨hw.1.1, hw.1.2.ls⟩)) ?_
    exact wZ
   ·refine valid_ot rfl rfl rfl rfl ?_
    refine factC (xs := [.agg #[.int .i64 34, .string (bs []), .int .i64 0, .slice a 2 c]]) hm Tryz.func93 (by kernel_rfl) rfl rfl ?_
    refine wX ?_
    refine call1 (shaped_c ih [101, 115] ([k, s]) (⟨⟨(hin k (by simp)).1, hkv, .inl rfl⟩, ⟨(hin s (by simp)).1, hsv, .inr ⟨rfl, hso⟩⟩, trivial⟩) (by decide) a c hls _ (fun w hw => ⟨hw.1.1, hw.1.2.ls⟩)) ?_
    exact wZ
  | and ho hkv hqv =>
   rename_i o a c k q
   rcases ho with rfl | rfl
   ·refine valid_ot rfl rfl rfl rfl ?_
    refine factC (xs := [.agg #[.int .i64 29, .string (bs []), .int .i64 0, .slice a 2 c]]) hm Tryz.func93 (by kernel_rfl) rfl rfl ?_
    refine wX ?_
    refine call1 (shaped_c ih [101, 101] ([k, q]) (⟨⟨(hin k (by simp)).1, hkv, .inl rfl⟩, ⟨(hin q (by simp)).1, hqv, .inl rfl⟩, trivial⟩) (by decide) a c hls _ (fun w hw => ⟨hw.1.1, hw.1.2.ls⟩)) ?_
    exact wZ
   ·refine valid_ot rfl rfl rfl rfl ?_
    refine factC (xs := [.agg #[.int .i64 30, .string (bs []), .int .i64 0, .slice a 2 c]]) hm Tryz.func93 (by kernel_rfl) rfl rfl ?_
    refine wX ?_
    refine call1 (shaped_c ih [101, 101] ([k, q]) (⟨⟨(hin k (by simp)).1, hkv, .inl rfl⟩, ⟨(hin q (by simp)).1, hqv, .inl rfl⟩, trivial⟩) (by decide) a c hls _ (fun w hw => ⟨hw.1.1, hw.1.2.ls⟩)) ?_
    exact wZ
  | not hkv =>
   rename_i a c k
   refine valid_ot rfl rfl rfl rfl ?_
   refine factC (xs := [.agg #[.int .i64 31, .string (bs []), .int .i64 0, .slice a 1 c]]) hm Tryz.func93 (by kernel_rfl) rfl rfl ?_
   refine wX ?_
   refine call1 (shaped_c ih [101] ([k]) (⟨⟨(hin k (by simp)).1, hkv, .inl rfl⟩, trivial⟩) (by decide) a c hls _ (fun w hw => ⟨hw.1.1, hw.1.2.ls⟩)) ?_
   exact wZ
  | cls0 h hsv hso =>
   rename_i x a c s
   have hxl : x.length ≤ 1048576 := hxl
   refine factC (xs := [.agg #[.int .i64 32, .string (bs x), .int .i64 0, .slice a 1 c]]) hm Tryz.func46 (by kernel_rfl) rfl rfl ?_
   refine wX ?_
   refine call1 (IsConst_c x (by omega) _) ?_
   rw [h]
   refine wX ?_
   refine call1 (shaped_c ih [115] ([s]) (⟨⟨(hin s (by simp)).1, hsv, .inr ⟨rfl, hso⟩⟩, trivial⟩) (by decide) a c hls _ (fun w hw => ⟨hw.1.1, hw.1.2.ls⟩)) ?_
   exact wZ
  | cls1 h hkv hsv hso =>
   rename_i x a c k s
   have hxl : x.length ≤ 1048576 := hxl
   refine factC (xs := [.agg #[.int .i64 32, .string (bs x), .int .i64 1, .slice a 2 c]]) hm Tryz.func46 (by kernel_rfl) rfl rfl ?_
   refine wX ?_
   refine call1 (IsConst_c x (by omega) _) ?_
   rw [h]
   refine wX ?_
   refine call1 (shaped_c ih [101, 115] ([k, s]) (⟨⟨(hin k (by simp)).1, hkv, .inl rfl⟩, ⟨(hin s (by simp)).1, hsv, .inr ⟨rfl, hso⟩⟩, trivial⟩) (by decide) a c hls _ (fun w hw => ⟨hw.1.1, hw.1.2.ls⟩)) ?_
   exact wZ
  | modu h hsv hso =>
   rename_i x a c s
   have hxl : x.length ≤ 1048576 := hxl
   refine valid_nm rfl rfl ?_
   refine factC (xs := [.agg #[.int .i64 33, .string (bs x), .int .i64 0, .slice a 1 c]]) hm Tryz.func68 (by kernel_rfl) rfl rfl ?_
   refine wX ?_
   refine call1 (IsConst_c x (by omega) _) ?_
   rw [h]
   refine wX ?_
   refine call1 (shaped_c ih [115] ([s]) (⟨⟨(hin s (by simp)).1, hsv, .inr ⟨rfl, hso⟩⟩, trivial⟩) (by decide) a c hls _ (fun w hw => ⟨hw.1.1, hw.1.2.ls⟩)) ?_
   exact wZ
  | dfn h hn hl hp hsv hso =>
   rename_i x n a c l s
   have hxl : x.length ≤ 1048576 := hxl
   rcases hn with rfl | rfl
   ·-- a node's kind, name, number, length of kids: 35 x 0 (l ++ [s]).length
    refine factC (xs := [.agg #[.int .i64 35, .string (bs x), .int .i64 0, .slice a (l ++ [s]).length c]]) hm Tryz.func46 (by kernel_rfl) rfl rfl ?_
    refine wX ?_
    refine call1 (IsMethod_c x (by omega) _ (fun w hw => hw.1.1)) ?_
    rw [show (opL.contains x || inB x || setB x) = true from h]
    refine wX ?_
    refine call1 (body_c ih (l := l) (s := s) (fun k hk => ⟨(hin k (by simp [hk])).1, hl k hk⟩) hp (hin s (by simp)).1 hsv hso a c hls _ (fun w hw => ⟨hw.1.1, hw.1.2.ls⟩)) ?_
    exact wZ
   ·-- a node's kind, name, number, length of kids: 35 x 1 (l ++ [s]).length
    refine factC (xs := [.agg #[.int .i64 35, .string (bs x), .int .i64 1, .slice a (l ++ [s]).length c]]) hm Tryz.func46 (by kernel_rfl) rfl rfl ?_
    refine wX ?_
    refine call1 (IsMethod_c x (by omega) _ (fun w hw => hw.1.1)) ?_
    rw [show (opL.contains x || inB x || setB x) = true from h]
    refine wX ?_
    refine call1 (body_c ih (l := l) (s := s) (fun k hk => ⟨(hin k (by simp [hk])).1, hl k hk⟩) hp (hin s (by simp)).1 hsv hso a c hls _ (fun w hw => ⟨hw.1.1, hw.1.2.ls⟩)) ?_
    exact wZ
  | ret ho h1 h =>
   rename_i o a c l
   have hd : decide ((l.length : Int) ≤ 1) = true := by rw [decide_eq_true_iff]; omega
   rcases ho with rfl | rfl | rfl
   ·refine valid_ot rfl rfl rfl rfl ?_
    refine factC (xs := [.agg #[.int .i64 36, .string (bs []), .int .i64 0, .slice a l.length c]]) hm Tryz.func93 (by kernel_rfl) rfl rfl ?_
    refine wX ?_
    rw [hd]
    refine wX ?_
    refine call1 (exprs_c ih (l := l) (fun k hk => ⟨(hin k hk).1, h k hk⟩) a c hls _ (fun w hw => ⟨hw.1.1, hw.1.2.ls⟩)) ?_
    exact wZ
   ·refine valid_ot rfl rfl rfl rfl ?_
    refine factC (xs := [.agg #[.int .i64 37, .string (bs []), .int .i64 0, .slice a l.length c]]) hm Tryz.func93 (by kernel_rfl) rfl rfl ?_
    refine wX ?_
    rw [hd]
    refine wX ?_
    refine call1 (exprs_c ih (l := l) (fun k hk => ⟨(hin k hk).1, h k hk⟩) a c hls _ (fun w hw => ⟨hw.1.1, hw.1.2.ls⟩)) ?_
    exact wZ
   ·refine valid_ot rfl rfl rfl rfl ?_
    refine factC (xs := [.agg #[.int .i64 38, .string (bs []), .int .i64 0, .slice a l.length c]]) hm Tryz.func93 (by kernel_rfl) rfl rfl ?_
    refine wX ?_
    rw [hd]
    refine wX ?_
    refine call1 (exprs_c ih (l := l) (fun k hk => ⟨(hin k hk).1, h k hk⟩) a c hls _ (fun w hw => ⟨hw.1.1, hw.1.2.ls⟩)) ?_
    exact wZ
  | begin hsv hso hl he h1 h2 =>
   rename_i a c s l e
   refine valid_ot rfl rfl rfl rfl ?_
   refine factC (xs := [.agg #[.int .i64 40, .string (bs []), .int .i64 0, .slice a (s :: (l ++ e)).length c]]) hm Tryz.func93 (by kernel_rfl) rfl rfl ?_
   refine wX ?_
   refine call1 (begin_c ih (s := s) (rs := l) (es := e) (hin s (by simp)).1 hsv hso (fun k hk => ⟨(hin k (by simp [hk])).1, hl k hk⟩) (fun k hk => ⟨(hin k (by simp [hk])).1, he k hk⟩) h1 h2 a c hls _ (fun w hw => ⟨hw.1.1, hw.1.2.ls⟩)) ?_
   exact wZ
  | alias h hy =>
   rename_i x y a c ay cy
   have hxl : x.length ≤ 1048576 := hxl
   have hyl : y.length ≤ 1048576 := (hin ⟨6, y, 0, ay, [], cy⟩ (by simp)).2.str
   have hsa : a.isSome = true := kid_some (i := 0) hk rfl
   refine valid_nm rfl rfl ?_
   refine factC (xs := [.agg #[.int .i64 43, .string (bs x), .int .i64 0, .slice a 1 c]]) hm Tryz.func68 (by kernel_rfl) rfl rfl ?_
   refine wX ?_
   refine call1 (IsMethod_c x (by omega) _ (fun w hw => hw.1.1)) ?_
   rw [show (opL.contains x || inB x || setB x) = true from h]
   refine wX ?_
   refine call1 (shaped_c ih [101] ([⟨6, y, 0, ay, [], cy⟩]) (⟨⟨(hin ⟨6, y, 0, ay, [], cy⟩ (by simp)).1, .sym (.inl hy), .inl rfl⟩, trivial⟩) (by decide) a c hls _ (fun w hw => ⟨hw.1.1, hw.1.2.ls⟩)) ?_
   refine wX ?_
   refine Nd.mk ⟨hsa, by decide, by decide⟩ ?_
   refine wX ?_
   refine LdN.fld (a := a) (q := 0) (.int .i64 6) rfl (fun w hw => hw.1.2.row) rfl ?_
   refine wX ?_
   refine Nd.mk ⟨hsa, by decide, by decide⟩ ?_
   refine wX ?_
   refine LdN.fld (a := a) (q := 0) (.string (bs y)) rfl (fun w hw => hw.1.2.row) rfl ?_
   refine wX ?_
   refine call1 (IsMethod_c y (by omega) _ (fun w hw => hw.1.1)) ?_
   rw [show (opL.contains y || inB y || setB y) = true from hy]
   exact wZ
  | undef h =>
   rename_i x a c
   have hxl : x.length ≤ 1048576 := hxl
   refine valid_nm rfl rfl ?_
   refine factC (xs := [.agg #[.int .i64 44, .string (bs x), .int .i64 0, .slice a 0 c]]) hm Tryz.func68 (by kernel_rfl) rfl rfl ?_
   refine wX ?_
   refine call1 (leaf_c (⟨44, x, 0, a, [], c⟩ : TP) rfl _) ?_
   refine wX ?_
   refine call1 (IsMethod_c x (by omega) _ (fun w hw => hw.1.1)) ?_
   rw [show (opL.contains x || inB x || setB x) = true from h]
   exact wZ
  | cas hn hkv hl h1 he h2 =>
   rename_i d n a c k l e
   refine factC (xs := [.agg #[.int .i64 46, .string (bs []), .int .i64 n, .slice a (k :: (l ++ e)).length c]]) hm Tryz.func46 (by kernel_rfl) rfl rfl ?_
   refine wX ?_
   refine call1 (cases_c ih d n hn hkv hl h1 he h2 hN hk _ (fun w hw => hw.1)) ?_
   exact wZ
set_option maxHeartbeats 4000000 in
theorem use_c {t : TP} (hk : TreeK t) (hv : V .use t) : Yes 79 t := by
 cases hv with
 | use hkv hp =>
  rename_i a c k
  have hks := (hk.kid (k := k) (List.mem_singleton.2 rfl))
  have hsa : a.isSome = true := kid_some (i := 0) hk rfl
  refine factC (xs := [.agg #[.int .i64 45, .string (bs []), .int .i64 0, .slice a 1 c]]) hm Tryz.func79 (by kernel_rfl) rfl rfl ?_
  refine wX ?_
  refine call1 (Expr_c 45 (by unfold exOp; decide) _) ?_
  refine wX ?_
  refine call1 (valid_ot (t := ⟨45, [], 0, a, [k], c⟩) rfl rfl rfl rfl ?_ _ (fun w hw => hw.1)) ?_
  ·-- .. in other: 45 1
   refine factC (xs := [.agg #[.int .i64 45, .string (bs []), .int .i64 0, .slice a 1 c]]) hm Tryz.func93 (by kernel_rfl) rfl rfl ?_
   refine wX ?_
   refine call1 (shaped_c (valid_c (k.sz + 1)) [101] [k] ⟨⟨by omega, hkv, .inl rfl⟩, trivial⟩ (by decide) a c hk.ls _ (fun w hw => ⟨hw.1.1, hw.1.2.ls⟩)) ?_
   refine wX ?_
   refine Nd.mk ⟨hsa, by decide, by decide⟩ ?_
   refine wX ?_
   refine LdN.agg (a := a) (q := 0) (nodeC k) rfl (fun w hw => hw.1.2.row) rfl (fun j hj => nodesC_get [k] 0 j hj rfl) ?_
   refine wX ?_
   refine call1 (isPath_c k hp hks _ (fun w hw => hw.1.2.kid (List.mem_singleton.2 rfl))) ?_
   exact wZ
  ·exact wZ
set_option maxHeartbeats 4000000 in
theorem top_c {t : TP} (hk : TreeK t) (hv : V .top t) : Yes 20 t := by
 cases hv with
 | top h hu =>
  rename_i a c l
  have hkid : ∀ k ∈ l, Yes 79 k := fun k hkm => by
   by_cases ho : k.op = 45
   ·exact use_c (hk.kid hkm) (hu k hkm ho)
   ·exact expr_c (valid_c (k.sz + 1)) (Nat.lt_succ_self _) (hk.kid hkm) (h k hkm ho)
  have hval : Yes 46 ⟨26, [], 0, a, l, c⟩ := by
   refine valid_ot rfl rfl rfl rfl ?_
   refine factC (xs := [.agg #[.int .i64 26, .string (bs []), .int .i64 0, .slice a l.length c]]) hm Tryz.func93 (by kernel_rfl) rfl rfl ?_
   refine wX ?_
   refine call1 (?_ : SpecH Tryz.prog 83 (pvs [.slice a l.length c]) _ (Ret (.bool true) _)) ?_
   ·refine factC hm Tryz.func83 (by kernel_rfl) rfl rfl ?_ _ (fun w hw => (hw.1 : ScanF w ∧ TreeF w ⟨26, [], 0, a, l, c⟩))
    refine wX ?_
    refine call1 (NoFn_c 117 #[] a l c (fun _ => True) hk.ls (fun k hkm => ?_) _ (fun w hw => ⟨hw.1.1, hw.1.2.ls, trivial⟩)) ?_
    ·refine factC (xs := [nodeV k]) hm Tryz.func117 (by kernel_rfl) rfl rfl ?_
     refine wX ?_
     refine call1 (hkid k hkm _ (fun w hw => ⟨hw.1.1, hw.1.2.1⟩)) ?_
     refine wX ?_
     rfl
    ·refine wX ?_
     rfl
   ·exact wZ
  refine factC (xs := [.agg #[.int .i64 26, .string (bs []), .int .i64 0, .slice a l.length c]]) hm Tryz.func20 (by kernel_rfl) rfl rfl ?_
  refine wX ?_
  refine call1 (hval _ (fun w hw => hw.1)) ?_
  exact wZ
end Go.Proofs.YtpikpjlhdkkigaaGreatDoor
namespace Go.AX
theorem swT {H : List Ent} (i j : Nat) (hi : isA (nthE H i) = true) (hj : isA (nthE H j) = true) (hne : Nat.beq i j = false) : TurnS H (swE H i j) := by
 refine ⟨?_, fun ρ S w hs => ⟨S, hs.swE hi hj hne⟩⟩
 unfold swE
 split <;> simp
end Go.AX
namespace Go.Proofs.YtpikpjlhdkkigaaGreatDoor
open Go.AX Go.RowKit Go.Tree Go.Scan
set_option maxRecDepth 20000
def stN : RvS := ⟨[], [], false, none, 0, none, 0⟩
theorem stN_ok : RvOk stN 0 := ⟨fun d h => (by cases h), Nat.le_refl _, fun _ => rfl, Nat.le_refl _, Nat.le_refl _, fun _ => rfl, Nat.le_refl _, fun d h => (by cases h), by decide⟩
abbrev whole (t : TP) : WR := wk t [0] [[]]
structure ReI where
 rb : Nat
 st : RvS
structure Resd (t : TP) (st : RvS) : Prop where
 ok : RvOk st (1 + 2 * t.sz)
 nm : nmS st.sc = (whole t).nm
 pl : st.pl = (whole t).pl
 un : st.un = (whole t).un
set_option maxHeartbeats 4000000 in
theorem resolve_c (t : TP) (ht : TreeK t) (hz : t.sz ≤ 40000) (A : World → Prop) (hA : ∀ w, A w → TreeF w t) :
  SpecH Tryz.prog 18 (pvs [nodeV t]) [.fact A] (RetG (ι := ReI) (fun i => Resd t i.st) (fun i => .pointer (some ⟨i.rb, 0, none⟩)) fun i => rvE A i.rb i.st) := by
 refine SpecH.pad [.app 56 3 [] none 0 0, .app 59 1 [] none 0 0, .app 35 2 [] none 0 0, .dead, .dead] rfl (SpecH.turnS (famNew 4 rfl).s (SpecH.turnS (famNew 5 rfl).s ?_))
 refine ownT hm Tryz.func18 (by kernel_rfl) rfl rfl (fun _ _ => okHB_eq rfl) (fun _ _ => Nat.le_of_ble_eq_true rfl) ?_
 (conv => whnf)
 refine BoxN.known (nodeC t) rfl fun nb => ?_
 (conv => whnf)
 refine BoxN.known [.slice none 0 0, .slice none 0 0, .bool false] rfl fun rb => ?_
 ((conv => whnf); (repeat ((first | refine VrN.keep ?_ | refine BoxN.own ?_ | refine RwN.own ?_); (conv => whnf))))
 refine DrawN.planC (fun w => SlAt (some ⟨nb, 0, none⟩) 4 (nodeC t) w) [0, 2] [(1, 1), (3, 0), (4, 0)] [] (by decide +kernel) (fun w hw => hw.2.2.2.2.2.2.1) ?_
 refine wXO ?_
 refine ReadC.agg (a := some ⟨nb, 0, none⟩) (q := 0) (nodeC t) rfl rfl rfl (fun w hw => hw) rfl (fun j hj => by rw [Nat.zero_add]) ?_
 refine wXO ?_
 refine callG (open_c A rb stN stN_ok none) [0, 7, 2, 3, 4, 5] rfl ⟨rfl, rfl, rfl, rfl, rfl, rfl, trivial⟩ rfl fun j hj => ?_
 obtain ⟨b, sb, c⟩ := j
 refine wXO ?_
 refine callG (walk_c t ht A hA rb (opened stN b none sb c) 1 [0] (some b) (stN_ok.opened (by decide) hj) (by omega) ⟨⟨b, none, 0, none, []⟩, rfl, rfl, rfl⟩ (by simp)) [0, 7, 2, 3, 4, 5] rfl ⟨rfl, rfl, rfl, rfl, rfl, rfl, trivial⟩ rfl fun st1 w1 => ?_
 refine wXO ?_
 refine wX ?_
 refine ⟨_, swT 1 7 rfl rfl rfl, ⟨rb, st1⟩, ⟨w1.ok, w1.nm, w1.pl, ?_⟩, rfl, ?_⟩
 ·rw [w1.un]
  rfl
 ·exact ⟨wkE_refl _, wkE_refl _, wkE_refl _, wkE_refl _, wkE_refl _, wkE_refl _, wkH_nil _⟩
end Go.Proofs.YtpikpjlhdkkigaaGreatDoor
namespace Go.Proofs.YtpikpjlhdkkigaaGreatDoor
open Go.AX Go.RowKit Go.Tree Go.Scan
set_option maxRecDepth 20000
noncomputable def chkV (t : TP) : Int := open Classical in if Fit 3000 1 [t] then (if (whole t).un then 6 else 0) else 2
set_option maxHeartbeats 4000000 in
theorem Check_c (t : TP) (ht : TreeK t) (hv : Fit 3000 1 [t] → V .top t) : ∀ H, (∀ w, Facts H w → ScanF w ∧ TreeF w t) → SpecH Tryz.prog 10 (pvs [nodeV t]) H (Ret (.int .i64 (chkV t)) H) := by
 refine factC hm Tryz.func10 (by kernel_rfl) rfl rfl ?_
 have hs1 : szs [t] = t.sz := by simp [szs]
 have hkl := ht.len
 (conv => whnf)
 refine BoxN.own ?_
 (conv => whnf)
 refine BoxN.known [.int .i64 0] rfl fun lb => ?_
 refine wX ?_
 refine EffW.appTo (i := 2) (q := 0) (ys := [_]) [.int .i64 3000] 1 rfl rfl rfl rfl rfl rfl rfl (Nat.le_of_ble_eq_true rfl) rfl rfl ?_
 refine wX ?_
 refine callG (small_c t ht lb 3000 1 ⟨by decide, by decide⟩ ⟨by decide, by decide⟩ (fun w => ScanF w ∧ TreeF w t) (fun w hw => hw.2)) [0, 2] rfl ⟨rfl, rfl, trivial⟩ rfl fun i hi => ?_
 obtain ⟨b, z⟩ := i
 obtain ⟨h1, _, _, _⟩ := hi
 cases b with
 | false =>
  have hnf : ¬ Fit 3000 1 [t] := fun h => by cases h1.2 h
  refine wX ?_
  rw [chkV, if_neg hnf]
 | true =>
  have hf : Fit 3000 1 [t] := h1.1 rfl
  have hvt := hv hf
  have hz : (szs [t] : Int) ≤ 3000 := hf.1
  refine wX ?_
  refine call1 (top_c ht hvt _ (fun w hw => hw.1)) ?_
  refine wX ?_
  have hfl : ∀ l : List TP, (l.filter fun k => k.op == 45).length ≤ l.length := fun l => List.length_filter_le _ _
  refine LoopN.intro Nat (fun i => i ≤ t.kids.length)
   (fun i => mkS Tryz.f10.ntmps 0 [(1, .c (.lp 1 0)), (2, .c (.v (.int .i64 0))), (4, .c (.v (.int .i64 (((t.kids.take i).filter fun k => k.op == 45).length : Int)))), (15, .c (.v (.slice t.a t.kids.length t.cap))), (16, .c (.v (.int .i64 (t.kids.length : Int)))), (17, .c (.v (.int .i64 (i : Int))))])
   (fun _ => [.fact (fun w => ScanF w ∧ TreeF w t), .blk 25 (vs (nodeC t)), .dead]) (fun i => t.kids.length - i) [] rfl (fun _ => rfl) (fun _ => rfl) (fun _ _ => okHB_eq rfl)
   ⟨0, Nat.zero_le _, ?_, ⟨fun _ h => h, wkE_refl _, trivial, wkH_nil _⟩⟩ ?_
  ·exact wKK
  intro i hi
  have hti := hfl (t.kids.take i)
  have htl : (t.kids.take i).length ≤ t.kids.length := by rw [List.length_take]; omega
  refine wX ?_
  refine brd_dec (fun h2 => ?_) (fun h2 => ?_)
  ·obtain ⟨k, hk⟩ : ∃ k, t.kids[i]? = some k := ⟨_, List.getElem?_eq_getElem (by omega)⟩
   have hsa := kid_some ht hk
   refine wX ?_
   refine Nd.mk ⟨hsa, by omega, by omega⟩ ?_
   refine wX ?_
   refine LdN.agg (nodeC k) rfl (fun w hw => hw.1.2.row) rfl (fun j hj => by rw [Int.toNat_natCast]; exact nodesC_get t.kids i j hj hk) ?_
   refine wX ?_
   have hfs : ((t.kids.take (i + 1)).filter fun k => k.op == 45) = ((t.kids.take i).filter fun k => k.op == 45) ++ (if k.op = 45 then [k] else []) := by
    rw [take_snoc hk, List.filter_append]
    by_cases h : k.op = 45 <;> simp [h]
   refine brd_eq (fun h3 => ?_) (fun h3 => ?_)
   ·rw [if_pos h3] at hfs
    refine wX ?_
    refine ⟨i + 1, by omega, by show t.kids.length - (i + 1) < t.kids.length - i; omega, ?_, ?_⟩
    ·(repeat' (first | exact trivial | refine And.intro (by with_reducible rfl) ?_ | (with_reducible exact wkC_refl _) | (with_reducible exact wkCs_refl _) | refine And.intro ?_ ?_))
     all_goals first | rfl | exact av_int (by rw [hfs, List.length_append]; rfl) | exact av_int (by rw [wrap_i64 (by omega)]; omega)
    ·exact ⟨fun _ h => h, wkE_refl _, trivial, wkH_nil _⟩
   ·rw [if_neg h3, List.append_nil] at hfs
    refine wX ?_
    refine ⟨i + 1, by omega, by show t.kids.length - (i + 1) < t.kids.length - i; omega, ?_, ?_⟩
    ·(repeat' (first | exact trivial | refine And.intro (by with_reducible rfl) ?_ | (with_reducible exact wkC_refl _) | (with_reducible exact wkCs_refl _) | refine And.intro ?_ ?_))
     all_goals first | rfl | exact av_int (by rw [hfs]) | exact av_int (by rw [wrap_i64 (by omega)]; omega)
    ·exact ⟨fun _ h => h, wkE_refl _, trivial, wkH_nil _⟩
  ·have hie : i = t.kids.length := by omega
   rw [hie, List.take_length, ← hvt.top_us]
   refine wX ?_
   refine call1 (usings_c t ht (by omega) _ (fun w hw => hw.1.2)) ?_
   refine wX ?_
   refine brd_ne (fun h => absurd rfl h) (fun _ => ?_)
   refine wX ?_
   refine callG (resolve_c t ht (by omega) (fun w => ScanF w ∧ TreeF w t) (fun w h => h.2)) [0] rfl ⟨rfl, trivial⟩ rfl fun j hj => ?_
   obtain ⟨rb, st⟩ := j
   have hu := hj.un
   refine wX ?_
   refine LdN.one (a := some ⟨rb, 0, none⟩) (q := 2) (.bool st.un) rfl (fun w hw => hw.2.1) rfl ?_
   refine wX ?_
   have hv6 : chkV t = if st.un then 6 else 0 := by rw [chkV, if_pos hf, ← hu]
   refine brd_intro (fun h6 => ?_) (fun h6 => ?_)
   ·rw [h6] at hv6
    refine wX ?_
    rw [hv6]
    rfl
   ·rw [h6] at hv6
    refine wX ?_
    rw [hv6]
    rfl
def slV (d : ScD) : Value := .slice (at0 d.na) d.l.length d.nc
def slsC (sc : List ScD) : List Value := sc.map slV
abbrev TrF (t : TP) (w : World) : Prop := ScanF w ∧ TreeF w t
def ScopesR (t : TP) (v : Value) (G : World → Prop) : Prop :=
 if chkV t = 0 then ∃ (sc : List ScD) (a : Option Addr) (cap : Nat), v = .tuple #[.slice a sc.length cap, .int .i64 0] ∧ nmS sc = (whole t).nm ∧ sc.length ≤ cap ∧ sc.length ≤ 100000 ∧ (∀ d ∈ sc, ScOk d) ∧ (a = none → sc = []) ∧ ∀ w, G w → SlAt a sc.length (slsC sc) w ∧ ∀ d ∈ sc, SlAt (at0 d.na) d.l.length (strsC d.l) w
 else v = .tuple #[.slice none 0 0, .int .i64 (chkV t)]
structure ScI where
 i : Nat
 a : Option Addr
 cap : Nat
set_option maxHeartbeats 4000000 in
theorem Scopes_c (t : TP) (ht : TreeK t) (hv : Fit 3000 1 [t] → V .top t) : SpecF Tryz.prog 7 [nodeV t] (TrF t) (ScopesR t) := by
 refine specF hm Tryz.func7 (by kernel_rfl) rfl rfl ?_
 refine wX ?_
 refine call1 (Check_c t ht hv _ (fun w hw => hw.1)) ?_
 refine wX ?_
 refine brd_ne (fun h => ?_) (fun h => ?_)
 ·refine wX ?_
  refine fin_v ?_
  show if chkV t = 0 then _ else _
  rw [if_neg h]
 have hf : Fit 3000 1 [t] := Classical.byContradiction fun hf => by
  unfold chkV at h
  rw [if_neg hf] at h
  cases h
 have hs1 : szs [t] = t.sz := by simp [szs]
 have hz : (szs [t] : Int) ≤ 3000 := hf.1
 refine wX ?_
 refine callG (resolve_c t ht (by omega) (TrF t) (fun w h => h.2)) [0] rfl ⟨rfl, trivial⟩ rfl fun j hj => ?_
 obtain ⟨rb, st⟩ := j
 have hnm : nmS st.sc = (whole t).nm := hj.nm
 have ok : RvOk st (1 + 2 * t.sz) := hj.ok
 refine wX ?_
 refine LdN.one (a := some ⟨rb, 0, none⟩) (q := 0) (.slice (at0 st.sa) st.sc.length st.scap) rfl (fun w hw => hw.2.1) rfl ?_
 refine wX ?_
 have hsm := ok.sm
 refine LoopN.intro ScI (fun ⟨i, a, cap⟩ => i ≤ st.sc.length ∧ i ≤ cap ∧ (a = none → i = 0))
  (fun ⟨i, a, cap⟩ => mkS Tryz.f7.ntmps 0 [(2, .c (.v (.slice none 0 0))), (3, .c (.v (.int .i64 0))), (5, .c (.v (.slice a i cap))), (17, .c (.v (.slice (at0 st.sa) st.sc.length st.scap))), (18, .c (.v (.int .i64 (st.sc.length : Int)))), (19, .c (.v (.int .i64 (i : Int))))])
  (fun ⟨i, a, cap⟩ => [.fact (TrF t), .dead, .dead, .app 59 1 (ptrsC st.sc) (at0 st.sa) st.sc.length st.scap, .dead, famE (rows1 0 st.sc), famE (rows2 st.sc), .app 36 1 (slsC (st.sc.take i)) a i cap])
  (fun ⟨i, _, _⟩ => st.sc.length - i) [.app 36 1 [] none 0 0] rfl (fun _ => rfl) (fun _ => rfl) (fun _ _ => okHB_eq rfl)
  ⟨⟨0, none, 0⟩, ⟨Nat.zero_le _, Nat.le_refl _, fun _ => rfl⟩, ?_, ⟨fun _ h => h, trivial, trivial, wkE_refl _, trivial, wkE_refl _, wkE_refl _, wkE_refl _, wkH_nil _⟩⟩ ?_
 ·exact wKK
 rintro ⟨i, a, cap⟩ ⟨hi, hic, hia⟩
 refine wX ?_
 refine brd_dec (fun h1 => ?_) (fun h1 => ?_)
 ·obtain ⟨d, hd⟩ : ∃ d, st.sc[i]? = some d := ⟨_, List.getElem?_eq_getElem (by omega)⟩
  have hsa : (at0 st.sa).isSome = true := by
   cases hs : st.sa with
   | none => rw [ok.sn hs] at hd; cases hd
   | some b => rfl
  refine wX ?_
  refine Nd.mk ⟨hsa, by omega, by omega⟩ ?_
  refine wX ?_
  refine LdN.one (.pointer (some ⟨d.b, 0, none⟩)) rfl (fun w hw => hw.2.1) (by rw [Int.toNat_natCast]; show (ptrsC st.sc)[i * 1]? = _; rw [Nat.mul_one, ptrsC, List.getElem?_map, hd]; rfl) ?_
  refine wX ?_
  refine LdN.one (a := some ⟨d.b, 0, none⟩) (q := 1) (slV d) rfl (fun w hw => (scF_of ok.sc hw.2.2.1 hw.2.2.2.1 i d hd).1) rfl ?_
  refine wX ?_
  refine Nd.mk ⟨Nat.le_refl 1, rfl, rfl⟩ ?_
  (conv => whnf)
  refine AppN.grow 7 (slsC (st.sc.take i)) [slV d] rfl rfl ⟨Nat.le_refl 1, ⟨by show (i + 1) * 24 ≤ _; omega, by omega⟩, by decide⟩ fun b' c' g1 g2 => ?_
  refine wX ?_
  have e1 : slsC (st.sc.take i) ++ [slV d] = slsC (st.sc.take (i + 1)) := by rw [take_snoc hd]; simp [slsC]
  rw [e1]
  refine ⟨⟨i + 1, some ⟨b', 0, none⟩, c'⟩, ⟨by omega, g1, (fun h => by cases h)⟩, by show st.sc.length - (i + 1) < st.sc.length - i; omega, ?_, ⟨fun _ h => h, trivial, trivial, wkE_refl _, trivial, wkE_refl _, wkE_refl _, wkE_refl _, wkH_nil _⟩⟩
  exact wKK
 ·have hie : i = st.sc.length := by omega
  rw [hie, List.take_length]
  refine wX ?_
  refine fin_p (fun w => SlAt a st.sc.length (slsC st.sc) w ∧ ∀ d ∈ st.sc, SlAt (at0 d.na) d.l.length (strsC d.l) w) ?_ fun w hw => ⟨by have := hw.2.2.2.2.1; simpa using this, fun d hd => ?_⟩
  ·show if chkV t = 0 then _ else _
   rw [if_pos h]
   exact ⟨st.sc, a, cap, rfl, hnm, by omega, by omega, ok.sc, fun h0 => List.length_eq_zero_iff.1 (by have := hia h0; omega), fun w hw => hw⟩
  ·obtain ⟨s, hs⟩ := List.getElem?_of_mem hd
   exact (scF_of ok.sc hw.2.2.1 hw.2.2.2.1 s d hs).2
def PlacesR (t : TP) (v : Value) (G : World → Prop) : Prop :=
 if chkV t = 0 then ∃ (a : Option Addr) (cap : Nat), v = .tuple #[.slice a (whole t).pl.length cap, .int .i64 0] ∧ (whole t).pl.length ≤ 100000 ∧ (a = none → (whole t).pl = []) ∧ ∀ w, G w → SlAt a ((whole t).pl.length * 2) (plsC (whole t).pl) w
 else v = .tuple #[.slice none 0 0, .int .i64 (chkV t)]
theorem Resolve_c (t : TP) (ht : TreeK t) (hv : Fit 3000 1 [t] → V .top t) : SpecF Tryz.prog 8 [nodeV t] (TrF t) (PlacesR t) := by
 refine specF hm Tryz.func8 (by kernel_rfl) rfl rfl ?_
 refine wX ?_
 refine call1 (Check_c t ht hv _ (fun w hw => hw.1)) ?_
 refine wX ?_
 refine brd_ne (fun h => ?_) (fun h => ?_)
 ·refine wX ?_
  refine fin_v ?_
  show if chkV t = 0 then _ else _
  rw [if_neg h]
 have hf : Fit 3000 1 [t] := Classical.byContradiction fun hf => by
  unfold chkV at h
  rw [if_neg hf] at h
  cases h
 have hs1 : szs [t] = t.sz := by simp [szs]
 have hz : (szs [t] : Int) ≤ 3000 := hf.1
 refine wX ?_
 refine callG (resolve_c t ht (by omega) (TrF t) (fun w h => h.2)) [0] rfl ⟨rfl, trivial⟩ rfl fun j hj => ?_
 obtain ⟨rb, st⟩ := j
 have hpl : st.pl = (whole t).pl := hj.pl
 have ok : RvOk st (1 + 2 * t.sz) := hj.ok
 have hpm := ok.pm
 refine wX ?_
 refine LdN.one (a := some ⟨rb, 0, none⟩) (q := 1) (.slice (at0 st.pa) st.pl.length st.pcap) rfl (fun w hw => hw.2.1) rfl ?_
 refine wX ?_
 refine fin_p (fun w => SlAt (at0 st.pa) (st.pl.length * 2) (plsC st.pl) w) ?_ fun w hw => hw.2.2.2.1
 show if chkV t = 0 then _ else _
 rw [if_pos h, ← hpl]
 exact ⟨at0 st.pa, st.pcap, rfl, by omega, fun h0 => ok.pn (by cases hs : st.pa with | none => rfl | some b => rw [hs] at h0; cases h0), fun w hw => hw⟩
abbrev xL : List UInt8 := [120]
def lcT : TP := ⟨10, xL, 0, none, [], 0⟩
def i1T : TP := ⟨4, [], 1, none, [], 0⟩
def seT (a : Nat) : TP := ⟨11, xL, 0, some ⟨a, 0, none⟩, [i1T], 1⟩
def t1T (a b : Nat) : TP := ⟨26, [], 0, some ⟨b, 0, none⟩, [seT a, lcT], 2⟩
def t2T (b : Nat) : TP := ⟨26, [], 0, some ⟨b, 0, none⟩, [lcT], 1⟩
theorem loX : loB xL = true := by decide +kernel
theorem kL : TreeK lcT := .mk (fun _ => rfl) (by decide) (by decide) (by decide) (fun k h => by cases h)
theorem kI : TreeK i1T := .mk (fun _ => rfl) (by decide) (by decide) (by decide) (fun k h => by cases h)
theorem one_mem {P : TP → Prop} {x : TP} (h : P x) : ∀ k ∈ [x], P k := fun k hk => by rw [List.mem_singleton.1 hk]; exact h
theorem two_mem {P : TP → Prop} {x y : TP} (h : P x) (g : P y) : ∀ k ∈ [x, y], P k := fun k hk => by
 rcases List.mem_cons.1 hk with rfl | hk
 ·exact h
 ·exact one_mem g k hk
theorem kS (a : Nat) : TreeK (seT a) := .mk (fun h => by cases h) (by show 1 ≤ _; decide) (by show 1 ≤ _; decide) (by show 1 ≤ 1; decide) (one_mem kI)
theorem k1 (a b : Nat) : TreeK (t1T a b) := .mk (fun h => by cases h) (by show 2 ≤ _; decide) (by show 0 ≤ _; decide) (by show 2 ≤ 2; decide) (two_mem (kS a) kL)
theorem k2 (b : Nat) : TreeK (t2T b) := .mk (fun h => by cases h) (by show 1 ≤ _; decide) (by show 0 ≤ _; decide) (by show 1 ≤ 1; decide) (one_mem kL)
theorem v1 (a b : Nat) : V .top (t1T a b) := .top (two_mem (fun _ => .setl loX (.int (by decide))) (fun _ => .loc loX)) (two_mem (fun h => absurd (show (11 : Int) = 45 from h) (by decide)) (fun h => absurd (show (10 : Int) = 45 from h) (by decide)))
theorem v2 (b : Nat) : V .top (t2T b) := .top (one_mem fun _ => .loc loX) (one_mem fun h => absurd (show (10 : Int) = 45 from h) (by decide))
theorem c1 (a b : Nat) : chkV (t1T a b) = 0 := by
 have hf : Fit 3000 1 [t1T a b] := ⟨by show ((4 : Nat) : Int) ≤ 3000; decide, one_mem (by show (1 : Int) + ((3 : Nat) : Int) ≤ 61; decide)⟩
 rw [chkV, if_pos hf]
 rfl
theorem c2 (b : Nat) : chkV (t2T b) = 6 := by
 have hf : Fit 3000 1 [t2T b] := ⟨by show ((2 : Nat) : Int) ≤ 3000; decide, one_mem (by show (1 : Int) + ((2 : Nat) : Int) ≤ 61; decide)⟩
 rw [chkV, if_pos hf]
 rfl
theorem n1 (a b : Nat) : (whole (t1T a b)).nm = [[xL]] := rfl
theorem f0 {w : World} {t : TP} (hk : TreeK t) (h : t.kids = []) : TreeF w t := .mk (by rw [h]; exact SlAt.nil) hk.len hk.str hk.cap (fun k hkk => by rw [h] at hkk; cases hkk)
theorem ft1 {a b : Nat} {w : World} (h1 : SlAt (some ⟨a, 0, none⟩) (1 * 4) (nodesC [i1T]) w) (h2 : SlAt (some ⟨b, 0, none⟩) (2 * 4) (nodesC [seT a, lcT]) w) : TreeF w (t1T a b) :=
 .mk h2 (k1 a b).len (k1 a b).str (k1 a b).cap (two_mem (.mk h1 (kS a).len (kS a).str (kS a).cap (one_mem (f0 kI rfl))) (f0 kL rfl))
theorem ft2 {b : Nat} {w : World} (h2 : SlAt (some ⟨b, 0, none⟩) (1 * 4) (nodesC [lcT]) w) : TreeF w (t2T b) :=
 .mk h2 (k2 b).len (k2 b).str (k2 b).cap (one_mem (f0 kL rfl))
def Sane15 : Prop := ∀ H, (∀ w, Facts H w → ScanF w) → SpecH Tryz.prog 9 (pvs []) H (Ret (.bool true) H)
set_option maxHeartbeats 4000000 in
theorem sane15_c : Sane15 := by
 refine factC hm Tryz.func9 (by kernel_rfl) rfl rfl ?_
 refine wXR ?_
 refine RwN.known (nodesC [i1T]) rfl fun ra => ?_
 refine wXR ?_
 refine RwN.known (nodesC [seT ra, lcT]) rfl fun rb => ?_
 refine wXR ?_
 refine SpecH.shut 2 rfl ?_
 (conv => whnf)
 refine SpecH.shut 4 rfl ?_
 (conv => whnf)
 refine SpecF.call (Scopes_c (t1T ra rb) (k1 ra rb) fun _ => v1 ra rb) (fun w hw => ⟨hw.1, ft1 hw.2.1 hw.2.2.1⟩) fun v G hR => ?_
 unfold ScopesR at hR
 rw [if_pos (c1 ra rb)] at hR
 obtain ⟨sc, a, cap, rfl, hnm, hlc, hl1, hok, hna, hG⟩ := hR
 obtain ⟨d, rfl, hd⟩ : ∃ d : ScD, sc = [d] ∧ d.l = [xL] := by
  rw [n1] at hnm
  cases sc with
  | nil => cases hnm
  | cons d r =>
   cases r with
   | nil => exact ⟨d, rfl, (List.cons.inj hnm).1⟩
   | cons e r => cases (List.cons.inj hnm).2
 have hsa : a.isSome = true := by
  cases a with
  | none => cases hna rfl
  | some b => rfl
 have hdo := hok d (List.mem_singleton.2 rfl)
 obtain ⟨db, dn, dc, dr, dl⟩ := d
 obtain rfl : dl = [xL] := hd
 have hda : (at0 dn).isSome = true := by
  cases dn with
  | none => cases (hdo.nil rfl).1
  | some b => rfl
 refine wXR ?_
 refine Nd.mk ⟨hsa, by decide, by show (0 : Int) < ((1 : Nat) : Int); decide⟩ ?_
 refine wXR ?_
 refine LdN.one (.slice (at0 dn) 1 dc) rfl (fun w hw => (hG w hw.2.2.2.1).1) rfl ?_
 refine wXR ?_
 refine Nd.mk ⟨hsa, by decide, by show (0 : Int) < ((1 : Nat) : Int); decide⟩ ?_
 refine wXR ?_
 refine LdN.one (.slice (at0 dn) 1 dc) rfl (fun w hw => (hG w hw.2.2.2.1).1) rfl ?_
 refine wXR ?_
 refine Nd.mk ⟨hda, by decide, by decide⟩ ?_
 refine wXR ?_
 refine LdN.one (.string (bs xL)) rfl (fun w hw => (hG w hw.2.2.2.1).2 _ (List.mem_singleton.2 rfl)) rfl ?_
 refine wXR ?_
 refine RwN.known (nodesC [lcT]) rfl fun rc => ?_
 refine wXR ?_
 refine call1 (Check_c (t2T rc) (k2 rc) (fun _ => v2 rc) _ (fun w hw => ⟨hw.1, ft2 hw.2.2.2.2.1⟩)) ?_
 rw [c2]
 refine wXR ?_
 rfl
structure GD where
 gb : Nat
 na : Option Addr
 nc : Nat
 l : List Int
def intG (l : List Int) : List Value := l.map (Value.int .i64)
def grC (g : GD) (p : Nat) (z : Int) : List Value := [.slice g.na g.l.length g.nc, .int .i64 (p : Int), .int .i64 z]
def grE (g : GD) (p : Nat) (z : Int) : Ent := .app 48 3 (grC g p z) (some ⟨g.gb, 0, none⟩) 1 1
abbrev gP (g : GD) : Value := .pointer (some ⟨g.gb, 0, none⟩)
structure GOk (g : GD) : Prop where
 len : g.l.length ≤ 200
 nil : g.na = none → g.l = []
def NumF (g : GD) (w : World) : Prop := SlAt g.na g.l.length (intG g.l) w
theorem intG_get {l : List Int} {i : Nat} {x : Int} (h : l[i]? = some x) : (intG l)[i]? = some (.int .i64 x) := by unfold intG; rw [List.getElem?_map, h]; rfl
theorem modN (x : Int) (n : Nat) (hn : 1 ≤ n ∧ n ≤ 1000) : ∃ d : Nat, IntKind.i64.wrap ((IntKind.u64.wrap x).tmod (IntKind.u64.wrap (n : Int))) = (d : Int) ∧ d < n := by
 have h := wrap_u64_bd x
 rw [wrap_u64 (x := (n : Int)) (by omega)]
 generalize IntKind.u64.wrap x = X at h ⊢
 have hx : X.tmod (n : Int) = X % (n : Int) := Int.tmod_eq_emod_of_nonneg (by omega)
 have h1 : 0 ≤ X % (n : Int) := Int.emod_nonneg _ (by omega)
 have h2 : X % (n : Int) < (n : Int) := Int.emod_lt_of_pos _ (by omega)
 refine ⟨(X % (n : Int)).toNat, ?_, by omega⟩
 rw [hx, wrap_i64 (by omega)]
 omega
abbrev PkI := Nat × Nat
def PkInv (g : GD) (p n : Nat) (i : PkI) : Prop := i.1 < n ∧ p ≤ i.2 ∧ i.2 ≤ g.l.length ∧ (i.1 ≠ 0 → p < i.2)
set_option maxHeartbeats 2000000 in
theorem pick_c (g : GD) (ok : GOk g) (p : Nat) (z : Int) (n : Nat) (hn : 1 ≤ n ∧ n ≤ 1000) (hp : p ≤ g.l.length) (A : World → Prop) (hA : ∀ w, A w → NumF g w) :
  SpecH Tryz.prog 15 (pvs [gP g, .int .i64 (n : Int)]) [.fact A, grE g p z]
   (RetG (ι := PkI) (PkInv g p n) (fun i => .int .i64 (i.1 : Int)) fun i => [.fact A, grE g i.2 z]) := by
 refine ownC hm Tryz.func15 (by kernel_rfl) rfl rfl (fun _ _ => okHB_eq rfl) (fun _ _ => Nat.le_of_ble_eq_true rfl) ?_
 have hlen := ok.len
 refine wX ?_
 refine LdN.one (a := some ⟨g.gb, 0, none⟩) (q := 1) (.int .i64 (p : Int)) rfl (fun w hw => hw.2.1) rfl ?_
 refine wX ?_
 refine LdN.one (a := some ⟨g.gb, 0, none⟩) (q := 0) (.slice g.na g.l.length g.nc) rfl (fun w hw => hw.2.1) rfl ?_
 refine wX ?_
 refine brd_dec (fun h1 => ?_) (fun h1 => ?_)
 ·refine wX ?_
  refine ⟨(0, p), ⟨hn.1, Nat.le_refl _, hp, fun h => absurd rfl h⟩, rfl, wkH_refl _⟩
 ·obtain ⟨x, hx⟩ : ∃ x, g.l[p]? = some x := ⟨_, List.getElem?_eq_getElem (by omega)⟩
  have hsa : g.na.isSome = true := isT ok.nil hx
  refine wX ?_
  refine LdN.one (a := some ⟨g.gb, 0, none⟩) (q := 0) (.slice g.na g.l.length g.nc) rfl (fun w hw => hw.2.1) rfl ?_
  refine wX ?_
  refine LdN.one (a := some ⟨g.gb, 0, none⟩) (q := 1) (.int .i64 (p : Int)) rfl (fun w hw => hw.2.1) rfl ?_
  refine wX ?_
  refine Nd.mk ⟨hsa, by omega, by omega⟩ ?_
  refine wX ?_
  refine LdN.one (.int .i64 x) rfl (fun w hw => hA w hw.1) (by rw [Int.toNat_natCast]; show (intG g.l)[p * 1]? = _; rw [Nat.mul_one]; exact intG_get hx) ?_
  obtain ⟨m, hm, hmn⟩ := modN x n hn
  (conv => whnf)
  refine Nd.mk (by rw [wrap_u64 (by omega)]; omega) ?_
  (conv => whnf)
  refine VrN.norm hm ?_
  refine wX ?_
  refine LdN.one (a := some ⟨g.gb, 0, none⟩) (q := 1) (.int .i64 (p : Int)) rfl (fun w hw => hw.2.1) rfl ?_
  refine wX ?_
  have hw1 : IntKind.i64.wrap ((p : Int) + 1) = ((p + 1 : Nat) : Int) := by rw [wrap_i64 (by omega)]; omega
  refine EffW.appTo (i := 1) (q := 1) (ys := [_]) (grC g (p + 1) z) 3 rfl rfl rfl rfl rfl rfl rfl (Nat.le_of_ble_eq_true rfl) (by rw [hw1]; rfl) rfl ?_
  refine wX ?_
  refine ⟨(m, p + 1), ⟨hmn, Nat.le_succ _, by show p + 1 ≤ _; omega, fun _ => Nat.lt_succ_self _⟩, rfl, wkH_refl _⟩
set_option maxHeartbeats 2000000 in
theorem pickx_c (g : GD) (ok : GOk g) (p : Nat) (z : Int) (n : Nat) (hn : 1 ≤ n ∧ n ≤ 1000) (hp : p < g.l.length) (A : World → Prop) (hA : ∀ w, A w → NumF g w) :
  SpecH Tryz.prog 15 (pvs [gP g, .int .i64 (n : Int)]) [.fact A, grE g p z]
   (RetG (ι := PkI) (fun i => i.1 < n ∧ p < i.2 ∧ i.2 ≤ g.l.length) (fun i => .int .i64 (i.1 : Int)) fun i => [.fact A, grE g i.2 z]) := by
 refine ownC hm Tryz.func15 (by kernel_rfl) rfl rfl (fun _ _ => okHB_eq rfl) (fun _ _ => Nat.le_of_ble_eq_true rfl) ?_
 have hlen := ok.len
 refine wX ?_
 refine LdN.one (a := some ⟨g.gb, 0, none⟩) (q := 1) (.int .i64 (p : Int)) rfl (fun w hw => hw.2.1) rfl ?_
 refine wX ?_
 refine LdN.one (a := some ⟨g.gb, 0, none⟩) (q := 0) (.slice g.na g.l.length g.nc) rfl (fun w hw => hw.2.1) rfl ?_
 refine wX ?_
 refine brd_dec (fun h1 => ?_) (fun h1 => ?_)
 ·exact absurd h1 (by omega)
 ·obtain ⟨x, hx⟩ : ∃ x, g.l[p]? = some x := ⟨_, List.getElem?_eq_getElem (by omega)⟩
  have hsa : g.na.isSome = true := isT ok.nil hx
  refine wX ?_
  refine LdN.one (a := some ⟨g.gb, 0, none⟩) (q := 0) (.slice g.na g.l.length g.nc) rfl (fun w hw => hw.2.1) rfl ?_
  refine wX ?_
  refine LdN.one (a := some ⟨g.gb, 0, none⟩) (q := 1) (.int .i64 (p : Int)) rfl (fun w hw => hw.2.1) rfl ?_
  refine wX ?_
  refine Nd.mk ⟨hsa, by omega, by omega⟩ ?_
  refine wX ?_
  refine LdN.one (.int .i64 x) rfl (fun w hw => hA w hw.1) (by rw [Int.toNat_natCast]; show (intG g.l)[p * 1]? = _; rw [Nat.mul_one]; exact intG_get hx) ?_
  obtain ⟨m, hm, hmn⟩ := modN x n hn
  (conv => whnf)
  refine Nd.mk (by rw [wrap_u64 (by omega)]; omega) ?_
  (conv => whnf)
  refine VrN.norm hm ?_
  refine wX ?_
  refine LdN.one (a := some ⟨g.gb, 0, none⟩) (q := 1) (.int .i64 (p : Int)) rfl (fun w hw => hw.2.1) rfl ?_
  refine wX ?_
  have hw1 : IntKind.i64.wrap ((p : Int) + 1) = ((p + 1 : Nat) : Int) := by rw [wrap_i64 (by omega)]; omega
  refine EffW.appTo (i := 1) (q := 1) (ys := [_]) (grC g (p + 1) z) 3 rfl rfl rfl rfl rfl rfl rfl (Nat.le_of_ble_eq_true rfl) (by rw [hw1]; rfl) rfl ?_
  refine wX ?_
  refine ⟨(m, p + 1), ⟨hmn, Nat.lt_succ_self _, by show p + 1 ≤ _; omega⟩, rfl, wkH_refl _⟩
abbrev TxI := List UInt8 × Nat
def TxInv (g : GD) (p : Nat) (l : NL) (i : TxI) : Prop := i.1 ∈ l ∧ p ≤ i.2 ∧ i.2 ≤ g.l.length
theorem text_c (g : GD) (ok : GOk g) (p : Nat) (z : Int) (hp : p ≤ g.l.length) (A B : World → Prop) (hA : ∀ w, A w → NumF g w) (a : Option Addr) (l : NL) (c : Nat) (hl : 1 ≤ l.length ∧ l.length ≤ 1000) (hsa : a.isSome = true) (hB : ∀ w, B w → SlAt a l.length (strsC l) w) :
  SpecH Tryz.prog 30 (pvs [gP g, .slice a l.length c]) [.fact A, grE g p z, .fact B]
   (RetG (ι := TxI) (TxInv g p l) (fun i => .string (bs i.1)) fun i => [.fact A, grE g i.2 z, .fact B]) := by
 refine ownC hm Tryz.func30 (by kernel_rfl) rfl rfl (fun _ _ => okHB_eq rfl) (fun _ _ => Nat.le_of_ble_eq_true rfl) ?_
 have hlen := ok.len
 refine wX ?_
 refine callG (pick_c g ok p z l.length hl hp A hA) [0, 1] rfl ⟨rfl, rfl, trivial⟩ rfl fun i hi => ?_
 obtain ⟨x, q⟩ := i
 obtain ⟨h1, h2, h3, _⟩ := hi
 have h1 : x < l.length := h1
 obtain ⟨t, ht⟩ : ∃ t, l[x]? = some t := ⟨_, List.getElem?_eq_getElem h1⟩
 refine wX ?_
 refine Nd.mk ⟨hsa, by omega, by omega⟩ ?_
 refine wX ?_
 refine LdN.one (.string (bs t)) rfl (fun w hw => hB w hw.2.2.1) (by rw [Int.toNat_natCast]; show (strsC l)[x * 1]? = _; rw [Nat.mul_one]; exact strsC_get ht) ?_
 refine wX ?_
 refine ⟨(t, q), ⟨List.mem_of_getElem? ht, h2, h3⟩, rfl, wkH_refl _⟩
theorem textk_c (g : GD) (ok : GOk g) (p : Nat) (z : Int) (hp : p ≤ g.l.length) (A : World → Prop) (hA : ∀ w, A w → NumF g w) (a : Option Addr) (l : NL) (c : Nat) (hl : 1 ≤ l.length ∧ l.length ≤ 1000) (hsa : a.isSome = true) (hB : ∀ w, A w → SlAt a l.length (strsC l) w) :
  SpecH Tryz.prog 30 (pvs [gP g, .slice a l.length c]) [.fact A, grE g p z]
   (RetG (ι := TxI) (TxInv g p l) (fun i => .string (bs i.1)) fun i => [.fact A, grE g i.2 z]) := by
 refine ownC hm Tryz.func30 (by kernel_rfl) rfl rfl (fun _ _ => okHB_eq rfl) (fun _ _ => Nat.le_of_ble_eq_true rfl) ?_
 have hlen := ok.len
 refine wX ?_
 refine callG (pick_c g ok p z l.length hl hp A hA) [0, 1] rfl ⟨rfl, rfl, trivial⟩ rfl fun i hi => ?_
 obtain ⟨x, q⟩ := i
 obtain ⟨h1, h2, h3, _⟩ := hi
 have h1 : x < l.length := h1
 obtain ⟨t, ht⟩ : ∃ t, l[x]? = some t := ⟨_, List.getElem?_eq_getElem h1⟩
 refine wX ?_
 refine Nd.mk ⟨hsa, by omega, by omega⟩ ?_
 refine wX ?_
 refine LdN.one (.string (bs t)) rfl (fun w hw => hB w hw.1) (by rw [Int.toNat_natCast]; show (strsC l)[x * 1]? = _; rw [Nat.mul_one]; exact strsC_get ht) ?_
 refine wX ?_
 refine ⟨(t, q), ⟨List.mem_of_getElem? ht, h2, h3⟩, rfl, wkH_refl _⟩
theorem node_c (o : Int) (s : ByteArray) (a : Option Addr) (n c : Nat) : ∀ H, SpecH Tryz.prog 14 (pvs [.int .i64 o, .string s, .slice a n c]) H (Ret (.agg #[.int .i64 o, .string s, .int .i64 0, .slice a n c]) H) := by
 refine pureC hm Tryz.func14 (by kernel_rfl) rfl rfl ?_
 exact wZ
theorem RHas_c (a : Option Addr) (l : NL) (cap : Nat) (s : List UInt8) (ha : l ≠ [] → a.isSome = true) (hl : l.length ≤ 1000) :
  ∀ H, (∀ w, Facts H w → SlAt a l.length (strsC l) w) → SpecH Tryz.prog 51 (pvs [.slice a l.length cap, .string (bs s)]) H (Ret (.bool (decide (s ∈ l))) H) := by
 refine factC hm Tryz.func51 (by kernel_rfl) rfl rfl ?_
 refine wX ?_
 refine loopS Nat (fun i => i ≤ l.length ∧ s ∉ l.take i) (fun i => mkS Tryz.f51.ntmps 0 [(0, .c (.v (.slice a l.length cap))), (1, .c (.v (.string (bs s)))), (4, .c (.v (.bool false))), (5, .c (.v (.int .i64 (i : Int))))]) (fun i => l.length - i) rfl (fun _ => rfl) 0 ⟨Nat.zero_le _, by simp⟩ ?_ ?_
 ·exact wKK
 intro i ⟨hi, hno⟩
 refine wX ?_
 refine brd_dec (fun h1 => ?_) (fun h1 => ?_)
 ·obtain ⟨t, ht⟩ : ∃ t, l[i]? = some t := ⟨_, List.getElem?_eq_getElem (by omega)⟩
  have hsa : a.isSome = true := ha (fun h => by rw [h] at ht; cases ht)
  refine wX ?_
  refine Nd.mk ⟨hsa, by omega, by omega⟩ ?_
  refine wX ?_
  refine LdN.one (.string (bs t)) rfl (fun w hw => hw.1) (by show (strsC l)[Int.toNat _ * 1]? = _; rw [Int.toNat_natCast, Nat.mul_one]; exact strsC_get ht) ?_
  refine wX ?_
  refine brd_intro (fun h2 => ?_) (fun h2 => ?_)
  ·have h3 : t = s := eq_of_beq (show (t == s) = true from h2)
   have h4 : s ∈ l := h3 ▸ List.mem_of_getElem? ht
   refine wX ?_
   rw [decide_eq_true h4]
  ·have h3 : (t == s) = false := h2
   refine wX ?_
   refine ⟨i + 1, ⟨by omega, ?_⟩, by omega, ?_, wHH⟩
   ·rw [List.take_add_one, ht]
    simp only [List.mem_append, not_or]
    refine ⟨hno, ?_⟩
    simp
    intro h
    rw [h] at h3
    simp at h3
   ·exact wKK
 ·have hie : i = l.length := by omega
  subst hie
  rw [List.take_length] at hno
  refine wX ?_
  rw [decide_eq_false hno]
theorem strs_one (l : NL) : ∀ u ∈ strsC l, oneV u = true := fun u hu => by
 obtain ⟨t, _, rfl⟩ := List.mem_map.1 hu
 rfl
structure KD where
 a : Option Addr
 c : Nat
 l : NL
structure KdOk (k : KD) : Prop where
 kl : KL k.l
 nil : k.a = none → k.l = []
 cap : k.l.length ≤ k.c
abbrev knV (k : KD) : Value := .slice k.a k.l.length k.c
def KnF (k : KD) (w : World) : Prop := SlAt k.a k.l.length (strsC k.l) w
theorem KdOk.some {k : KD} (h : KdOk k) (hn : k.l ≠ []) : k.a.isSome = true := by
 cases ha : k.a with
 | none => exact absurd (h.nil ha) hn
 | some b => rfl
def k0 : KD := ⟨none, 0, []⟩
theorem k0_ok : KdOk k0 := ⟨KL.nil, fun _ => rfl, Nat.le_refl _⟩
theorem k0_f (w : World) : KnF k0 w := SlAt.nil
theorem facts_rest {w : World} : ∀ (R S : List Ent), S = R.map (fun _ => Ent.dead) → Facts (restK R S) w → Facts R w := fun R => by
 induction R with
 | nil => exact fun _ _ h => trivial
 | cons e R ih =>
  intro S hS h
  subst hS
  have h : Facts (e :: restK R (R.map fun _ => Ent.dead)) w := h
  cases e <;> first | exact ih _ rfl h | exact ⟨h.1, ih _ rfl h.2⟩
theorem sealed_map (Q : World → Prop) : ∀ R : List Ent, SealR Q R (R.map fun _ => Ent.dead)
 | [] => trivial
 | _ :: R => ⟨.inl rfl, sealed_map Q R⟩
theorem sealG (F0 : World → Prop) (g : GD) (p : Nat) (z : Int) (R : List Ent) : TurnS (.fact F0 :: grE g p z :: R) (.fact (fun w => F0 w ∧ Facts R w) :: grE g p z :: R.map fun _ => .dead) :=
 turnS ⟨.inr (.inr ⟨_, rfl, fun _ hw => ⟨hw.1, facts_rest R _ rfl hw.2⟩⟩), .inr (.inl rfl), sealed_map _ R⟩
theorem sealR (F0 : World → Prop) (g : GD) (p : Nat) (z : Int) {T : TypeId} {sz n cap : Nat} {xs : List Value} {a : Option Addr} (R : List Ent) : TurnS (.fact F0 :: grE g p z :: .app T sz xs a n cap :: R) (.fact (fun w => F0 w ∧ Facts R w) :: grE g p z :: .app T sz xs a n cap :: R.map fun _ => .dead) :=
 turnS ⟨.inr (.inr ⟨_, rfl, fun _ hw => ⟨hw.1, facts_rest R _ rfl hw.2⟩⟩), .inr (.inl rfl), .inr (.inl rfl), sealed_map _ R⟩
structure DcI where
 k : KD
 F : World → Prop
theorem declared_c (g : GD) (k : KD) (kok : KdOk k) (x : List UInt8) (hx : x ∈ nmL) (p : Nat) (z : Int) (A : World → Prop) (hA : ∀ w, A w → KnF k w) :
  SpecH Tryz.prog 34 (pvs [knV k, .string (bs x)]) [.fact A, grE g p z]
   (RetG (ι := DcI) (fun i => KdOk i.k ∧ i.k.l = kadd k.l x ∧ ∀ w, i.F w → A w ∧ KnF i.k w) (fun i => knV i.k) fun i => [.fact i.F, grE g p z]) := by
 refine ownT hm Tryz.func34 (by kernel_rfl) rfl rfl (fun _ _ => okHB_eq rfl) (fun _ _ => Nat.le_of_ble_eq_true rfl) ?_
 have hkl := kok.kl.len
 refine wX ?_
 refine call1 (RHas_c k.a k.l k.c x kok.some (by omega) _ (fun w hw => hA w hw.1)) ?_
 by_cases hx2 : x ∈ k.l
 ·rw [decide_eq_true hx2]
  refine wX ?_
  refine ⟨_, sealG _ _ _ _ _, ⟨k, _⟩, ⟨kok, by rw [kadd, if_pos hx2], fun w hw => ⟨hw.1, hA w hw.1⟩⟩, rfl, ⟨wkE_refl _, wkE_refl _, wkH_nil _⟩⟩
 ·rw [decide_eq_false hx2]
  (conv => whnf)
  refine RwN.known [] rfl fun rb => ?_
  refine wX ?_
  refine app_any 2 [] (strsC k.l) rfl (Nat.zero_le _) (fun h => kok.some (by intro e; rw [e] at h; exact absurd h (by decide))) (by show (strsC k.l).length = k.l.length * 1; rw [Nat.mul_one, strsC, List.length_map]) (strs_one _) (fun w hw j v hv => (hA w hw.1).cell hv) ⟨⟨by show (0 + k.l.length) * 16 ≤ _; omega, by omega⟩, by decide⟩ fun b2 c2 h2 => ?_
  refine wX ?_
  refine Nd.mk ⟨Nat.le_refl 1, rfl, rfl⟩ ?_
  (conv => whnf)
  refine AppN.grow 2 ([] ++ strsC k.l) [.string (bs x)] rfl rfl ⟨Nat.le_refl 1, ⟨by show (0 + k.l.length + 1) * 16 ≤ _; omega, by omega⟩, by decide⟩ fun b3 c3 g1 g2 => ?_
  refine wX ?_
  have e1 : [] ++ strsC k.l ++ [.string (bs x)] = strsC (k.l ++ [x]) := by simp [strsC]
  have e2 : 0 + k.l.length + 1 = (k.l ++ [x]).length := by simp
  have e3 : kadd k.l x = k.l ++ [x] := by rw [kadd, if_neg hx2]
  rw [e1, e2]
  have hka := kok.kl.add hx
  rw [e3] at hka
  refine ⟨_, sealG _ _ _ _ _, ⟨⟨some ⟨b3, 0, none⟩, c3, k.l ++ [x]⟩, _⟩, ⟨⟨hka, (fun h => by cases h), by show (k.l ++ [x]).length ≤ c3; rw [← e2]; exact g1⟩, e3.symm, fun w hw => ⟨hw.1, ?_⟩⟩, rfl, ⟨wkE_refl _, wkE_refl _, wkH_nil _⟩⟩
  have h3 : SlAt (some ⟨b3, 0, none⟩) ((k.l ++ [x]).length * 1) (strsC (k.l ++ [x])) w := hw.2.1
  rw [Nat.mul_one] at h3
  exact h3
def strL : NL := [[], [97], [97, 32, 98], [35, 123, 120, 125], [34, 92], [10, 0, 255], [39], [101, 110, 100]]
def symL : NL := [[102, 111, 111], [102, 63], [120, 61], [43], [91, 93, 61], [67], [64, 97], [99, 108, 97, 115, 115], [46, 46], [60, 61, 62]]
def ivL : NL := [[64, 97], [64, 95, 98]]
def cnL : NL := [[67], [79, 98, 106, 101, 99, 116], [68, 95, 49]]
def cdL : NL := [[67], [68]]
def numL : List Int := [0, 1, 2, 7, -1, -12, 1000000000000000, -1000000000000000]
theorem strL_v : ∀ x ∈ strL, x.length ≤ 2000 := by decide +kernel
theorem symL_v : ∀ x ∈ symL, (meB x = true ∨ icB x = true ∨ iiB x = true) ∧ x.length ≤ 2000 := by decide +kernel
theorem ivL_v : ∀ x ∈ ivL, iiB x = true ∧ x.length ≤ 2000 := by decide +kernel
theorem cnL_v : ∀ x ∈ cnL, icB x = true ∧ x.length ≤ 2000 := by decide +kernel
theorem cdL_v : ∀ x ∈ cdL, icB x = true ∧ x.length ≤ 2000 := by decide +kernel
theorem numL_v : ∀ x ∈ numL, -1000000000000000 ≤ x ∧ x ≤ 1000000000000000 := by decide +kernel
structure LfI where
 t : TP
 p : Nat
structure LfInv (g : GD) (k : NL) (p : Nat) (i : LfI) : Prop where
 v : V .ex i.t
 gn : Gn k i.t k 1 1
 le : p ≤ i.p ∧ i.p ≤ g.l.length
 no : i.t.kids = []
 co : i.t.op ≠ 15 ∧ (i.t.op = 14 → i.t.name ∈ cnL ∧ i.t.n = 0)
theorem lf_no {o n : Int} {x : List UInt8} {a : Option Addr} {ks : List TP} {c : Nat} (h : decide (o = 15 ∨ o = 14) = false) : TP.op ⟨o, x, n, a, ks, c⟩ ≠ 15 ∧ (TP.op ⟨o, x, n, a, ks, c⟩ = 14 → TP.name ⟨o, x, n, a, ks, c⟩ ∈ cnL ∧ TP.n ⟨o, x, n, a, ks, c⟩ = 0) := by
 have := of_decide_eq_false h
 exact ⟨fun e => this (.inl e), fun e => absurd (.inr e) this⟩
set_option maxHeartbeats 4000000 in
theorem gleaf_c (g : GD) (ok : GOk g) (k : KD) (kok : KdOk k) (p : Nat) (z : Int) (hp : p ≤ g.l.length) (A : World → Prop) (hA : ∀ w, A w → NumF g w ∧ KnF k w) :
  SpecH Tryz.prog 31 (pvs [gP g, knV k]) [.fact A, grE g p z]
   (RetG (ι := LfI) (LfInv g k.l p) (fun i => nodeV i.t) fun i => [.fact A, grE g i.p z]) := by
 refine ownC hm Tryz.func31 (by kernel_rfl) rfl rfl (fun _ _ => okHB_eq rfl) (fun _ _ => Nat.le_of_ble_eq_true rfl) ?_
 have hlen := ok.len
 refine wXR ?_
 refine callG (pick_c g ok p z 12 ⟨by decide, by decide⟩ hp A (fun w hw => (hA w hw).1)) [0, 1] rfl ⟨rfl, rfl, trivial⟩ rfl fun i hi => ?_
 obtain ⟨x, q⟩ := i
 obtain ⟨h1, h2, h3, _⟩ := hi
 have h1 : x < 12 := h1
 have h2 : p ≤ q := h2
 have hq : q ≤ g.l.length := h3
 rcases (by omega : x = 0 ∨ x = 1 ∨ x = 2 ∨ x = 3 ∨ x = 4 ∨ x = 5 ∨ x = 6 ∨ x = 7 ∨ x = 8 ∨ x = 9 ∨ x = 10 ∨ x = 11) with rfl | rfl | rfl | rfl | rfl | rfl | rfl | rfl | rfl | rfl | rfl | rfl
 ·refine wXR ?_
  refine call1 (node_c _ _ _ _ _ _) ?_
  refine wXR ?_
  refine ⟨⟨⟨0, [], 0, none, [], 0⟩, q⟩, ⟨.bare (by decide), .leaf rfl (by decide), ⟨h2, h3⟩, rfl, lf_no rfl⟩, rfl, ⟨wkE_refl _, wkE_refl _, wkH_nil _⟩⟩
 ·refine wXR ?_
  refine call1 (node_c _ _ _ _ _ _) ?_
  refine wXR ?_
  refine ⟨⟨⟨1, [], 0, none, [], 0⟩, q⟩, ⟨.bare (by decide), .leaf rfl (by decide), ⟨h2, h3⟩, rfl, lf_no rfl⟩, rfl, ⟨wkE_refl _, wkE_refl _, wkH_nil _⟩⟩
 ·refine wXR ?_
  refine call1 (node_c _ _ _ _ _ _) ?_
  refine wXR ?_
  refine ⟨⟨⟨2, [], 0, none, [], 0⟩, q⟩, ⟨.bare (by decide), .leaf rfl (by decide), ⟨h2, h3⟩, rfl, lf_no rfl⟩, rfl, ⟨wkE_refl _, wkE_refl _, wkH_nil _⟩⟩
 ·refine wXR ?_
  refine call1 (node_c _ _ _ _ _ _) ?_
  refine wXR ?_
  refine ⟨⟨⟨3, [], 0, none, [], 0⟩, q⟩, ⟨.bare (by decide), .leaf rfl (by decide), ⟨h2, h3⟩, rfl, lf_no rfl⟩, rfl, ⟨wkE_refl _, wkE_refl _, wkH_nil _⟩⟩
 ·-- one of a list's texts; strL: the list, 3: the row's entry, q: the place of the numbers, A: what is known
  refine wXR ?_
  refine RwN.known (strsC strL) rfl fun rb => ?_
  refine wXR ?_
  refine SpecH.shut 3 rfl ?_
  refine callG (text_c g ok q z (by omega) A _ (fun w hw => (hA w hw).1) (some ⟨rb, 0, none⟩) strL _ ⟨by decide, by decide⟩ rfl (fun w hw => hw)) [0, 1, 3] rfl ⟨rfl, rfl, rfl, trivial⟩ rfl fun i hi => ?_
  obtain ⟨x, q2⟩ := i
  obtain ⟨hx, hq2, hq3⟩ := hi
  have hx : x ∈ strL := hx
  have hq2 : q ≤ q2 := hq2
  have hq3 : q2 ≤ g.l.length := hq3
  refine wXR ?_
  refine call1 (node_c _ _ _ _ _ _) ?_
  refine wXR ?_
  refine ⟨⟨⟨5, x, 0, none, [], 0⟩, q2⟩, ⟨.str (strL_v x hx), .leaf rfl (strL_v x hx), ⟨Nat.le_trans h2 hq2, hq3⟩, rfl, lf_no rfl⟩, rfl, ⟨wkE_refl _, wkE_refl _, wkH_nil _⟩⟩
 ·-- one of a list's texts; symL: the list, 3: the row's entry, q: the place of the numbers, A: what is known
  refine wXR ?_
  refine RwN.known (strsC symL) rfl fun rb => ?_
  refine wXR ?_
  refine SpecH.shut 3 rfl ?_
  refine callG (text_c g ok q z (by omega) A _ (fun w hw => (hA w hw).1) (some ⟨rb, 0, none⟩) symL _ ⟨by decide, by decide⟩ rfl (fun w hw => hw)) [0, 1, 3] rfl ⟨rfl, rfl, rfl, trivial⟩ rfl fun i hi => ?_
  obtain ⟨x, q2⟩ := i
  obtain ⟨hx, hq2, hq3⟩ := hi
  have hx : x ∈ symL := hx
  have hq2 : q ≤ q2 := hq2
  have hq3 : q2 ≤ g.l.length := hq3
  refine wXR ?_
  refine call1 (node_c _ _ _ _ _ _) ?_
  refine wXR ?_
  refine ⟨⟨⟨6, x, 0, none, [], 0⟩, q2⟩, ⟨.sym (symL_v x hx).1, .leaf rfl (symL_v x hx).2, ⟨Nat.le_trans h2 hq2, hq3⟩, rfl, lf_no rfl⟩, rfl, ⟨wkE_refl _, wkE_refl _, wkH_nil _⟩⟩
 ·-- one of a list's texts; ivL: the list, 3: the row's entry, q: the place of the numbers, A: what is known
  refine wXR ?_
  refine RwN.known (strsC ivL) rfl fun rb => ?_
  refine wXR ?_
  refine SpecH.shut 3 rfl ?_
  refine callG (text_c g ok q z (by omega) A _ (fun w hw => (hA w hw).1) (some ⟨rb, 0, none⟩) ivL _ ⟨by decide, by decide⟩ rfl (fun w hw => hw)) [0, 1, 3] rfl ⟨rfl, rfl, rfl, trivial⟩ rfl fun i hi => ?_
  obtain ⟨x, q2⟩ := i
  obtain ⟨hx, hq2, hq3⟩ := hi
  have hx : x ∈ ivL := hx
  have hq2 : q ≤ q2 := hq2
  have hq3 : q2 ≤ g.l.length := hq3
  refine wXR ?_
  refine call1 (node_c _ _ _ _ _ _) ?_
  refine wXR ?_
  refine ⟨⟨⟨12, x, 0, none, [], 0⟩, q2⟩, ⟨.ivar (ivL_v x hx).1, .leaf rfl (ivL_v x hx).2, ⟨Nat.le_trans h2 hq2, hq3⟩, rfl, lf_no rfl⟩, rfl, ⟨wkE_refl _, wkE_refl _, wkH_nil _⟩⟩
 ·-- one of a list's texts; cnL: the list, 3: the row's entry, q: the place of the numbers, A: what is known
  refine wXR ?_
  refine RwN.known (strsC cnL) rfl fun rb => ?_
  refine wXR ?_
  refine SpecH.shut 3 rfl ?_
  refine callG (text_c g ok q z (by omega) A _ (fun w hw => (hA w hw).1) (some ⟨rb, 0, none⟩) cnL _ ⟨by decide, by decide⟩ rfl (fun w hw => hw)) [0, 1, 3] rfl ⟨rfl, rfl, rfl, trivial⟩ rfl fun i hi => ?_
  obtain ⟨x, q2⟩ := i
  obtain ⟨hx, hq2, hq3⟩ := hi
  have hx : x ∈ cnL := hx
  have hq2 : q ≤ q2 := hq2
  have hq3 : q2 ≤ g.l.length := hq3
  refine wXR ?_
  refine call1 (node_c _ _ _ _ _ _) ?_
  refine wXR ?_
  refine ⟨⟨⟨14, x, 0, none, [], 0⟩, q2⟩, ⟨.const (cnL_v x hx).1, .leaf rfl (cnL_v x hx).2, ⟨Nat.le_trans h2 hq2, hq3⟩, rfl, fun h => absurd h (by show ¬ (14 : Int) = 15; decide), fun _ => ⟨hx, rfl⟩⟩, rfl, ⟨wkE_refl _, wkE_refl _, wkH_nil _⟩⟩
 ·-- a name that is known, or a number
  refine wXR ?_
  refine brd_dec (fun h0 => ?_) (fun h0 => ?_)
  ·have hkl := kok.kl.len
   refine wXR ?_
   refine callG (textk_c g ok q z hq A (fun w hw => (hA w hw).1) k.a k.l k.c ⟨by omega, by omega⟩ (kok.some fun h => by rw [h] at h0; exact absurd h0 (by decide)) (fun w hw => (hA w hw).2)) [0, 1] rfl ⟨rfl, rfl, trivial⟩ rfl fun i hi => ?_
   obtain ⟨x, q2⟩ := i
   obtain ⟨hx, hq2, hq3⟩ := hi
   have hx : x ∈ k.l := hx
   have hq2 : q ≤ q2 := hq2
   have hq3 : q2 ≤ g.l.length := hq3
   have hxm := kok.kl.mem x hx
   refine wXR ?_
   refine call1 (node_c _ _ _ _ _ _) ?_
   refine wXR ?_
   refine ⟨⟨⟨10, x, 0, none, [], 0⟩, q2⟩, ⟨.loc (nmL_lo x hxm), .loc hx hxm, ⟨Nat.le_trans h2 hq2, hq3⟩, rfl, lf_no rfl⟩, rfl, ⟨wkE_refl _, wkE_refl _, wkH_nil _⟩⟩
  ·-- the last case: a number
   refine wXR ?_
   refine RwN.known (intG numL) rfl fun rb => ?_
   refine wXR ?_
   refine callG (pick_c g ok q z 8 ⟨by decide, by decide⟩ hq A (fun w hw => (hA w hw).1)) [0, 1] rfl ⟨rfl, rfl, trivial⟩ rfl fun i hi => ?_
   obtain ⟨y, q2⟩ := i
   obtain ⟨hy, hq2, hq3, _⟩ := hi
   have hy : y < 8 := hy
   have hq2 : q ≤ q2 := hq2
   have hq3 : q2 ≤ g.l.length := hq3
   obtain ⟨v, hv⟩ : ∃ v, numL[y]? = some v := ⟨_, List.getElem?_eq_getElem hy⟩
   refine wXR ?_
   refine Nd.mk ⟨rfl, by omega, by omega⟩ ?_
   refine wXR ?_
   refine LdN.one (.int .i64 v) rfl (fun w hw => hw.2.2.1) (by rw [Int.toNat_natCast]; show (intG numL)[y * 1]? = _; rw [Nat.mul_one]; exact intG_get hv) ?_
   refine wXR ?_
   refine ⟨⟨⟨4, [], v, none, [], 0⟩, q2⟩, ⟨.int (numL_v v (List.mem_of_getElem? hv)), .leaf rfl (by decide), ⟨Nat.le_trans h2 hq2, hq3⟩, rfl, lf_no rfl⟩, rfl, ⟨wkE_refl _, wkE_refl _, wkH_nil _⟩⟩
 ·-- a name that is known, or a number
  refine wXR ?_
  refine brd_dec (fun h0 => ?_) (fun h0 => ?_)
  ·have hkl := kok.kl.len
   refine wXR ?_
   refine callG (textk_c g ok q z hq A (fun w hw => (hA w hw).1) k.a k.l k.c ⟨by omega, by omega⟩ (kok.some fun h => by rw [h] at h0; exact absurd h0 (by decide)) (fun w hw => (hA w hw).2)) [0, 1] rfl ⟨rfl, rfl, trivial⟩ rfl fun i hi => ?_
   obtain ⟨x, q2⟩ := i
   obtain ⟨hx, hq2, hq3⟩ := hi
   have hx : x ∈ k.l := hx
   have hq2 : q ≤ q2 := hq2
   have hq3 : q2 ≤ g.l.length := hq3
   have hxm := kok.kl.mem x hx
   refine wXR ?_
   refine call1 (node_c _ _ _ _ _ _) ?_
   refine wXR ?_
   refine ⟨⟨⟨10, x, 0, none, [], 0⟩, q2⟩, ⟨.loc (nmL_lo x hxm), .loc hx hxm, ⟨Nat.le_trans h2 hq2, hq3⟩, rfl, lf_no rfl⟩, rfl, ⟨wkE_refl _, wkE_refl _, wkH_nil _⟩⟩
  ·-- the last case: a number
   refine wXR ?_
   refine RwN.known (intG numL) rfl fun rb => ?_
   refine wXR ?_
   refine callG (pick_c g ok q z 8 ⟨by decide, by decide⟩ hq A (fun w hw => (hA w hw).1)) [0, 1] rfl ⟨rfl, rfl, trivial⟩ rfl fun i hi => ?_
   obtain ⟨y, q2⟩ := i
   obtain ⟨hy, hq2, hq3, _⟩ := hi
   have hy : y < 8 := hy
   have hq2 : q ≤ q2 := hq2
   have hq3 : q2 ≤ g.l.length := hq3
   obtain ⟨v, hv⟩ : ∃ v, numL[y]? = some v := ⟨_, List.getElem?_eq_getElem hy⟩
   refine wXR ?_
   refine Nd.mk ⟨rfl, by omega, by omega⟩ ?_
   refine wXR ?_
   refine LdN.one (.int .i64 v) rfl (fun w hw => hw.2.2.1) (by rw [Int.toNat_natCast]; show (intG numL)[y * 1]? = _; rw [Nat.mul_one]; exact intG_get hv) ?_
   refine wXR ?_
   refine ⟨⟨⟨4, [], v, none, [], 0⟩, q2⟩, ⟨.int (numL_v v (List.mem_of_getElem? hv)), .leaf rfl (by decide), ⟨Nat.le_trans h2 hq2, hq3⟩, rfl, lf_no rfl⟩, rfl, ⟨wkE_refl _, wkE_refl _, wkH_nil _⟩⟩
 ·-- a name that is known, or a number
  refine wXR ?_
  refine brd_dec (fun h0 => ?_) (fun h0 => ?_)
  ·have hkl := kok.kl.len
   refine wXR ?_
   refine callG (textk_c g ok q z hq A (fun w hw => (hA w hw).1) k.a k.l k.c ⟨by omega, by omega⟩ (kok.some fun h => by rw [h] at h0; exact absurd h0 (by decide)) (fun w hw => (hA w hw).2)) [0, 1] rfl ⟨rfl, rfl, trivial⟩ rfl fun i hi => ?_
   obtain ⟨x, q2⟩ := i
   obtain ⟨hx, hq2, hq3⟩ := hi
   have hx : x ∈ k.l := hx
   have hq2 : q ≤ q2 := hq2
   have hq3 : q2 ≤ g.l.length := hq3
   have hxm := kok.kl.mem x hx
   refine wXR ?_
   refine call1 (node_c _ _ _ _ _ _) ?_
   refine wXR ?_
   refine ⟨⟨⟨10, x, 0, none, [], 0⟩, q2⟩, ⟨.loc (nmL_lo x hxm), .loc hx hxm, ⟨Nat.le_trans h2 hq2, hq3⟩, rfl, lf_no rfl⟩, rfl, ⟨wkE_refl _, wkE_refl _, wkH_nil _⟩⟩
  ·-- the last case: a number
   refine wXR ?_
   refine RwN.known (intG numL) rfl fun rb => ?_
   refine wXR ?_
   refine callG (pick_c g ok q z 8 ⟨by decide, by decide⟩ hq A (fun w hw => (hA w hw).1)) [0, 1] rfl ⟨rfl, rfl, trivial⟩ rfl fun i hi => ?_
   obtain ⟨y, q2⟩ := i
   obtain ⟨hy, hq2, hq3, _⟩ := hi
   have hy : y < 8 := hy
   have hq2 : q ≤ q2 := hq2
   have hq3 : q2 ≤ g.l.length := hq3
   obtain ⟨v, hv⟩ : ∃ v, numL[y]? = some v := ⟨_, List.getElem?_eq_getElem hy⟩
   refine wXR ?_
   refine Nd.mk ⟨rfl, by omega, by omega⟩ ?_
   refine wXR ?_
   refine LdN.one (.int .i64 v) rfl (fun w hw => hw.2.2.1) (by rw [Int.toNat_natCast]; show (intG numL)[y * 1]? = _; rw [Nat.mul_one]; exact intG_get hv) ?_
   refine wXR ?_
   refine ⟨⟨⟨4, [], v, none, [], 0⟩, q2⟩, ⟨.int (numL_v v (List.mem_of_getElem? hv)), .leaf rfl (by decide), ⟨Nat.le_trans h2 hq2, hq3⟩, rfl, lf_no rfl⟩, rfl, ⟨wkE_refl _, wkE_refl _, wkH_nil _⟩⟩
 ·-- the last case: a number
  refine wXR ?_
  refine RwN.known (intG numL) rfl fun rb => ?_
  refine wXR ?_
  refine callG (pick_c g ok q z 8 ⟨by decide, by decide⟩ hq A (fun w hw => (hA w hw).1)) [0, 1] rfl ⟨rfl, rfl, trivial⟩ rfl fun i hi => ?_
  obtain ⟨y, q2⟩ := i
  obtain ⟨hy, hq2, hq3, _⟩ := hi
  have hy : y < 8 := hy
  have hq2 : q ≤ q2 := hq2
  have hq3 : q2 ≤ g.l.length := hq3
  obtain ⟨v, hv⟩ : ∃ v, numL[y]? = some v := ⟨_, List.getElem?_eq_getElem hy⟩
  refine wXR ?_
  refine Nd.mk ⟨rfl, by omega, by omega⟩ ?_
  refine wXR ?_
  refine LdN.one (.int .i64 v) rfl (fun w hw => hw.2.2.1) (by rw [Int.toNat_natCast]; show (intG numL)[y * 1]? = _; rw [Nat.mul_one]; exact intG_get hv) ?_
  refine wXR ?_
  refine ⟨⟨⟨4, [], v, none, [], 0⟩, q2⟩, ⟨.int (numL_v v (List.mem_of_getElem? hv)), .leaf rfl (by decide), ⟨Nat.le_trans h2 hq2, hq3⟩, rfl, lf_no rfl⟩, rfl, ⟨wkE_refl _, wkE_refl _, wkH_nil _⟩⟩
theorem treeF {w : World} {o n : Int} {x : List UInt8} {a : Option Addr} {l : List TP} {c : Nat} {m : Nat} (hk : TreeK ⟨o, x, n, a, l, c⟩) (h : SlAt a m (nodesC l) w) (hm : m = l.length * 4) (hs : ∀ t ∈ l, TreeF w t) : TreeF w ⟨o, x, n, a, l, c⟩ := .mk (hm ▸ h) hk.len hk.str hk.cap hs
structure PaI where
 t : TP
 p : Nat
 F : World → Prop
structure PaInv (g : GD) (A : World → Prop) (p : Nat) (i : PaI) : Prop where
 v : V .ex i.t
 pa : pathT i.t
 gn : ∀ k, Gn k i.t k (1 + 8 * (i.p - p)) 2
 le : p ≤ i.p ∧ i.p ≤ g.l.length
 f : ∀ w, i.F w → A w ∧ TreeF w i.t
set_option maxHeartbeats 4000000 in
theorem path_c (g : GD) (ok : GOk g) (p : Nat) (z : Int) (hp : p ≤ g.l.length) (A : World → Prop) (hA : ∀ w, A w → NumF g w ∧ True) :
  SpecH Tryz.prog 16 (pvs [gP g]) [.fact A, grE g p z]
   (RetG (ι := PaI) (PaInv g A p) (fun i => nodeV i.t) fun i => [.fact i.F, grE g i.p z]) := by
 refine ownT hm Tryz.func16 (by kernel_rfl) rfl rfl (fun _ _ => okHB_eq rfl) (fun _ _ => Nat.le_of_ble_eq_true rfl) ?_
 have hlen := ok.len
 refine wXR ?_
 refine RwN.known (strsC cdL) rfl fun rb => ?_
 refine wXR ?_
 refine SpecH.shut 3 rfl ?_
 refine callG (text_c g ok p z (by omega) A _ (fun w hw => (hA w hw).1) (some ⟨rb, 0, none⟩) cdL _ ⟨by decide, by decide⟩ rfl (fun w hw => hw)) [0, 1, 3] rfl ⟨rfl, rfl, rfl, trivial⟩ rfl fun i hi => ?_
 obtain ⟨x, q2⟩ := i
 obtain ⟨hx, hq2, hq3⟩ := hi
 have hx : x ∈ cdL := hx
 have hq2 : p ≤ q2 := hq2
 have hq3 : q2 ≤ g.l.length := hq3
 have hv := cdL_v x hx
 refine wXR ?_
 refine call1 (node_c _ _ _ _ _ _) ?_
 refine wXR ?_
 refine callG (pick_c g ok q2 z 3 ⟨by decide, by decide⟩ hq3 A (fun w hw => (hA w hw).1)) [0, 1] rfl ⟨rfl, rfl, trivial⟩ rfl fun i hi => ?_
 obtain ⟨y, q⟩ := i
 obtain ⟨h1, h2, h3, h4⟩ := hi
 have h1 : y < 3 := h1
 have h2 : q2 ≤ q := h2
 have h3 : q ≤ g.l.length := h3
 have h4 : y ≠ 0 → q2 < q := h4
 have kc : ∀ k, Gn k ⟨14, x, 0, none, [], 0⟩ k 1 1 := fun k => .leaf rfl hv.2
 have vc : V .ex ⟨14, x, 0, none, [], 0⟩ := .const hv.1
 have fc : ∀ w, TreeF w ⟨14, x, 0, none, [], 0⟩ := fun w => f0 (kc []).tk rfl
 refine wXR ?_
 refine brd_eq (fun h5 => ?_) (fun h5 => ?_)
 ·refine wXR ?_
  refine RwN.known (nodeC ⟨14, x, 0, none, [], 0⟩) rfl fun nb => ?_
  refine wXR ?_
  refine call1 (node_c _ _ _ _ _ _) ?_
  refine wXR ?_
  have kk : ∀ k, Gn k ⟨15, [69], 0, some ⟨nb, 0, none⟩, [⟨14, x, 0, none, [], 0⟩], 1⟩ k 2 2 := fun k => .q (s := 1) (d := 1) rfl (.some (Nat.le_refl 1)) (by show 1 ≤ 2000; decide) (by decide) (kc k).s
  refine ⟨_, sealG _ _ _ _ _, ⟨⟨15, [69], 0, some ⟨nb, 0, none⟩, [⟨14, x, 0, none, [], 0⟩], 1⟩, q, _⟩, ⟨.scope (.inl rfl) (by decide +kernel) vc, .inr ⟨rfl, _, rfl, rfl⟩, fun k => (kk k).le (by have := h4 (by omega); show 2 ≤ 1 + 8 * (q - p); omega) (Nat.le_refl _), ⟨Nat.le_trans hq2 h2, h3⟩, fun w hw => ⟨hw.1, treeF (kk []).tk hw.2.2.1 rfl (one_mem (fc w))⟩⟩, rfl, ⟨wkE_refl _, wkE_refl _, wkH_nil _⟩⟩
 ·refine wXR ?_
  refine ⟨_, sealG _ _ _ _ _, ⟨⟨14, x, 0, none, [], 0⟩, q, _⟩, ⟨vc, .inl rfl, fun k => (kc k).le (by show 1 ≤ 1 + 8 * (q - p); omega) (by decide), ⟨Nat.le_trans hq2 h2, h3⟩, fun w hw => ⟨hw.1, fc w⟩⟩, rfl, ⟨wkE_refl _, wkE_refl _, wkH_nil _⟩⟩
structure EI where
 t : TP
 k : KD
 p : Nat
 z : Int
 F : World → Prop
structure ExI (r : Ro) (Q : TP → Prop) (g : GD) (A : World → Prop) (k : KD) (p B d : Nat) (i : EI) : Prop where
 v : V r i.t
 q : Q i.t
 gn : Gn k.l i.t i.k.l (B + 8 * (i.p - p)) d
 kd : KdOk i.k
 le : p ≤ i.p ∧ i.p ≤ g.l.length
 f : ∀ w, i.F w → A w ∧ TreeF w i.t ∧ KnF i.k w
def exV (i : EI) : Value := .tuple #[nodeV i.t, knV i.k]
def exE (g : GD) (i : EI) : List Ent := [.fact i.F, grE g i.p i.z]
def NodeKC (f : FuncId) (r : Ro) (Q : TP → Prop) (D B d : Nat) : Prop := ∀ (g : GD) (_ : GOk g) (k : KD) (_ : KdOk k) (p : Nat) (z : Int) (_ : p ≤ g.l.length) (A : World → Prop) (_ : ∀ w, A w → NumF g w ∧ KnF k w),
 SpecH Tryz.prog f (pvs [gP g, .int .i64 (D : Int), knV k]) [.fact A, grE g p z] (RetG (ι := EI) (ExI r Q g A k p B d) exV (exE g))
abbrev ndT : TypeId := 25
abbrev isAny (_ : TP) : Prop := True
abbrev isSeq (t : TP) : Prop := t.op = 26
abbrev ExprC (D : Nat) : Prop := NodeKC 17 .ex isAny D 1 (4 * D + 3)
abbrev SeqC (D : Nat) : Prop := NodeKC 37 .ex isSeq D 1 (4 * D)
structure SmI where
 l : List TP
 ob : Option Nat
 cap : Nat
 k : KD
 p : Nat
 z : Int
 F : World → Prop
structure SmInv (Q : TP → Prop) (g : GD) (A : World → Prop) (k : KD) (p d : Nat) (i : SmI) : Prop where
 v : ∀ t ∈ i.l, Q t
 gs : Gs k.l i.l i.k.l (i.l.length + 8 * (i.p - p)) d
 kd : KdOk i.k
 le : p ≤ i.p ∧ i.p ≤ g.l.length
 nil : i.ob = none → i.l = []
 cap : i.l.length ≤ i.cap
 f : ∀ w, i.F w → A w ∧ (∀ t ∈ i.l, TreeF w t) ∧ KnF i.k w
abbrev rowN4 (l : List TP) (ob : Option Nat) (cap : Nat) : Ent := .app ndT 4 (nodesC l) (at0 ob) l.length cap
def gsE (g : GD) (i : SmI) : List Ent := [.fact i.F, grE g i.p i.z, rowN4 i.l i.ob i.cap]
def SomeC (D : Nat) : Prop := ∀ (g : GD) (_ : GOk g) (n : Nat) (_ : n ≤ 100) (k : KD) (_ : KdOk k) (p : Nat) (z : Int) (_ : p ≤ g.l.length) (A : World → Prop) (_ : ∀ w, A w → NumF g w ∧ KnF k w),
 SpecH Tryz.prog 33 (pvs [gP g, .int .i64 (n : Int), .int .i64 (D : Int), knV k]) [.fact A, grE g p z]
  (RetG (ι := SmI) (fun i => SmInv (V .ex) g A k p (4 * D - 1) i ∧ i.l.length = n) (fun i => .tuple #[.slice (at0 i.ob) i.l.length i.cap, knV i.k]) (gsE g))
theorem low (D : Nat) (hD : D ≤ 100) : IntKind.i64.wrap (((D + 1 : Nat) : Int) - 1) = (D : Int) := by rw [wrap_i64 (by omega)]; omega
theorem SmInv.snoc {Q : TP → Prop} {g : GD} {A : World → Prop} {k : KD} {p d : Nat} {i : SmI} (h : SmInv Q g A k p d i) {t : TP} {k2 : KD} {p2 : Nat} {z2 : Int} {F2 : World → Prop} (hv : Q t) (hg : Gn i.k.l t k2.l (1 + 8 * (p2 - i.p)) d) (hk : KdOk k2) (hl : i.p ≤ p2 ∧ p2 ≤ g.l.length)
  (hf : ∀ w, F2 w → i.F w ∧ TreeF w t ∧ KnF k2 w) {b c : Nat} (hc : i.l.length + 1 ≤ c) : SmInv Q g A k p d ⟨i.l ++ [t], some b, c, k2, p2, z2, F2⟩ where
 v := allV h.v (allC hv allN)
 gs := (h.gs.snoc hg).le (by have := h.le; simp only [List.length_append, List.length_singleton]; omega) (Nat.le_refl _)
 kd := hk
 le := ⟨Nat.le_trans h.le.1 hl.1, hl.2⟩
 nil := fun h => by cases h
 cap := by rw [List.length_append]; exact hc
 f := fun w hw => by
  obtain ⟨h1, h2, h3⟩ := hf w hw
  obtain ⟨h4, h5, _⟩ := h.f w h1
  exact ⟨h4, allV h5 (allC h2 allN), h3⟩
theorem NumF.of {g : GD} {A F : World → Prop} (hA : ∀ w, A w → NumF g w) {w : World} (h : F w → A w) (hw : F w) : NumF g w := hA w (h hw)
theorem at0_nil {l : List TP} {ob : Option Nat} (h : ob = none → l = []) : at0 ob = none → l = [] := fun e => h (by cases ob with | none => rfl | some b => cases e)
set_option maxHeartbeats 4000000 in
theorem gsome_c (D : Nat) (hD : D ≤ 100) (ih : ExprC D) : SomeC (D + 1) := by
 intro g ok n hn k kok p z hp A hA
 refine ownC hm Tryz.func33 (by kernel_rfl) rfl rfl (fun _ _ => okHB_eq rfl) (fun _ _ => Nat.le_of_ble_eq_true rfl) ?_
 have hlen := ok.len
 refine wX ?_
 refine LoopN.intro SmI (fun i => SmInv (V .ex) g A k p (4 * D + 3) i ∧ i.l.length ≤ n)
  (fun ⟨l, ob, cap, k', _, _, _⟩ => mkS Tryz.f33.ntmps 0 [(0, .c (.v (gP g))), (1, .c (.v (.int .i64 (n : Int)))), (2, .c (.v (.int .i64 ((D + 1 : Nat) : Int)))), (3, .c (.v (knV k'))), (8, .c (.v (.slice none 0 0))), (9, .c (.v (.slice none 0 0))), (10, .c (.v (.slice (at0 ob) l.length cap))), (11, .c (.v (.int .i64 (l.length : Int))))])
  (fun ⟨l, ob, cap, _, q, z', F⟩ => [.fact F, grE g q z', rowN4 l ob cap])
  (fun i => n - i.l.length) [.app ndT 4 [] none 0 0] rfl (fun _ => rfl) (fun _ => rfl) (fun _ _ => okHB_eq rfl)
  ⟨⟨[], none, 0, k, p, z, A⟩, ⟨⟨(fun _ h => by cases h), (Gs.nil _ _).le (by omega) (Nat.le_refl _), kok, ⟨Nat.le_refl _, hp⟩, fun _ => rfl, Nat.le_refl _, fun w hw => ⟨hw, (fun _ h => by cases h), (hA w hw).2⟩⟩, Nat.zero_le _⟩, ?_, ⟨wkE_refl _, wkE_refl _, wkE_refl _, wkH_nil _⟩⟩ ?_
 ·exact wKK
 rintro ⟨l, ob, cap, k', q, z', F⟩ ⟨hi, hln⟩
 have hln : l.length ≤ n := hln
 have hnil : at0 ob = none → l = [] := at0_nil hi.nil
 have hcap : l.length ≤ cap := hi.cap
 refine wX ?_
 refine brd_dec (fun h1 => ?_) (fun h1 => ?_)
 ·refine wX ?_
  rw [low D hD]
  refine callG (ih g ok k' hi.kd q z' hi.le.2 F (fun w hw => ⟨(hA w (hi.f w hw).1).1, (hi.f w hw).2.2⟩)) [0, 1] rfl ⟨rfl, rfl, trivial⟩ rfl fun j hj => ?_
  have hj2 := hj
  obtain ⟨t, k2, q2, z2, F2⟩ := j
  refine wX ?_
  refine Nd.mk ⟨Nat.le_refl 1, rfl, rfl⟩ ?_
  (conv => whnf)
  refine AppN.grow 2 (nodesC l) (nodeC t) rfl rfl ⟨Nat.le_refl 1, ⟨by show (l.length + 1) * 56 ≤ _; omega, by omega⟩, by decide⟩ fun b' c' g1 g2 => ?_
  refine wX ?_
  have e1 : nodesC l ++ nodeC t = nodesC (l ++ [t]) := by rw [nodesC_one, nodesC_app]
  have e2 : l.length + 1 = (l ++ [t]).length := by simp
  rw [e1, e2]
  refine ⟨⟨l ++ [t], some b', c', k2, q2, z2, F2⟩, ⟨hi.snoc hj2.v hj2.gn hj2.kd hj2.le hj2.f g1, by show (l ++ [t]).length ≤ n; rw [← e2]; omega⟩, by show n - (l ++ [t]).length < n - l.length; rw [← e2]; omega, ?_, ⟨wkE_refl _, wkE_refl _, wkE_refl _, wkH_nil _⟩⟩
  exact wKK
 ·refine wX ?_
  refine ⟨⟨l, ob, cap, k', q, z', F⟩, ⟨⟨hi.v, hi.gs.le (Nat.le_refl _) (by omega), hi.kd, hi.le, hi.nil, hi.cap, hi.f⟩, by show l.length = n; omega⟩, rfl, ⟨wkE_refl _, wkE_refl _, wkE_refl _, wkH_nil _⟩⟩
set_option maxHeartbeats 4000000 in
theorem gseq_c (D : Nat) (hD : D ≤ 100) (ih : ExprC D) : SeqC (D + 1) := by
 intro g ok k kok p z hp A hA
 refine ownT hm Tryz.func37 (by kernel_rfl) rfl rfl (fun _ _ => okHB_eq rfl) (fun _ _ => Nat.le_of_ble_eq_true rfl) ?_
 have hlen := ok.len
 refine wX ?_
 refine call1 (node_c _ _ _ _ _ _) ?_
 refine wX ?_
 refine callG (pick_c g ok p z 4 ⟨by decide, by decide⟩ hp A (fun w hw => (hA w hw).1)) [0, 1] rfl ⟨rfl, rfl, trivial⟩ rfl fun i hi => ?_
 obtain ⟨m, p1⟩ := i
 obtain ⟨h1, h2, h3, h4⟩ := hi
 have h1 : m < 4 := h1
 have h2 : p ≤ p1 := h2
 have h3 : p1 ≤ g.l.length := h3
 have h4 : m ≠ 0 → p < p1 := h4
 refine wX ?_
 refine LoopN.intro SmI (fun i => SmInv (V .ex) g A k p1 (4 * D + 3) i ∧ i.l.length ≤ m)
  (fun ⟨l, _, _, k', _, _, _⟩ => mkS Tryz.f37.ntmps 0 [(0, .c (.v (gP g))), (1, .c (.v (.int .i64 ((D + 1 : Nat) : Int)))), (2, .c (.v (knV k'))), (6, .c (.lp 2 0)), (7, .c (.v (.slice none 0 0))), (8, .c (.lp 3 0)), (9, .c (.v (.int .i64 ((m : Int) - (l.length : Int)))))])
  (fun ⟨l, ob, cap, _, q, z', F⟩ => [.fact F, grE g q z', .blk ndT [.v (.int .i64 0), .v (.string (bs [])), .v (.int .i64 0), .v (.slice none 0 0)], .blk ndT [.v (.int .i64 26), .v (.string (bs [])), .v (.int .i64 0), .v (.slice (at0 ob) l.length cap)], rowN4 l ob cap])
  (fun i => m - i.l.length) [.app ndT 4 [] none 0 0] rfl (fun _ => rfl) (fun _ => rfl) (fun _ _ => okHB_eq rfl)
  ⟨⟨[], none, 0, k, p1, z, A⟩, ⟨⟨(fun _ h => by cases h), (Gs.nil _ _).le (by omega) (Nat.le_refl _), kok, ⟨Nat.le_refl _, h3⟩, fun _ => rfl, Nat.le_refl _, fun w hw => ⟨hw, (fun _ h => by cases h), (hA w hw).2⟩⟩, Nat.zero_le _⟩, ?_, ⟨wkE_refl _, wkE_refl _, wkE_refl _, wkE_refl _, wkE_refl _, wkH_nil _⟩⟩ ?_
 ·(repeat' (first | exact trivial | refine And.intro (by with_reducible rfl) ?_ | (with_reducible exact wkC_refl _) | (with_reducible exact wkCs_refl _) | refine And.intro ?_ ?_))
  all_goals first | rfl | exact av_int (by simp)
 rintro ⟨l, ob, cap, k', q, z', F⟩ ⟨hi, hln⟩
 have hln : l.length ≤ m := hln
 have hnil : at0 ob = none → l = [] := at0_nil hi.nil
 have hcap : l.length ≤ cap := hi.cap
 refine wX ?_
 refine brd_dec (fun h5 => ?_) (fun h5 => ?_)
 ·refine wX ?_
  rw [low D hD]
  refine callG (ih g ok k' hi.kd q z' hi.le.2 F (fun w hw => ⟨(hA w (hi.f w hw).1).1, (hi.f w hw).2.2⟩)) [0, 1] rfl ⟨rfl, rfl, trivial⟩ rfl fun j hj => ?_
  have hj2 := hj
  obtain ⟨t, k2, q2, z2, F2⟩ := j
  refine wX ?_
  refine Nd.mk ⟨Nat.le_refl 1, rfl, rfl⟩ ?_
  (conv => whnf)
  refine AppN.grow 4 (nodesC l) (nodeC t) rfl rfl ⟨Nat.le_refl 1, ⟨by show (l.length + 1) * 56 ≤ _; omega, by omega⟩, by decide⟩ fun b' c' g1 g2 => ?_
  refine wX ?_
  have e1 : nodesC l ++ nodeC t = nodesC (l ++ [t]) := by rw [nodesC_one, nodesC_app]
  have e2 : l.length + 1 = (l ++ [t]).length := by simp
  rw [e1, e2]
  refine ⟨⟨l ++ [t], some b', c', k2, q2, z2, F2⟩, ⟨hi.snoc hj2.v hj2.gn hj2.kd hj2.le hj2.f g1, by show (l ++ [t]).length ≤ m; rw [← e2]; omega⟩, by show m - (l ++ [t]).length < m - l.length; rw [← e2]; omega, ?_, ⟨wkE_refl _, wkE_refl _, wkE_refl _, wkE_refl _, wkE_refl _, wkH_nil _⟩⟩
  exact wKK
 ·have hlm : l.length = m := by omega
  have hz := hi.gs.sz
  have hle : p1 ≤ q ∧ q ≤ g.l.length := hi.le
  refine wX ?_
  have hgn : Gn k.l ⟨26, [], 0, at0 ob, l, cap⟩ k'.l (1 + 8 * (q - p)) (4 * (D + 1)) := (Gn.q (s := l.length + 8 * (q - p1)) (d := 4 * D + 3) rfl ⟨hnil, hcap⟩ (by decide) (by omega) hi.gs).le (by omega) (by omega)
  refine ⟨_, sealG _ _ _ _ _, ⟨⟨26, [], 0, at0 ob, l, cap⟩, k', q, z', _⟩, ⟨.seq hi.v, rfl, hgn, hi.kd, ⟨Nat.le_trans h2 hle.1, hle.2⟩, fun w hw => ?_⟩, rfl, ⟨wkE_refl _, wkE_refl _, wkH_nil _⟩⟩
  obtain ⟨f1, f2, f3⟩ := hi.f w hw.1
  exact ⟨f1, treeF hgn.tk hw.2.1 rfl f2, f3⟩
end Go.Proofs.YtpikpjlhdkkigaaGreatDoor
