/-
  Lemmas (C5 Ax39 Ax41 Ax26 Ax31 Ax32 Ax33 Ax40 C6 C7 P5 C8 C9 Ax42).
-/
import Derived.WideMake
import Derived.Lib.AppendZerosOnto
import Derived.Test.YteljlkkppaobeaaDoorMe4
/-
  Contracts: find, Find (program).
-/
namespace Go.Proofs.YteljlkkppaobeaaDoor
open Go.AX Go.RowKit Go.Opts
set_option maxRecDepth 20000

def strC (l : List (List UInt8)) : List Value := l.map fun s => .string (bs s)
/-- The forms of one option. -/
def formL (i : Nat) (o : Opt) : List (Nat × Bool × List UInt8) := (i, false, o.name) :: (if o.kind == 5 then [(i, true, [110, 111, 45] ++ o.name)] else [])
theorem hit_step (name : List UInt8) (i : Nat) (o : Opt) (r : List Opt) (h : Hit) : hitS name i (o :: r) h = hitS name (i + 1) r (foldF name (formL i o) h) := by
  rw [hitS_fold, hitS_fold, formsL, foldF_app]
  rfl
theorem form_get {i k : Nat} {o : Opt} {f : Nat × Bool × List UInt8} (h : (formL i o)[k]? = some f) : f.1 = i ∧ f.2.1 = decide (k = 1) := by
  unfold formL at h
  rcases k with _ | _ | k
  · cases h; exact ⟨rfl, rfl⟩
  · rw [List.getElem?_cons_succ] at h
    split at h
    · cases h; exact ⟨rfl, rfl⟩
    · cases h
  · rw [List.getElem?_cons_succ] at h
    split at h
    · cases h
    · cases h
theorem fold_drop (name : List UInt8) (l : List (Nat × Bool × List UInt8)) (k : Nat) {f : Nat × Bool × List UInt8} (h : l[k]? = some f) (g : Hit) : foldF name (l.drop k) g = foldF name (l.drop (k + 1)) (form1 f.1 f.2.1 f.2.2 name g) := by
  obtain ⟨hlt, hx⟩ := List.getElem?_eq_some_iff.1 h
  rw [List.drop_eq_getElem_cons hlt, hx]
  rfl
theorem find_val {l : List Opt} {name : List UInt8} {h : Hit} (e : hitS name 0 l ⟨none, 0, false, 0⟩ = h) : findS l name = match h.full with
    | some (i, k) => (i, k, 0)
    | none => if h.hits = 0 then (0, false, 6) else if h.hits = 1 then (h.at_, h.no, 0) else (0, false, 7) := by
  unfold findS
  simp only
  rw [e]
  cases h.full with
  | none => rfl
  | some p => obtain ⟨i, k⟩ := p; rfl
set_option maxHeartbeats 2000000 in
theorem find_c (a : Option Addr) (cap : Nat) (l : List Opt) (name : List UInt8) (ha : a = none → l = []) (hl : l.length ≤ 100000) (hn : ∀ o ∈ l, o.name.length ≤ 1000000000) : ∀ H, (∀ w, Facts H w → SlAt a (l.length * 5) (optsC l) w) →
    SpecH Tryd.prog 19 (pvs [.slice a l.length cap, .string (bs name)]) H (Ret (.tuple #[.int .i64 ((findS l name).1 : Int), .bool (findS l name).2.1, .int .i64 (findS l name).2.2]) H) := by
  refine factC hm Tryd.func19 (by kernel_rfl) rfl rfl ?_
  (first | refine wX ?_ | exact wZ)
  refine loopS (Nat × Hit) (fun ⟨i, h⟩ => i ≤ l.length ∧ h.full = none ∧ h.hits ≤ 2 * i ∧ hitS name 0 l ⟨none, 0, false, 0⟩ = hitS name i (l.drop i) h) (fun ⟨i, h⟩ => mkS Tryd.f19.ntmps 0 [(0, .c (.v (.slice a l.length cap))), (1, .c (.v (.string (bs name)))), (4, .c (.v (.int .i64 0))), (5, .c (.v (.bool false))), (6, .c (.v (.int .i64 0))), (7, .c (.v (.int .i64 (h.at_ : Int)))), (8, .c (.v (.bool h.no))), (9, .c (.v (.int .i64 (h.hits : Int)))), (15, .c (.v (.slice a l.length cap))), (16, .c (.v (.int .i64 (l.length : Int)))), (17, .c (.v (.int .i64 (i : Int))))]) (fun ⟨i, _⟩ => l.length - i) rfl (fun _ => rfl) ⟨0, ⟨none, 0, false, 0⟩⟩ ⟨Nat.zero_le _, rfl, Nat.le_refl _, rfl⟩ ?_ fun ⟨i, h⟩ ⟨hi, hfull, hhits, he⟩ => ?_
  · (repeat' (first | exact trivial | refine And.intro (by with_reducible rfl) ?_ | (with_reducible exact wkC_refl _) | (with_reducible exact wkCs_refl _) | refine And.intro ?_ ?_))
    all_goals rfl
  (first | refine wX ?_ | exact wZ)
  refine brd_dec (fun h1 => ?_) (fun h1 => ?_)
  · obtain ⟨o, ho⟩ : ∃ o, l[i]? = some o := ⟨_, List.getElem?_eq_getElem (by omega)⟩
    have hsa : a.isSome = true := by
      cases a with
      | none => rw [ha rfl] at ho; cases ho
      | some b => rfl
    have hdc : l.drop i = o :: l.drop (i + 1) := by
      obtain ⟨hlt, hx⟩ := List.getElem?_eq_some_iff.1 ho
      rw [List.drop_eq_getElem_cons hlt, hx]
    rw [hdc] at he
    have hnl := hn o (List.mem_of_getElem? ho)
    have hnz := bs_size o.name
    (first | refine wX ?_ | exact wZ)
    refine Nd.mk ⟨hsa, by omega, by omega⟩ ?_
    (first | refine wX ?_ | exact wZ)
    refine LdN.agg (optC o) rfl (fun w hw => hw.1) rfl (fun j hj => by
      rw [Int.toNat_natCast]
      exact optsC_get l i j hj ho) ?_
    ((conv => whnf); (repeat ((first | refine BoxN.own ?_ | refine VrN.norm (wrap_i64 (by omega)) ?_ | refine VrN.keep ?_ | refine DrawN.calm (by decide +kernel) ?_ | refine Nd.mk (by decide +kernel) ?_ | refine Nd.mk (by omega) ?_ | (refine Nd.mk ?_ ?_; focus ((repeat' (first | exact trivial | exact wkE_refl _ | refine And.intro ?_ ?_)); done)) | refine RdN.intro _ rfl (by rfl) ?_); (conv => whnf))))
    refine RwN.known [_] rfl fun fb => ?_
    (first | refine wX ?_ | exact wZ)
    cases h5 : o.kind == 5 with
    | false =>
      (first | refine wX ?_ | exact wZ)
      -- fb: the block of the forms, 1: their number, 1: the capacity
      have hfn : (formL i o).length = 1 := by simp [formL, h5]
      refine loopS (Nat × Hit) (fun ⟨k, g⟩ => k ≤ 1 ∧ g.full = none ∧ g.hits ≤ 2 * i + k ∧ foldF name ((formL i o).drop k) g = foldF name (formL i o) h) (fun ⟨k, g⟩ => mkS Tryd.f19.ntmps 0 [(0, .c (.v (.slice a l.length cap))), (1, .c (.v (.string (bs name)))), (4, .c (.v (.int .i64 0))), (5, .c (.v (.bool false))), (6, .c (.v (.int .i64 0))), (7, .c (.v (.int .i64 (g.at_ : Int)))), (8, .c (.v (.bool g.no))), (9, .c (.v (.int .i64 (g.hits : Int)))), (10, .c (.v (.int .i64 (i : Int)))), (15, .c (.v (.slice a l.length cap))), (16, .c (.v (.int .i64 (l.length : Int)))), (17, .c (.v (.int .i64 (i : Int)))), (34, .c (.v (.slice (some ⟨fb, 0, none⟩) 1 1))), (35, .c (.v (.int .i64 1))), (36, .c (.v (.int .i64 (k : Int))))]) (fun ⟨k, _⟩ => 1 - k) rfl (fun _ => rfl) ⟨0, h⟩ ⟨Nat.zero_le _, hfull, by show h.hits ≤ 2 * i + 0; omega, rfl⟩ ?_ fun ⟨k, g⟩ ⟨hk, hgf, hgh, hge⟩ => ?_
      · (repeat' (first | exact trivial | refine And.intro (by with_reducible rfl) ?_ | (with_reducible exact wkC_refl _) | (with_reducible exact wkCs_refl _) | refine And.intro ?_ ?_))
        all_goals rfl
      (first | refine wX ?_ | exact wZ)
      refine brd_dec (fun h2 => ?_) (fun h2 => ?_)
      · obtain ⟨f, hf⟩ : ∃ f, (formL i o)[k]? = some f := ⟨_, List.getElem?_eq_getElem (by rw [hfn]; omega)⟩
        obtain ⟨hf1, hf2⟩ := form_get hf
        have hd := fold_drop name (formL i o) k hf g
        rw [hge] at hd
        have hcell : (.string (bs f.2.2) : Value) ∈ [(.string (bs f.2.2) : Value)] := List.mem_singleton.2 rfl
        (first | refine wX ?_ | exact wZ)
        try refine Nd.mk ⟨rfl, by omega, by omega⟩ ?_
        (first | refine wX ?_ | exact wZ)
        refine LdN.one (.string (bs f.2.2)) rfl (fun w hw => hw.2.1) (by
          rw [Int.toNat_natCast]
          rcases k with _ | _ | k
          · cases hf; rfl
          · first | (exfalso; omega) | (simp [formL, h5] at hf; subst hf; rfl)
          · omega) ?_
        (first | refine wX ?_ | exact wZ)
        rw [name_eq]
        cases hn : f.2.2 == name with
        | true =>
          have hst : form1 f.1 f.2.1 f.2.2 name g = { g with full := some (i, decide (k = 1)) } := by
            unfold form1
            rw [hgf, if_neg (by simp), if_pos hn, hf1, hf2]
          rw [hst, fold_done name ((formL i o).drop (k + 1)) { g with full := some (i, decide (k = 1)) } rfl] at hd
          rw [hit_step, hd, show hitS name (i + 1) (l.drop (i + 1)) { g with full := some (i, decide (k = 1)) } = { g with full := some (i, decide (k = 1)) } by rw [hitS_fold, fold_done _ _ _ rfl]] at he
          rw [find_val he]
          (first | refine wX ?_ | exact wZ)
          rw [show ((k : Int) == 1) = decide (k = 1) by rw [Bool.eq_iff_iff, beq_iff_eq, decide_eq_true_eq]; omega]
        | false =>
          have hgo : ∀ g', form1 f.1 f.2.1 f.2.2 name g = g' → g'.full = none ∧ foldF name ((formL i o).drop (k + 1)) g' = foldF name (formL i o) h := fun g' hg' => by
            rw [hg'] at hd
            refine ⟨?_, hd.symm⟩
            rw [← hg']
            unfold form1
            rw [hgf, if_neg (by simp), if_neg (by simp [hn])]
            split <;> first | rfl | exact hgf
          (first | refine wX ?_ | exact wZ)
          rw [show ((bs name).data.toList == (⟨#[]⟩ : ByteArray).data.toList) = (name == []) by rw [bs_list]]
          cases hne : name == [] with
          | true =>
            have hs : form1 f.1 f.2.1 f.2.2 name g = g := by
              unfold form1
              rw [hgf, if_neg (by simp), if_neg (by simp [hn]), if_neg (by rw [bne, hne]; simp)]
            obtain ⟨ha1, ha2⟩ := hgo g hs
            (first | refine wX ?_ | exact wZ)
            refine ⟨⟨k + 1, g⟩, ⟨by omega, ha1, by omega, ha2⟩, by show 1 - (k + 1) < 1 - k; omega, ?_, by (repeat' (first | exact trivial | exact wkE_refl _ | refine And.intro ?_ ?_))⟩
            (repeat' (first | exact trivial | refine And.intro (by with_reducible rfl) ?_ | (with_reducible exact wkC_refl _) | (with_reducible exact wkCs_refl _) | refine And.intro ?_ ?_))
            all_goals first | rfl | exact av_int (by rw [wrap_i64 (by omega)]; omega)
          | false =>
            (first | refine wX ?_ | exact wZ)
            refine call1 (HasPrefix_c f.2.2 name _) ?_
            cases hpf : name.isPrefixOf f.2.2 with
            | false =>
              have hs : form1 f.1 f.2.1 f.2.2 name g = g := by
                unfold form1
                rw [hgf, if_neg (by simp), if_neg (by simp [hn]), if_neg (by rw [hpf]; simp)]
              obtain ⟨ha1, ha2⟩ := hgo g hs
              (first | refine wX ?_ | exact wZ)
              refine ⟨⟨k + 1, g⟩, ⟨by omega, ha1, by omega, ha2⟩, by show 1 - (k + 1) < 1 - k; omega, ?_, by (repeat' (first | exact trivial | exact wkE_refl _ | refine And.intro ?_ ?_))⟩
              (repeat' (first | exact trivial | refine And.intro (by with_reducible rfl) ?_ | (with_reducible exact wkC_refl _) | (with_reducible exact wkCs_refl _) | refine And.intro ?_ ?_))
              all_goals first | rfl | exact av_int (by rw [wrap_i64 (by omega)]; omega)
            | true =>
              have hs : form1 f.1 f.2.1 f.2.2 name g = { g with at_ := i, no := decide (k = 1), hits := g.hits + 1 } := by
                unfold form1
                rw [hgf, if_neg (by simp), if_neg (by simp [hn]), if_pos (by rw [bne, hne, hpf]; rfl), hf1, hf2]
              obtain ⟨ha1, ha2⟩ := hgo _ hs
              (first | refine wX ?_ | exact wZ)
              refine ⟨⟨k + 1, { g with at_ := i, no := decide (k = 1), hits := g.hits + 1 }⟩, ⟨by omega, hgf, by show g.hits + 1 ≤ 2 * i + (k + 1); omega, ha2⟩, by show 1 - (k + 1) < 1 - k; omega, ?_, by (repeat' (first | exact trivial | exact wkE_refl _ | refine And.intro ?_ ?_))⟩
              (repeat' (first | exact trivial | refine And.intro (by with_reducible rfl) ?_ | (with_reducible exact wkC_refl _) | (with_reducible exact wkCs_refl _) | refine And.intro ?_ ?_))
              all_goals first | rfl | exact av_int (by rw [wrap_i64 (by omega)]; omega) | (congr 3; rw [Bool.eq_iff_iff, beq_iff_eq, decide_eq_true_eq]; omega)
      · have hk2 : k = 1 := by omega
        rw [hk2, List.drop_of_length_le (by rw [hfn]; exact Nat.le_refl _)] at hge
        rw [hit_step, ← hge] at he
        (first | refine wX ?_ | exact wZ)
        refine ⟨⟨i + 1, g⟩, ⟨by omega, hgf, by omega, he⟩, by show l.length - (i + 1) < l.length - i; omega, ?_, by (repeat' (first | exact trivial | exact wkE_refl _ | refine And.intro ?_ ?_))⟩
        (repeat' (first | exact trivial | refine And.intro (by with_reducible rfl) ?_ | (with_reducible exact wkC_refl _) | (with_reducible exact wkCs_refl _) | refine And.intro ?_ ?_))
        all_goals first | rfl | exact av_int (by rw [wrap_i64 (by omega)]; omega)
    | true =>
      ((conv => whnf); (repeat ((first | refine BoxN.own ?_ | refine VrN.norm (wrap_i64 (by omega)) ?_ | refine VrN.keep ?_ | refine DrawN.calm (by decide +kernel) ?_ | refine Nd.mk (by decide +kernel) ?_ | refine Nd.mk (by omega) ?_ | (refine Nd.mk ?_ ?_; focus ((repeat' (first | exact trivial | exact wkE_refl _ | refine And.intro ?_ ?_)); done)) | refine RdN.intro _ rfl (by rfl) ?_); (conv => whnf))))
      refine Nd.mk (by rw [hnz]; show 3 + _ < _; omega) ?_
      rw [show (⟨#[110, 111, 45]⟩ : ByteArray) = bs [110, 111, 45] from rfl, bs_app]
      (first | refine wX ?_ | exact wZ)
      try refine Nd.mk ⟨Nat.le_refl 1, rfl, rfl⟩ ?_
      (conv => whnf)
      refine AppN.grow 2 [.string (bs o.name)] [.string (bs ([110, 111, 45] ++ o.name))] rfl rfl ⟨Nat.le_refl 1, ⟨by decide, by decide⟩, Nat.one_ne_zero⟩ fun b1 c1 hc1 hc2 => ?_
      (first | refine wX ?_ | exact wZ)
      -- b1: the block of the forms, 2: their number, c1: the capacity
      have hfn : (formL i o).length = 2 := by simp [formL, h5]
      refine loopS (Nat × Hit) (fun ⟨k, g⟩ => k ≤ 2 ∧ g.full = none ∧ g.hits ≤ 2 * i + k ∧ foldF name ((formL i o).drop k) g = foldF name (formL i o) h) (fun ⟨k, g⟩ => mkS Tryd.f19.ntmps 0 [(0, .c (.v (.slice a l.length cap))), (1, .c (.v (.string (bs name)))), (4, .c (.v (.int .i64 0))), (5, .c (.v (.bool false))), (6, .c (.v (.int .i64 0))), (7, .c (.v (.int .i64 (g.at_ : Int)))), (8, .c (.v (.bool g.no))), (9, .c (.v (.int .i64 (g.hits : Int)))), (10, .c (.v (.int .i64 (i : Int)))), (15, .c (.v (.slice a l.length cap))), (16, .c (.v (.int .i64 (l.length : Int)))), (17, .c (.v (.int .i64 (i : Int)))), (34, .c (.v (.slice (some ⟨b1, 0, none⟩) 2 c1))), (35, .c (.v (.int .i64 2))), (36, .c (.v (.int .i64 (k : Int))))]) (fun ⟨k, _⟩ => 2 - k) rfl (fun _ => rfl) ⟨0, h⟩ ⟨Nat.zero_le _, hfull, by show h.hits ≤ 2 * i + 0; omega, rfl⟩ ?_ fun ⟨k, g⟩ ⟨hk, hgf, hgh, hge⟩ => ?_
      · (repeat' (first | exact trivial | refine And.intro (by with_reducible rfl) ?_ | (with_reducible exact wkC_refl _) | (with_reducible exact wkCs_refl _) | refine And.intro ?_ ?_))
        all_goals rfl
      (first | refine wX ?_ | exact wZ)
      refine brd_dec (fun h2 => ?_) (fun h2 => ?_)
      · obtain ⟨f, hf⟩ : ∃ f, (formL i o)[k]? = some f := ⟨_, List.getElem?_eq_getElem (by rw [hfn]; omega)⟩
        obtain ⟨hf1, hf2⟩ := form_get hf
        have hd := fold_drop name (formL i o) k hf g
        rw [hge] at hd
        have hcell : (.string (bs f.2.2) : Value) ∈ [(.string (bs f.2.2) : Value)] := List.mem_singleton.2 rfl
        (first | refine wX ?_ | exact wZ)
        try refine Nd.mk ⟨rfl, by omega, by omega⟩ ?_
        (first | refine wX ?_ | exact wZ)
        refine LdN.one (.string (bs f.2.2)) rfl (fun w hw => hw.2.1) (by
          rw [Int.toNat_natCast]
          rcases k with _ | _ | k
          · cases hf; rfl
          · first | (exfalso; omega) | (simp [formL, h5] at hf; subst hf; rfl)
          · omega) ?_
        (first | refine wX ?_ | exact wZ)
        rw [name_eq]
        cases hn : f.2.2 == name with
        | true =>
          have hst : form1 f.1 f.2.1 f.2.2 name g = { g with full := some (i, decide (k = 1)) } := by
            unfold form1
            rw [hgf, if_neg (by simp), if_pos hn, hf1, hf2]
          rw [hst, fold_done name ((formL i o).drop (k + 1)) { g with full := some (i, decide (k = 1)) } rfl] at hd
          rw [hit_step, hd, show hitS name (i + 1) (l.drop (i + 1)) { g with full := some (i, decide (k = 1)) } = { g with full := some (i, decide (k = 1)) } by rw [hitS_fold, fold_done _ _ _ rfl]] at he
          rw [find_val he]
          (first | refine wX ?_ | exact wZ)
          rw [show ((k : Int) == 1) = decide (k = 1) by rw [Bool.eq_iff_iff, beq_iff_eq, decide_eq_true_eq]; omega]
        | false =>
          have hgo : ∀ g', form1 f.1 f.2.1 f.2.2 name g = g' → g'.full = none ∧ foldF name ((formL i o).drop (k + 1)) g' = foldF name (formL i o) h := fun g' hg' => by
            rw [hg'] at hd
            refine ⟨?_, hd.symm⟩
            rw [← hg']
            unfold form1
            rw [hgf, if_neg (by simp), if_neg (by simp [hn])]
            split <;> first | rfl | exact hgf
          (first | refine wX ?_ | exact wZ)
          rw [show ((bs name).data.toList == (⟨#[]⟩ : ByteArray).data.toList) = (name == []) by rw [bs_list]]
          cases hne : name == [] with
          | true =>
            have hs : form1 f.1 f.2.1 f.2.2 name g = g := by
              unfold form1
              rw [hgf, if_neg (by simp), if_neg (by simp [hn]), if_neg (by rw [bne, hne]; simp)]
            obtain ⟨ha1, ha2⟩ := hgo g hs
            (first | refine wX ?_ | exact wZ)
            refine ⟨⟨k + 1, g⟩, ⟨by omega, ha1, by omega, ha2⟩, by show 2 - (k + 1) < 2 - k; omega, ?_, by (repeat' (first | exact trivial | exact wkE_refl _ | refine And.intro ?_ ?_))⟩
            (repeat' (first | exact trivial | refine And.intro (by with_reducible rfl) ?_ | (with_reducible exact wkC_refl _) | (with_reducible exact wkCs_refl _) | refine And.intro ?_ ?_))
            all_goals first | rfl | exact av_int (by rw [wrap_i64 (by omega)]; omega)
          | false =>
            (first | refine wX ?_ | exact wZ)
            refine call1 (HasPrefix_c f.2.2 name _) ?_
            cases hpf : name.isPrefixOf f.2.2 with
            | false =>
              have hs : form1 f.1 f.2.1 f.2.2 name g = g := by
                unfold form1
                rw [hgf, if_neg (by simp), if_neg (by simp [hn]), if_neg (by rw [hpf]; simp)]
              obtain ⟨ha1, ha2⟩ := hgo g hs
              (first | refine wX ?_ | exact wZ)
              refine ⟨⟨k + 1, g⟩, ⟨by omega, ha1, by omega, ha2⟩, by show 2 - (k + 1) < 2 - k; omega, ?_, by (repeat' (first | exact trivial | exact wkE_refl _ | refine And.intro ?_ ?_))⟩
              (repeat' (first | exact trivial | refine And.intro (by with_reducible rfl) ?_ | (with_reducible exact wkC_refl _) | (with_reducible exact wkCs_refl _) | refine And.intro ?_ ?_))
              all_goals first | rfl | exact av_int (by rw [wrap_i64 (by omega)]; omega)
            | true =>
              have hs : form1 f.1 f.2.1 f.2.2 name g = { g with at_ := i, no := decide (k = 1), hits := g.hits + 1 } := by
                unfold form1
                rw [hgf, if_neg (by simp), if_neg (by simp [hn]), if_pos (by rw [bne, hne, hpf]; rfl), hf1, hf2]
              obtain ⟨ha1, ha2⟩ := hgo _ hs
              (first | refine wX ?_ | exact wZ)
              refine ⟨⟨k + 1, { g with at_ := i, no := decide (k = 1), hits := g.hits + 1 }⟩, ⟨by omega, hgf, by show g.hits + 1 ≤ 2 * i + (k + 1); omega, ha2⟩, by show 2 - (k + 1) < 2 - k; omega, ?_, by (repeat' (first | exact trivial | exact wkE_refl _ | refine And.intro ?_ ?_))⟩
              (repeat' (first | exact trivial | refine And.intro (by with_reducible rfl) ?_ | (with_reducible exact wkC_refl _) | (with_reducible exact wkCs_refl _) | refine And.intro ?_ ?_))
              all_goals first | rfl | exact av_int (by rw [wrap_i64 (by omega)]; omega) | (congr 3; rw [Bool.eq_iff_iff, beq_iff_eq, decide_eq_true_eq]; omega)
      · have hk2 : k = 2 := by omega
        rw [hk2, List.drop_of_length_le (by rw [hfn]; exact Nat.le_refl _)] at hge
        rw [hit_step, ← hge] at he
        (first | refine wX ?_ | exact wZ)
        refine ⟨⟨i + 1, g⟩, ⟨by omega, hgf, by omega, he⟩, by show l.length - (i + 1) < l.length - i; omega, ?_, by (repeat' (first | exact trivial | exact wkE_refl _ | refine And.intro ?_ ?_))⟩
        (repeat' (first | exact trivial | refine And.intro (by with_reducible rfl) ?_ | (with_reducible exact wkC_refl _) | (with_reducible exact wkCs_refl _) | refine And.intro ?_ ?_))
        all_goals first | rfl | exact av_int (by rw [wrap_i64 (by omega)]; omega)
  · have hin : i = l.length := by omega
    subst hin
    rw [List.drop_of_length_le (Nat.le_refl _)] at he
    have he' : hitS name 0 l ⟨none, 0, false, 0⟩ = h := he
    rw [find_val he', hfull]
    (first | refine wX ?_ | exact wZ)
    refine brd_eq (fun h9 => ?_) (fun h9 => ?_)
    · (first | refine wX ?_ | exact wZ)
      rw [if_pos (by omega)]
      rfl
    · (first | refine wX ?_ | exact wZ)
      rw [if_neg (by omega)]
      refine brd_eq (fun h8 => ?_) (fun h8 => ?_)
      · (first | refine wX ?_ | exact wZ)
        rw [if_pos (by omega)]
      · (first | refine wX ?_ | exact wZ)
        rw [if_neg (by omega)]
        rfl
end Go.Proofs.YteljlkkppaobeaaDoor

/-
  AX, thirty-ninth text: some of one's own entries are over: what they say becomes facts; the others stay.
-/
namespace Go.AX

end Go.AX

/-
  AX, forty-first text: at the end of a call two slices of the call's own change their places among the entries.
-/
namespace Go.AX

def isA : Option Ent → Bool
  | some (.app ..) => true
  | _ => false
/-- Two entries change places. -/
def swE (H : List Ent) (i j : Nat) : List Ent :=
  match nthE H i, nthE H j with
  | some e, some f => (H.set i f).set j e
  | _, _ => H
theorem Sat.swE {ρ : List Loc} {S : Nat → Prop} {H : List Ent} {w : World} (h : Sat ρ S H w) {i j : Nat} (hi : isA (nthE H i) = true) (hj : isA (nthE H j) = true) (hne : Nat.beq i j = false) : Sat ρ S (swE H i j) w ∧ Ev ρ S H w ρ S (swE H i j) w := by
  unfold AX.swE
  rw [nthE_eq] at hi hj ⊢
  rw [nthE_eq]
  cases hi' : H[i]? with
  | none => rw [hi'] at hi; cases hi
  | some e =>
    cases hj' : H[j]? with
    | none => rw [hj'] at hj; cases hj
    | some f =>
      rw [hi'] at hi
      rw [hj'] at hj
      cases e <;> first | (cases hi; done) | skip
      cases f <;> first | (cases hj; done) | skip
      exact h.swap hi' hj' (Nat.ne_of_beq_eq_false hne)
/-- A contract on own entries; at the end two of them may change places. -/
theorem ownX {P : Program} (hm : P.follows .mixedOrders = true) {f : FuncId} {fn : Func} {c : Code} (hf : P.funcs[f]? = some fn) (hn : (fn.name == "runtime.NumGoroutine") = false) (hb : fn.body = some c)
    {args : List AV} {H : List Ent} (hl : Nat.ble args.length fn.ntmps = true) {ι : Type} {inv : ι → Prop} {val : ι → Value} {G : ι → List Ent} (hok : ∀ i, inv i → okH (G i).length (G i)) (hl2 : ∀ i, inv i → H.length ≤ (G i).length)
    (h : initK fn.ntmps args fun s => exec P c s H (endK P fn.results.toList fun out H' => ∃ i, inv i ∧ out = .val (.c (.v (val i))) ∧ (wkH H' (G i) ∨ ∃ p q, isA (nthE H' p) = true ∧ isA (nthE H' q) = true ∧ Nat.beq p q = false ∧ wkH (swE H' p q) (G i)))) : SpecH P f args H (RetG inv val G) := by
  refine SpecH.wkG hok hl2 ?_
  have h0 := spec_of_exec hm hf hn hb hl h
  refine ⟨h0.ok, fun ρ S w vs hs hr => (h0.run ρ S w vs hs hr).mono fun e w' ⟨ρ', S', H', out, hs', hev, hout, i, hi, hx, hw⟩ => ?_⟩
  rcases hw with hw | ⟨p, q, hp, hq, hpq, hw⟩
  · exact ⟨ρ', S', H', out, hs', hev, hout, i, hi, hx, hw⟩
  · obtain ⟨h1, h2⟩ := hs'.swE hp hq hpq
    exact ⟨ρ', S', swE H' p q, out, h1, hev.trans h2, hout, i, hi, hx, hw⟩
/-- .. ahead of a store. -/
theorem EffW.swp {P : Program} {o : Oper} {s : List AV} {H : List Ent} {K : AV → List Ent → Prop} (p q : Nat) (hp : isA (nthE H p) = true) (hq : isA (nthE H q) = true) (hne : Nat.beq p q = false) (h : EffW P o s (swE H p q) K) : EffW P o s H K := by
  intro ρ S w a hs hr
  obtain ⟨h1, h2⟩ := hs.swE hp hq hne
  obtain ⟨av, H', hK, r, v, ρ', w', e1, e2, e3, e4, e5⟩ := h ρ S w a h1 hr
  exact ⟨av, H', hK, r, v, ρ', w', e1, e2, e3, h2.trans e4, e5⟩
end Go.AX

/-
  AX, twenty-sixth text: maps with numbers as keys that the call makes, fills and asks.
-/
namespace Go.AX

end Go.AX

/-
  AX, thirty-first text: a key that a map does not have.
-/
namespace Go.AX
/-! ### Parts of strings, where memory is not looked at -/
theorem BlindW.val {P : Program} {o : Oper} {s : List AV} {K : AV → Prop} (x : Value) (hp : allPlain s o.op.operands.toList = true) (hrun : ∀ w, (execOp (plainEv s) o).run P w = .ok (.value x) w) (h : K (.c (.v x))) : ∃ x, BlindW P o s K x := ⟨x, hp, hrun, h⟩
/-- s[i:] -/
theorem BlindW.sl_l {P : Program} {o : Oper} {s : List AV} {K : AV → Prop} {t : TypeId} {x y : Operand} {b : List UInt8} {k : IntKind} {i : Int} (n : Nat) (ho : o.op = .slice t x (some y) none none) (hu : P.underlying t = some .string) (hx : opv s x = .c (.v (.string (bs b)))) (hy : opv s y = .c (.v (.int k i)))
    (h : i = (n : Int) ∧ n ≤ b.length) (hk : K (.c (.v (.string (bs (b.drop n)))))) : ∃ x, BlindW P o s K x :=
  BlindW.val (.string (bs (b.drop n))) (by rw [ho]; show allPlain s [x, y] = true; simp [allPlain, hx, hy])
    (fun w => run_op_slice ho (by
      simp only [Option.map, plainEv_v hx, plainEv_v hy]
      rw [run_sliceAt_string w t _ _ _ _ hu, run_slice_string_l w t (bs b) hu k i (by omega) (by rw [bs_size]; omega), bs_size, show i.toNat = n by omega, bs_drop])) hk
/-- s[1:] -/
theorem BlindW.tl {P : Program} {o : Oper} {s : List AV} {K : AV → Prop} {t : TypeId} {x y : Operand} {c : UInt8} {r : List UInt8} {k : IntKind} (ho : o.op = .slice t x (some y) none none) (hu : P.underlying t = some .string) (hx : opv s x = .c (.v (.string (bs (c :: r))))) (hy : opv s y = .c (.v (.int k 1)))
    (hk : K (.c (.v (.string (bs r))))) : ∃ x, BlindW P o s K x := BlindW.sl_l 1 ho hu hx hy ⟨rfl, by simp⟩ hk
theorem ReadW.tl {P : Program} {o : Oper} {s : List AV} {H : List Ent} {K : AV → Prop} {t : TypeId} {x y : Operand} {c : UInt8} {r : List UInt8} {k : IntKind} (ho : o.op = .slice t x (some y) none none) (hu : P.underlying t = some .string) (hx : opv s x = .c (.v (.string (bs (c :: r))))) (hy : opv s y = .c (.v (.int k 1)))
    (hk : K (.c (.v (.string (bs r))))) : ReadW P o s H K := ReadW.sl_l 1 ho hu hx hy ⟨rfl, by simp⟩ hk
/-- s[:j] -/
theorem BlindW.sl_h {P : Program} {o : Oper} {s : List AV} {K : AV → Prop} {t : TypeId} {x y : Operand} {b : List UInt8} {k : IntKind} {i : Int} (n : Nat) (ho : o.op = .slice t x none (some y) none) (hu : P.underlying t = some .string) (hx : opv s x = .c (.v (.string (bs b)))) (hy : opv s y = .c (.v (.int k i)))
    (h : i = (n : Int) ∧ n ≤ b.length) (hk : K (.c (.v (.string (bs (b.take n)))))) : ∃ x, BlindW P o s K x :=
  BlindW.val (.string (bs (b.take n))) (by rw [ho]; show allPlain s [x, y] = true; simp [allPlain, hx, hy])
    (fun w => run_op_slice ho (by
      simp only [Option.map, plainEv_v hx, plainEv_v hy]
      rw [run_sliceAt_string w t _ _ _ _ hu, run_slice_string_h w t (bs b) hu k i (by omega) (by rw [bs_size]; omega), show i.toNat = n by omega, bs_take])) hk
end Go.AX

/-
  AX, thirty-second text: append(l, make([]byte, n)...): so many zeros onto a slice of bytes that grows.
-/
namespace Go.AX

end Go.AX

/-
  AX, thirty-third text: readings that are the same in all worlds of a kind.
-/
namespace Go.AX

theorem ReadC.load {P : Program} {C : World → Prop} {o : Oper} {s : List AV} {K : AV → Prop} {T : TypeId} {x : Operand} {p : Addr} (v : Value) (ho : o.op = .load T x) (hx : opv s x = .c (.v (.pointer (some p)))) (hF : ∀ w, C w → (loadVar T p).run P w = .ok v w) (hk : K (.c (.v v))) : ∃ x, ReadC P C o s K x :=
  ⟨v, fun cs b e => (by rw [ho] at e; cases e), by rw [ho]; show allPlain s [x] = true; simp [allPlain, hx], fun w hw => by
    have hx2 : plainEv s x = .pointer (some p) := by unfold plainEv; rw [hx]
    unfold execOp
    simp [ho, hx2, Instr.loadAt, Instr.sureAddr, hF w hw], hk⟩
/-- A load of one cell. -/
theorem ReadC.one {P : Program} {C : World → Prop} {o : Oper} {s : List AV} {K : AV → Prop} {T : TypeId} {x : Operand} {a : Option Addr} {q k : Nat} {xs : List Value} (v : Value) (ho : o.op = .load T x) (hx : opv s x = .c (.v (.pointer (some (elemAddr a q))))) (hT : shapeT P T = some none)
    (hF : ∀ w, C w → SlAt a k xs w) (hv : xs[q]? = some v) (hk : K (.c (.v v))) : ∃ x, ReadC P C o s K x :=
  ReadC.load v ho hx (fun w hw => loadVar_cell hT ((hF w hw).cell hv)) hk
/-- A load of a struct. -/
theorem ReadC.agg {P : Program} {C : World → Prop} {o : Oper} {s : List AV} {K : AV → Prop} {T : TypeId} {x : Operand} {a : Option Addr} {q n k : Nat} {xs : List Value} (ys : List Value) (ho : o.op = .load T x) (hx : opv s x = .c (.v (.pointer (some (elemAddr a q))))) (hT : shapeT P T = some (some n))
    (hF : ∀ w, C w → SlAt a k xs w) (hl : ys.length = n) (hv : ∀ j, j < n → xs[q + j]? = ys[j]?) (hk : K (.c (.v (.agg ys.toArray)))) : ∃ x, ReadC P C o s K x :=
  ReadC.load (.agg ys.toArray) ho hx (fun w hw => loadVar_cells hT hl fun j v hj => by
    have hjn : j < n := by rw [← hl]; exact (List.getElem?_eq_some_iff.1 hj).1
    rw [elemAddr, Addr.add_add]
    exact (hF w hw).cell ((hv j hjn).trans hj)) hk
theorem ReadC.nil {P : Program} {C : World → Prop} {o : Oper} {s : List AV} {K : AV → Prop} {x : Operand} {p : Addr} (ho : o.op = .nilCheck x) (hx : opv s x = .c (.v (.pointer (some p)))) (hk : K (.c (.v (.pointer (some p))))) : ∃ x, ReadC P C o s K x :=
  ⟨.pointer (some p), fun cs b e => (by rw [ho] at e; cases e), by rw [ho]; show allPlain s [x] = true; simp [allPlain, hx], fun w _ => by
    have hx2 : plainEv s x = .pointer (some p) := by unfold plainEv; rw [hx]
    unfold execOp
    simp [ho, hx2], hk⟩
end Go.AX

/-
  AX, fortieth text: the address of an element, in a drawing region.
-/
namespace Go.AX
/-- The address of an element of a slice at a known block. -/
theorem ReadC.idx {P : Program} {C : World → Prop} {o : Oper} {s : List AV} {K : AV → Prop} {T e : TypeId} {inf : TypeInfo} {x i : Operand} {b n cap sz : Nat} {kk : IntKind} (k : Nat) (ho : o.op = .indexAddr T x i) (hu : P.underlying T = some (.slice e)) (hi : P.info? e = some inf) (hsz : inf.size = sz)
    (hx : opv s x = .c (.v (.slice (some ⟨b, 0, none⟩) n cap))) (hy : opv s i = .c (.v (.int kk (k : Int)))) (hk : k < n) (next : K (.c (.v (.pointer (some ⟨b, k * sz, none⟩))))) : ∃ x, ReadC P C o s K x :=
  ⟨.pointer (some ⟨b, k * sz, none⟩), fun cs b e => (by rw [ho] at e; cases e), by rw [ho]; show allPlain s [x, i] = true; simp [allPlain, hx, hy], fun w _ => by
    have hx2 : plainEv s x = .slice (some ⟨b, 0, none⟩) n cap := by unfold plainEv; rw [hx]
    have hy2 : plainEv s i = .int kk (k : Int) := by unfold plainEv; rw [hy]
    have h := run_indexAt (P := P) hu hi w ⟨b, 0, none⟩ n cap kk (k : Int) ⟨by omega, by omega⟩
    rw [Int.toNat_natCast, hsz, add_lit0] at h
    exact execOp_indexAddr ho (by rw [hx2, hy2]; exact h), next⟩
/-- The address of a field of a struct at a known block. -/
theorem ReadC.field {P : Program} {C : World → Prop} {o : Oper} {s : List AV} {K : AV → Prop} {T : TypeId} {x : Operand} {b q f : Nat} (fo : Nat) (ho : o.op = .fieldAddr T x f) (hx : opv s x = .c (.v (.pointer (some ⟨b, q, none⟩)))) (hf : fieldOff P T f = some fo) (next : K (.c (.v (.pointer (some ⟨b, q + fo, none⟩))))) : ∃ x, ReadC P C o s K x :=
  ⟨.pointer (some ⟨b, q + fo, none⟩), fun cs b e => (by rw [ho] at e; cases e), by rw [ho]; show allPlain s [x] = true; simp [allPlain, hx], fun w _ => by
    have hx2 : plainEv s x = .pointer (some ⟨b, q, none⟩) := by unfold plainEv; rw [hx]
    have h := fieldOff_spec (P := P) hf w ⟨b, q, none⟩
    rw [add_lit] at h
    unfold execOp
    simp only [ho, hx2, Sem.run_bind, h, Result.andThen_ok, Sem.run_pure], next⟩
end Go.AX

/-
  Contracts: the reader in memory; next, give (program).
-/
namespace Go.Proofs.YteljlkkppaobeaaDoor
open Go.AX Go.RowKit Go.Opts
set_option maxRecDepth 20000

/-- A slice of texts in memory. -/
structure VL where
  xs : List (List UInt8)
  a : Option Nat
  c : Nat
def vlV (v : VL) : Value := .slice (at0 v.a) v.xs.length v.c
def vlE (v : VL) : Ent := .app 9 1 (strC v.xs) (at0 v.a) v.xs.length v.c
/-- Where the reader lies, its options and words. -/
structure RL where
  rb : Nat
  la : Option Addr
  lc : Nat
  wa : Option Addr
  wc : Nat
  vb : Nat
  gb : Nat
def rC (R : RL) (n m at_ : Nat) (left : VL) : List Value := [.slice R.la n R.lc, .slice R.wa m R.wc, .int .i64 (at_ : Int), .slice (some ⟨R.vb, 0, none⟩) n n, .slice (some ⟨R.gb, 0, none⟩) n n, vlV left]
def rE (R : RL) (n m at_ : Nat) (left : VL) : Ent := .app 56 6 (rC R n m at_ left) (some ⟨R.rb, 0, none⟩) 1 1
def vC (n : Nat) (v : Nat → VL) : List Value := (List.range n).map fun j => vlV (v j)
def vE (R : RL) (n : Nat) (v : Nat → VL) : Ent := .app 23 1 (vC n v) (some ⟨R.vb, 0, none⟩) n n
def gC (g : List Int) : List Value := g.map fun x => .int .i64 x
def gE (R : RL) (n : Nat) (g : List Int) : Ent := .app 3 1 (gC g) (some ⟨R.gb, 0, none⟩) n n
def RdF (R : RL) (l : List Opt) (W : List (List UInt8)) (w : World) : Prop := SlAt R.la (l.length * 5) (optsC l) w ∧ SlAt R.wa W.length (strC W) w ∧ MaxF w
def rdH (R : RL) (l : List Opt) (W : List (List UInt8)) (at_ : Nat) (v : Nat → VL) (g : List Int) (left : VL) : List Ent :=
  [.fact (RdF R l W), rE R l.length W.length at_ left, vE R l.length v, gE R l.length g, vlE left, vlE (v 0), vlE (v 1), vlE (v 2), vlE (v 3), vlE (v 4), vlE (v 5), vlE (v 6), vlE (v 7)]
theorem strC_get {l : List (List UInt8)} {i : Nat} {s : List UInt8} (h : l[i]? = some s) : (strC l)[i]? = some (.string (bs s)) := by
  unfold strC; rw [List.getElem?_map, h]; rfl
theorem strC_snoc (l : List (List UInt8)) (s : List UInt8) : strC l ++ [.string (bs s)] = strC (l ++ [s]) := by simp [strC]
theorem vC_get {n i : Nat} (v : Nat → VL) (h : i < n) : (vC n v)[i]? = some (vlV (v i)) := by
  unfold vC; rw [List.getElem?_map, List.getElem?_range h]; rfl
theorem vC_len (n : Nat) (v : Nat → VL) : (vC n v).length = n := by simp [vC]
theorem vC_set {n i : Nat} (v : Nat → VL) (x : VL) (h : i < n) : (vC n v).take i ++ [vlV x] ++ (vC n v).drop (i + 1) = vC n (upd v i x) := by
  rw [show (vC n v).drop (i + 1) = (vC n v).drop (i + [vlV x].length) from rfl, put_set _ (by rw [vC_len]; exact h)]
  apply List.ext_getElem?
  intro j
  rw [List.getElem?_set]
  by_cases hj : i = j
  · subst hj
    rw [if_pos rfl, if_pos (by rw [vC_len]; exact h), vC_get _ h]
    simp [upd]
  · rw [if_neg hj]
    unfold vC
    rw [List.getElem?_map, List.getElem?_map]
    cases hr : (List.range n)[j]? with
    | none => rfl
    | some k =>
      have hk : k = j := by
        have := List.getElem?_eq_some_iff.1 hr
        obtain ⟨h1, h2⟩ := this
        rw [List.getElem_range] at h2
        exact h2.symm
      subst hk
      simp only [Option.map_some, upd]
      rw [show Nat.beq k i = false by rw [Bool.eq_false_iff]; intro h; exact hj (Nat.eq_of_beq_eq_true h).symm]
      rfl
theorem gC_get {g : List Int} {i : Nat} (h : i < g.length) : (gC g)[i]? = some (.int .i64 (g.getD i 0)) := by
  unfold gC; rw [List.getElem?_map, List.getElem?_eq_getElem h, List.getD_eq_getElem?_getD, List.getElem?_eq_getElem h]; rfl
theorem gC_set {g : List Int} {i : Nat} (x : Int) (h : i < g.length) : (gC g).take i ++ [.int .i64 x] ++ (gC g).drop (i + 1) = gC (g.set i x) := by
  rw [show (gC g).drop (i + 1) = (gC g).drop (i + [Value.int .i64 x].length) from rfl, put_set _ (by simpa [gC] using h)]
  simp [gC, List.map_set]
def nextV (r : Option (List UInt8)) : Value := .tuple #[.string (bs (r.getD [])), .bool r.isSome]
theorem next_c (R : RL) (l : List Opt) (W : List (List UInt8)) (at_ : Nat) (left : VL) (any : Bool) (hat : at_ ≤ W.length) (hW : W.length ≤ 100000) (hwa : R.wa = none → W = []) :
    SpecH Tryd.prog 55 [.c (.v (.pointer (some ⟨R.rb, 0, none⟩))), .c (.v (.bool any))] [.fact (RdF R l W), rE R l.length W.length at_ left]
      (RetG (ι := Unit) (fun _ => True) (fun _ => nextV (nextS W at_ any)) fun _ => [.fact (RdF R l W), rE R l.length W.length (if (nextS W at_ any).isSome then at_ + 1 else at_) left]) := by
  refine ownC hm Tryd.func55 (by kernel_rfl) rfl rfl (fun _ _ => okHB_eq rfl) (fun _ _ => Nat.le_refl _) ?_
  (first | refine wX ?_ | exact wZ)
  -- 2: the field, .int .i64 (at_ : Int): the value
  refine LdN.one (a := some ⟨R.rb, 0, none⟩) (q := 2) (.int .i64 (at_ : Int)) rfl (fun w hw => hw.2.1) rfl ?_
  (first | refine wX ?_ | exact wZ)
  -- 1: the field, .slice R.wa W.length R.wc: the value
  refine LdN.one (a := some ⟨R.rb, 0, none⟩) (q := 1) (.slice R.wa W.length R.wc) rfl (fun w hw => hw.2.1) rfl ?_
  (first | refine wX ?_ | exact wZ)
  refine brd_eq (fun h1 => ?_) (fun h1 => ?_)
  · have hn : nextS W at_ any = none := by
      unfold nextS
      rw [List.getElem?_eq_none (by omega)]
    rw [hn]
    (first | refine wX ?_ | exact wZ)
    exact ⟨(), trivial, rfl, wkE_refl _, wkE_refl _, wkH_nil _⟩
  · obtain ⟨s, hs⟩ : ∃ s, W[at_]? = some s := ⟨_, List.getElem?_eq_getElem (by omega)⟩
    have hsa : R.wa.isSome = true := by
      cases hr : R.wa with
      | none => rw [hwa hr] at hs; cases hs
      | some b => rfl
    have hw1 : IntKind.i64.wrap (((at_ + 1 : Nat) : Int) - 1) = (at_ : Int) := by rw [wrap_i64 (by omega)]; omega
    cases any with
    | true =>
      have hn : nextS W at_ true = some s := by unfold nextS; rw [hs]; rfl
      rw [hn]
      (first | refine wX ?_ | exact wZ)
      -- 2: the field, .int .i64 (at_ : Int): the value
      refine LdN.one (a := some ⟨R.rb, 0, none⟩) (q := 2) (.int .i64 (at_ : Int)) rfl (fun w hw => hw.2.1) rfl ?_
      (first | refine wX ?_ | exact wZ)
      refine EffW.appTo (i := 1) (q := 2) (ys := [_]) (rC R l.length W.length (at_ + 1) left) 6 rfl rfl rfl rfl rfl rfl rfl (Nat.le_of_ble_eq_true rfl) (by
        show [_, _, Value.int .i64 _, _, _, _] = [_, _, Value.int .i64 _, _, _, _]
        rw [wrap_i64 (by omega)]
        rfl) rfl ?_
      (first | refine wX ?_ | exact wZ)
      -- 1: the field, .slice R.wa W.length R.wc: the value
      refine LdN.one (a := some ⟨R.rb, 0, none⟩) (q := 1) (.slice R.wa W.length R.wc) rfl (fun w hw => hw.2.1) rfl ?_
      (first | refine wX ?_ | exact wZ)
      -- 2: the field, .int .i64 ((at_ + 1 : Nat) : Int): the value
      refine LdN.one (a := some ⟨R.rb, 0, none⟩) (q := 2) (.int .i64 ((at_ + 1 : Nat) : Int)) rfl (fun w hw => hw.2.1) rfl ?_
      (first | refine wX ?_ | exact wZ)
      rw [hw1]
      refine Nd.mk ⟨hsa, by omega, by omega⟩ ?_
      (first | refine wX ?_ | exact wZ)
      refine LdN.one (.string (bs s)) rfl (fun w hw => hw.1.2.1) (by rw [Int.toNat_natCast]; show (strC W)[at_ * 1]? = _; rw [Nat.mul_one]; exact strC_get hs) ?_
      (first | refine wX ?_ | exact wZ)
      exact ⟨(), trivial, rfl, wkE_refl _, wkE_refl _, wkH_nil _⟩
    | false =>
      (first | refine wX ?_ | exact wZ)
      -- 1: the field, .slice R.wa W.length R.wc: the value
      refine LdN.one (a := some ⟨R.rb, 0, none⟩) (q := 1) (.slice R.wa W.length R.wc) rfl (fun w hw => hw.2.1) rfl ?_
      (first | refine wX ?_ | exact wZ)
      -- 2: the field, .int .i64 (at_ : Int): the value
      refine LdN.one (a := some ⟨R.rb, 0, none⟩) (q := 2) (.int .i64 (at_ : Int)) rfl (fun w hw => hw.2.1) rfl ?_
      (first | refine wX ?_ | exact wZ)
      refine Nd.mk ⟨hsa, by omega, by omega⟩ ?_
      (first | refine wX ?_ | exact wZ)
      refine LdN.one (.string (bs s)) rfl (fun w hw => hw.1.2.1) (by rw [Int.toNat_natCast]; show (strC W)[at_ * 1]? = _; rw [Nat.mul_one]; exact strC_get hs) ?_
      (first | refine wX ?_ | exact wZ)
      refine callQ (HasPrefix_c s [45] _) ?_
      cases hp : ([45] : List UInt8).isPrefixOf s with
      | true =>
        have hn : nextS W at_ false = none := by unfold nextS; rw [hs]; simp [hp]
        rw [hn]
        (first | refine wX ?_ | exact wZ)
        exact ⟨(), trivial, rfl, wkE_refl _, wkE_refl _, wkH_nil _⟩
      | false =>
        have hn : nextS W at_ false = some s := by unfold nextS; rw [hs]; simp [hp]
        rw [hn]
        (first | refine wX ?_ | exact wZ)
        -- 2: the field, .int .i64 (at_ : Int): the value
        refine LdN.one (a := some ⟨R.rb, 0, none⟩) (q := 2) (.int .i64 (at_ : Int)) rfl (fun w hw => hw.2.1) rfl ?_
        (first | refine wX ?_ | exact wZ)
        refine EffW.appTo (i := 1) (q := 2) (ys := [_]) (rC R l.length W.length (at_ + 1) left) 6 rfl rfl rfl rfl rfl rfl rfl (Nat.le_of_ble_eq_true rfl) (by
          show [_, _, Value.int .i64 _, _, _, _] = [_, _, Value.int .i64 _, _, _, _]
          rw [wrap_i64 (by omega)]
          rfl) rfl ?_
        (first | refine wX ?_ | exact wZ)
        -- 1: the field, .slice R.wa W.length R.wc: the value
        refine LdN.one (a := some ⟨R.rb, 0, none⟩) (q := 1) (.slice R.wa W.length R.wc) rfl (fun w hw => hw.2.1) rfl ?_
        (first | refine wX ?_ | exact wZ)
        -- 2: the field, .int .i64 ((at_ + 1 : Nat) : Int): the value
        refine LdN.one (a := some ⟨R.rb, 0, none⟩) (q := 2) (.int .i64 ((at_ + 1 : Nat) : Int)) rfl (fun w hw => hw.2.1) rfl ?_
        (first | refine wX ?_ | exact wZ)
        rw [hw1]
        refine Nd.mk ⟨hsa, by omega, by omega⟩ ?_
        (first | refine wX ?_ | exact wZ)
        refine LdN.one (.string (bs s)) rfl (fun w hw => hw.1.2.1) (by rw [Int.toNat_natCast]; show (strC W)[at_ * 1]? = _; rw [Nat.mul_one]; exact strC_get hs) ?_
        (first | refine wX ?_ | exact wZ)
        exact ⟨(), trivial, rfl, wkE_refl _, wkE_refl _, wkH_nil _⟩
end Go.Proofs.YteljlkkppaobeaaDoor

/-
  Contract: give (program).
-/
namespace Go.Proofs.YteljlkkppaobeaaDoor
open Go.AX Go.RowKit Go.Opts
set_option maxRecDepth 20000

def psOf (at_ : Nat) (v : Nat → VL) (g : List Int) (left : VL) : PS := ⟨at_, fun j => (v j).xs, g, left.xs⟩
theorem upd_xs (v : Nat → VL) (i : Nat) (x : VL) (j : Nat) : (upd v i x j).xs = upd (fun j => (v j).xs) i x.xs j := by
  unfold upd
  cases Nat.beq j i <;> rfl
set_option maxHeartbeats 4000000 in
theorem give_c (R : RL) (l : List Opt) (W : List (List UInt8)) (at_ : Nat) (v : Nat → VL) (g : List Int) (left : VL) (i : Nat) (no : Bool) (value : List UInt8) (has : Bool) (o : Opt) (ho : l[i]? = some o) (hk : 0 ≤ o.kind ∧ o.kind ≤ 5) (hn8 : l.length ≤ 8) (hg : g.length = l.length) (hat : at_ ≤ W.length) (hW : W.length ≤ 100000) (hwa : R.wa = none → W = []) (hla : R.la = none → l = []) (hv : (v i).xs.length ≤ 1000000) :
    SpecH Tryd.prog 37 [.c (.v (.pointer (some ⟨R.rb, 0, none⟩))), .c (.v (.int .i64 (i : Int))), .c (.v (.bool no)), .c (.v (.string (bs value))), .c (.v (.bool has))] (rdH R l W at_ v g left)
      (RetG (ι := Nat → VL) (fun v' => ∀ j, (v' j).xs = (giveS l W i no value has (psOf at_ v g left)).1.vals j) (fun _ => .int .i64 (giveS l W i no value has (psOf at_ v g left)).2)
        fun v' => rdH R l W (giveS l W i no value has (psOf at_ v g left)).1.at_ v' (giveS l W i no value has (psOf at_ v g left)).1.given left) := by
  refine ownX hm Tryd.func37 (by kernel_rfl) rfl rfl (fun _ _ => okHB_eq rfl) (fun _ _ => Nat.le_refl _) ?_
  have hil : i < l.length := (List.getElem?_eq_some_iff.1 ho).1
  have hgi := gC_get (g := g) (i := i) (by omega)
  have hsa : R.la.isSome = true := by
    cases hr : R.la with
    | none => rw [hla hr] at ho; cases ho
    | some b => rfl
  have hkf : (optsC l)[i * 5 + 2]? = some (.int .i64 o.kind) := (optsC_get l i 2 (by decide) ho).trans rfl
  have hkA : kindAt l i = o.kind := by unfold kindAt; rw [ho]
  unfold giveS
  rw [hkA]
  generalize o.kind = k at *
  have hk6 : k = 0 ∨ k = 1 ∨ k = 2 ∨ k = 3 ∨ k = 4 ∨ k = 5 := by omega
  (first | refine wX ?_ | exact wZ)
  -- 0: the field, .slice R.la l.length R.lc: the value
  refine LdN.one (a := some ⟨R.rb, 0, none⟩) (q := 0) (.slice R.la l.length R.lc) rfl (fun w hw => hw.2.1) rfl ?_
  (first | refine wX ?_ | exact wZ)
  refine Nd.mk ⟨hsa, by omega, by omega⟩ ?_
  (first | refine wX ?_ | exact wZ)
  refine LdN.fld (.int .i64 k) rfl (fun w hw => hw.1.1) (by rw [Int.toNat_natCast]; exact hkf) ?_
  rcases hk6 with rfl | rfl | rfl | rfl | rfl | rfl
  · cases has with
    | true =>
      have hG : giveK W 0 i no value true (psOf at_ v g left) = (psOf at_ v g left, 4) := rfl
      rw [hG]
      -- nothing is changed
      (first | refine wX ?_ | exact wZ)
      exact ⟨v, fun _ => rfl, rfl, .inl ⟨wkE_refl _, wkE_refl _, wkE_refl _, wkE_refl _, wkE_refl _, wkE_refl _, wkE_refl _, wkE_refl _, wkE_refl _, wkE_refl _, wkE_refl _, wkE_refl _, wkE_refl _, wkH_nil _⟩⟩
    | false =>
      have hG : giveK W 0 i no value false (psOf at_ v g left) = (⟨at_, upd (fun j => (v j).xs) i [if no then falseL else trueL], g.set i (IntKind.i64.wrap (g.getD i 0 + 1)), left.xs⟩, 0) := rfl
      rw [hG]
      (first | refine wX ?_ | exact wZ)
      -- 4: the field, .slice (some ⟨R.gb, 0, none⟩) l.length l.length: the value
      refine LdN.one (a := some ⟨R.rb, 0, none⟩) (q := 4) (.slice (some ⟨R.gb, 0, none⟩) l.length l.length) rfl (fun w hw => hw.2.1) rfl ?_
      (first | refine wX ?_ | exact wZ)
      try refine Nd.mk ⟨rfl, by omega, by omega⟩ ?_
      (first | refine wX ?_ | exact wZ)
      refine LdN.one (.int .i64 (g.getD i 0)) rfl (fun w hw => hw.2.2.2.1) (by rw [Int.toNat_natCast]; show (gC g)[i * 1]? = _; rw [Nat.mul_one]; exact hgi) ?_
      (first | refine wX ?_ | exact wZ)
      try refine Nd.mk ⟨rfl, by omega, by omega⟩ ?_
      (first | refine wX ?_ | exact wZ)
      refine EffW.appTo (i := 3) (q := i) (ys := [.int .i64 (IntKind.i64.wrap (g.getD i 0 + 1))]) (gC (g.set i (IntKind.i64.wrap (g.getD i 0 + 1)))) 1 rfl
        (by rw [Int.toNat_natCast]; show AV.c (CV.v (Value.pointer (some ((⟨R.gb, 0, none⟩ : Addr).add (i * 1))))) = _; rw [add_lit0, Nat.mul_one]) rfl rfl rfl rfl rfl (by show i + 1 ≤ l.length * 1; omega) (gC_set _ (by omega)) rfl ?_
      cases no with
      | true =>
        -- falseL: the text; the new slice is known
        (first | refine wX ?_ | exact wZ)
        -- 3: the field, .slice (some ⟨R.vb, 0, none⟩) l.length l.length: the value
        refine LdN.one (a := some ⟨R.rb, 0, none⟩) (q := 3) (.slice (some ⟨R.vb, 0, none⟩) l.length l.length) rfl (fun w hw => hw.2.1) rfl ?_
        ((conv => whnf); (repeat ((first | refine BoxN.own ?_ | refine VrN.norm (wrap_i64 (by omega)) ?_ | refine VrN.keep ?_ | refine DrawN.calm (by decide +kernel) ?_ | refine Nd.mk (by decide +kernel) ?_ | refine Nd.mk (by omega) ?_ | (refine Nd.mk ?_ ?_; focus ((repeat' (first | exact trivial | exact wkE_refl _ | refine And.intro ?_ ?_)); done)) | refine RdN.intro _ rfl (by rfl) ?_); (conv => whnf))))
        refine RwN.known [_] rfl fun nb => ?_
        (first | refine wX ?_ | exact wZ)
        try refine Nd.mk ⟨rfl, by omega, by omega⟩ ?_
        (first | refine wX ?_ | exact wZ)
        refine EffW.appTo (i := 2) (q := i) (ys := [vlV ⟨[falseL], some nb, 1⟩]) (vC l.length (upd v i ⟨[falseL], some nb, 1⟩)) 1 rfl
          (by rw [Int.toNat_natCast]; show AV.c (CV.v (Value.pointer (some ((⟨R.vb, 0, none⟩ : Addr).add (i * 1))))) = _; rw [add_lit0, Nat.mul_one]) rfl rfl rfl rfl rfl (by show i + 1 ≤ l.length * 1; omega) (vC_set v _ hil) rfl ?_
        (first | refine wX ?_ | exact wZ)
        refine ⟨upd v i ⟨[falseL], some nb, 1⟩, fun j => upd_xs v i _ j, rfl, .inr ⟨5 + i, 13, ?_⟩⟩
        have hi8 : i < 8 := by omega
        clear hgi ho hil
        rcases i with _ | _ | _ | _ | _ | _ | _ | _ | i <;> first | exact ⟨rfl, rfl, rfl, wkE_refl _, wkE_refl _, wkE_refl _, wkE_refl _, wkE_refl _, wkE_refl _, wkE_refl _, wkE_refl _, wkE_refl _, wkE_refl _, wkE_refl _, wkE_refl _, wkE_refl _, wkH_nil _⟩ | omega
      | false =>
        -- trueL: the text; the new slice is known
        (first | refine wX ?_ | exact wZ)
        -- 3: the field, .slice (some ⟨R.vb, 0, none⟩) l.length l.length: the value
        refine LdN.one (a := some ⟨R.rb, 0, none⟩) (q := 3) (.slice (some ⟨R.vb, 0, none⟩) l.length l.length) rfl (fun w hw => hw.2.1) rfl ?_
        ((conv => whnf); (repeat ((first | refine BoxN.own ?_ | refine VrN.norm (wrap_i64 (by omega)) ?_ | refine VrN.keep ?_ | refine DrawN.calm (by decide +kernel) ?_ | refine Nd.mk (by decide +kernel) ?_ | refine Nd.mk (by omega) ?_ | (refine Nd.mk ?_ ?_; focus ((repeat' (first | exact trivial | exact wkE_refl _ | refine And.intro ?_ ?_)); done)) | refine RdN.intro _ rfl (by rfl) ?_); (conv => whnf))))
        refine RwN.known [_] rfl fun nb => ?_
        (first | refine wX ?_ | exact wZ)
        try refine Nd.mk ⟨rfl, by omega, by omega⟩ ?_
        (first | refine wX ?_ | exact wZ)
        refine EffW.appTo (i := 2) (q := i) (ys := [vlV ⟨[trueL], some nb, 1⟩]) (vC l.length (upd v i ⟨[trueL], some nb, 1⟩)) 1 rfl
          (by rw [Int.toNat_natCast]; show AV.c (CV.v (Value.pointer (some ((⟨R.vb, 0, none⟩ : Addr).add (i * 1))))) = _; rw [add_lit0, Nat.mul_one]) rfl rfl rfl rfl rfl (by show i + 1 ≤ l.length * 1; omega) (vC_set v _ hil) rfl ?_
        (first | refine wX ?_ | exact wZ)
        refine ⟨upd v i ⟨[trueL], some nb, 1⟩, fun j => upd_xs v i _ j, rfl, .inr ⟨5 + i, 13, ?_⟩⟩
        have hi8 : i < 8 := by omega
        clear hgi ho hil
        rcases i with _ | _ | _ | _ | _ | _ | _ | _ | i <;> first | exact ⟨rfl, rfl, rfl, wkE_refl _, wkE_refl _, wkE_refl _, wkE_refl _, wkE_refl _, wkE_refl _, wkE_refl _, wkE_refl _, wkE_refl _, wkE_refl _, wkE_refl _, wkE_refl _, wkE_refl _, wkH_nil _⟩ | omega
  · -- 1: the kind; two goals stay: with a value, without
    (first | refine wX ?_ | exact wZ)
    -- 4: the field, .slice (some ⟨R.gb, 0, none⟩) l.length l.length: the value
    refine LdN.one (a := some ⟨R.rb, 0, none⟩) (q := 4) (.slice (some ⟨R.gb, 0, none⟩) l.length l.length) rfl (fun w hw => hw.2.1) rfl ?_
    (first | refine wX ?_ | exact wZ)
    try refine Nd.mk ⟨rfl, by omega, by omega⟩ ?_
    (first | refine wX ?_ | exact wZ)
    refine LdN.one (.int .i64 (g.getD i 0)) rfl (fun w hw => hw.2.2.2.1) (by rw [Int.toNat_natCast]; show (gC g)[i * 1]? = _; rw [Nat.mul_one]; exact hgi) ?_
    (first | refine wX ?_ | exact wZ)
    refine brd_dec (fun h7 => ?_) (fun h7 => ?_)
    · have hG : giveK W 1 i no value has (psOf at_ v g left) = (psOf at_ v g left, 7) := by
        unfold giveK
        rw [show (psOf at_ v g left).given.getD i 0 = g.getD i 0 from rfl, decide_eq_true h7]
        rfl
      rw [hG]
      -- nothing is changed
      (first | refine wX ?_ | exact wZ)
      exact ⟨v, fun _ => rfl, rfl, .inl ⟨wkE_refl _, wkE_refl _, wkE_refl _, wkE_refl _, wkE_refl _, wkE_refl _, wkE_refl _, wkE_refl _, wkE_refl _, wkE_refl _, wkE_refl _, wkE_refl _, wkE_refl _, wkH_nil _⟩⟩
    cases has
    rotate_left
    · have hG : giveK W 1 i no value true (psOf at_ v g left) = (⟨at_, upd (fun j => (v j).xs) i [value], g.set i (IntKind.i64.wrap (g.getD i 0 + 1)), left.xs⟩, 0) := by
        unfold giveK
        rw [show (psOf at_ v g left).given.getD i 0 = g.getD i 0 from rfl, decide_eq_false h7]
        rfl
      rw [hG]
      (first | refine wX ?_ | exact wZ)
      -- 4: the field, .slice (some ⟨R.gb, 0, none⟩) l.length l.length: the value
      refine LdN.one (a := some ⟨R.rb, 0, none⟩) (q := 4) (.slice (some ⟨R.gb, 0, none⟩) l.length l.length) rfl (fun w hw => hw.2.1) rfl ?_
      (first | refine wX ?_ | exact wZ)
      try refine Nd.mk ⟨rfl, by omega, by omega⟩ ?_
      (first | refine wX ?_ | exact wZ)
      refine LdN.one (.int .i64 (g.getD i 0)) rfl (fun w hw => hw.2.2.2.1) (by rw [Int.toNat_natCast]; show (gC g)[i * 1]? = _; rw [Nat.mul_one]; exact hgi) ?_
      (first | refine wX ?_ | exact wZ)
      try refine Nd.mk ⟨rfl, by omega, by omega⟩ ?_
      (first | refine wX ?_ | exact wZ)
      refine EffW.appTo (i := 3) (q := i) (ys := [.int .i64 (IntKind.i64.wrap (g.getD i 0 + 1))]) (gC (g.set i (IntKind.i64.wrap (g.getD i 0 + 1)))) 1 rfl
        (by rw [Int.toNat_natCast]; show AV.c (CV.v (Value.pointer (some ((⟨R.gb, 0, none⟩ : Addr).add (i * 1))))) = _; rw [add_lit0, Nat.mul_one]) rfl rfl rfl rfl rfl (by show i + 1 ≤ l.length * 1; omega) (gC_set _ (by omega)) rfl ?_
      -- value: the text; the new slice is known
      (first | refine wX ?_ | exact wZ)
      -- 3: the field, .slice (some ⟨R.vb, 0, none⟩) l.length l.length: the value
      refine LdN.one (a := some ⟨R.rb, 0, none⟩) (q := 3) (.slice (some ⟨R.vb, 0, none⟩) l.length l.length) rfl (fun w hw => hw.2.1) rfl ?_
      ((conv => whnf); (repeat ((first | refine BoxN.own ?_ | refine VrN.norm (wrap_i64 (by omega)) ?_ | refine VrN.keep ?_ | refine DrawN.calm (by decide +kernel) ?_ | refine Nd.mk (by decide +kernel) ?_ | refine Nd.mk (by omega) ?_ | (refine Nd.mk ?_ ?_; focus ((repeat' (first | exact trivial | exact wkE_refl _ | refine And.intro ?_ ?_)); done)) | refine RdN.intro _ rfl (by rfl) ?_); (conv => whnf))))
      refine RwN.known [_] rfl fun nb => ?_
      (first | refine wX ?_ | exact wZ)
      try refine Nd.mk ⟨rfl, by omega, by omega⟩ ?_
      (first | refine wX ?_ | exact wZ)
      refine EffW.appTo (i := 2) (q := i) (ys := [vlV ⟨[value], some nb, 1⟩]) (vC l.length (upd v i ⟨[value], some nb, 1⟩)) 1 rfl
        (by rw [Int.toNat_natCast]; show AV.c (CV.v (Value.pointer (some ((⟨R.vb, 0, none⟩ : Addr).add (i * 1))))) = _; rw [add_lit0, Nat.mul_one]) rfl rfl rfl rfl rfl (by show i + 1 ≤ l.length * 1; omega) (vC_set v _ hil) rfl ?_
      (first | refine wX ?_ | exact wZ)
      refine ⟨upd v i ⟨[value], some nb, 1⟩, fun j => upd_xs v i _ j, rfl, .inr ⟨5 + i, 13, ?_⟩⟩
      have hi8 : i < 8 := by omega
      clear hgi ho hil
      rcases i with _ | _ | _ | _ | _ | _ | _ | _ | i <;> first | exact ⟨rfl, rfl, rfl, wkE_refl _, wkE_refl _, wkE_refl _, wkE_refl _, wkE_refl _, wkE_refl _, wkE_refl _, wkE_refl _, wkE_refl _, wkE_refl _, wkE_refl _, wkE_refl _, wkE_refl _, wkH_nil _⟩ | omega
    · -- the next word
      (first | refine wX ?_ | exact wZ)
      refine callG (next_c R l W at_ left true hat hW hwa) [0, 1] rfl ⟨rfl, rfl, trivial⟩ rfl fun _ _ => ?_
      cases hr : nextS W at_ true with
      | none =>
        have hG : giveK W 1 i no value false (psOf at_ v g left) = (psOf at_ v g left, 14) := by
          unfold giveK takeS
          rw [show (psOf at_ v g left).given.getD i 0 = g.getD i 0 from rfl, decide_eq_false h7, show nextS W (psOf at_ v g left).at_ (!((1 : Int) == 2)) = none from hr]
          rfl
        rw [hG]
        -- nothing is changed
        (first | refine wX ?_ | exact wZ)
        exact ⟨v, fun _ => rfl, rfl, .inl ⟨wkE_refl _, wkE_refl _, wkE_refl _, wkE_refl _, wkE_refl _, wkE_refl _, wkE_refl _, wkE_refl _, wkE_refl _, wkE_refl _, wkE_refl _, wkE_refl _, wkE_refl _, wkH_nil _⟩⟩
      | some nw =>
        have hG : giveK W 1 i no value false (psOf at_ v g left) = (⟨at_ + 1, upd (fun j => (v j).xs) i [nw], g.set i (IntKind.i64.wrap (g.getD i 0 + 1)), left.xs⟩, 0) := by
          unfold giveK takeS
          rw [show (psOf at_ v g left).given.getD i 0 = g.getD i 0 from rfl, decide_eq_false h7, show nextS W (psOf at_ v g left).at_ (!((1 : Int) == 2)) = some nw from hr]
          rfl
        rw [hG]
        (first | refine wX ?_ | exact wZ)
        -- 4: the field, .slice (some ⟨R.gb, 0, none⟩) l.length l.length: the value
        refine LdN.one (a := some ⟨R.rb, 0, none⟩) (q := 4) (.slice (some ⟨R.gb, 0, none⟩) l.length l.length) rfl (fun w hw => hw.2.1) rfl ?_
        (first | refine wX ?_ | exact wZ)
        try refine Nd.mk ⟨rfl, by omega, by omega⟩ ?_
        (first | refine wX ?_ | exact wZ)
        refine LdN.one (.int .i64 (g.getD i 0)) rfl (fun w hw => hw.2.2.2.1) (by rw [Int.toNat_natCast]; show (gC g)[i * 1]? = _; rw [Nat.mul_one]; exact hgi) ?_
        (first | refine wX ?_ | exact wZ)
        try refine Nd.mk ⟨rfl, by omega, by omega⟩ ?_
        (first | refine wX ?_ | exact wZ)
        refine EffW.appTo (i := 3) (q := i) (ys := [.int .i64 (IntKind.i64.wrap (g.getD i 0 + 1))]) (gC (g.set i (IntKind.i64.wrap (g.getD i 0 + 1)))) 1 rfl
          (by rw [Int.toNat_natCast]; show AV.c (CV.v (Value.pointer (some ((⟨R.gb, 0, none⟩ : Addr).add (i * 1))))) = _; rw [add_lit0, Nat.mul_one]) rfl rfl rfl rfl rfl (by show i + 1 ≤ l.length * 1; omega) (gC_set _ (by omega)) rfl ?_
        -- nw: the text; the new slice is known
        (first | refine wX ?_ | exact wZ)
        -- 3: the field, .slice (some ⟨R.vb, 0, none⟩) l.length l.length: the value
        refine LdN.one (a := some ⟨R.rb, 0, none⟩) (q := 3) (.slice (some ⟨R.vb, 0, none⟩) l.length l.length) rfl (fun w hw => hw.2.1) rfl ?_
        ((conv => whnf); (repeat ((first | refine BoxN.own ?_ | refine VrN.norm (wrap_i64 (by omega)) ?_ | refine VrN.keep ?_ | refine DrawN.calm (by decide +kernel) ?_ | refine Nd.mk (by decide +kernel) ?_ | refine Nd.mk (by omega) ?_ | (refine Nd.mk ?_ ?_; focus ((repeat' (first | exact trivial | exact wkE_refl _ | refine And.intro ?_ ?_)); done)) | refine RdN.intro _ rfl (by rfl) ?_); (conv => whnf))))
        refine RwN.known [_] rfl fun nb => ?_
        (first | refine wX ?_ | exact wZ)
        try refine Nd.mk ⟨rfl, by omega, by omega⟩ ?_
        (first | refine wX ?_ | exact wZ)
        refine EffW.appTo (i := 2) (q := i) (ys := [vlV ⟨[nw], some nb, 1⟩]) (vC l.length (upd v i ⟨[nw], some nb, 1⟩)) 1 rfl
          (by rw [Int.toNat_natCast]; show AV.c (CV.v (Value.pointer (some ((⟨R.vb, 0, none⟩ : Addr).add (i * 1))))) = _; rw [add_lit0, Nat.mul_one]) rfl rfl rfl rfl rfl (by show i + 1 ≤ l.length * 1; omega) (vC_set v _ hil) rfl ?_
        (first | refine wX ?_ | exact wZ)
        refine ⟨upd v i ⟨[nw], some nb, 1⟩, fun j => upd_xs v i _ j, rfl, .inr ⟨5 + i, 13, ?_⟩⟩
        have hi8 : i < 8 := by omega
        clear hgi ho hil
        rcases i with _ | _ | _ | _ | _ | _ | _ | _ | i <;> first | exact ⟨rfl, rfl, rfl, wkE_refl _, wkE_refl _, wkE_refl _, wkE_refl _, wkE_refl _, wkE_refl _, wkE_refl _, wkE_refl _, wkE_refl _, wkE_refl _, wkE_refl _, wkE_refl _, wkE_refl _, wkH_nil _⟩ | omega
  · -- 2: the kind; two goals stay: with a value, without
    (first | refine wX ?_ | exact wZ)
    -- 4: the field, .slice (some ⟨R.gb, 0, none⟩) l.length l.length: the value
    refine LdN.one (a := some ⟨R.rb, 0, none⟩) (q := 4) (.slice (some ⟨R.gb, 0, none⟩) l.length l.length) rfl (fun w hw => hw.2.1) rfl ?_
    (first | refine wX ?_ | exact wZ)
    try refine Nd.mk ⟨rfl, by omega, by omega⟩ ?_
    (first | refine wX ?_ | exact wZ)
    refine LdN.one (.int .i64 (g.getD i 0)) rfl (fun w hw => hw.2.2.2.1) (by rw [Int.toNat_natCast]; show (gC g)[i * 1]? = _; rw [Nat.mul_one]; exact hgi) ?_
    (first | refine wX ?_ | exact wZ)
    refine brd_dec (fun h7 => ?_) (fun h7 => ?_)
    · have hG : giveK W 2 i no value has (psOf at_ v g left) = (psOf at_ v g left, 7) := by
        unfold giveK
        rw [show (psOf at_ v g left).given.getD i 0 = g.getD i 0 from rfl, decide_eq_true h7]
        rfl
      rw [hG]
      -- nothing is changed
      (first | refine wX ?_ | exact wZ)
      exact ⟨v, fun _ => rfl, rfl, .inl ⟨wkE_refl _, wkE_refl _, wkE_refl _, wkE_refl _, wkE_refl _, wkE_refl _, wkE_refl _, wkE_refl _, wkE_refl _, wkE_refl _, wkE_refl _, wkE_refl _, wkE_refl _, wkH_nil _⟩⟩
    cases has
    rotate_left
    · have hG : giveK W 2 i no value true (psOf at_ v g left) = (⟨at_, upd (fun j => (v j).xs) i [value], g.set i (IntKind.i64.wrap (g.getD i 0 + 1)), left.xs⟩, 0) := by
        unfold giveK
        rw [show (psOf at_ v g left).given.getD i 0 = g.getD i 0 from rfl, decide_eq_false h7]
        rfl
      rw [hG]
      (first | refine wX ?_ | exact wZ)
      -- 4: the field, .slice (some ⟨R.gb, 0, none⟩) l.length l.length: the value
      refine LdN.one (a := some ⟨R.rb, 0, none⟩) (q := 4) (.slice (some ⟨R.gb, 0, none⟩) l.length l.length) rfl (fun w hw => hw.2.1) rfl ?_
      (first | refine wX ?_ | exact wZ)
      try refine Nd.mk ⟨rfl, by omega, by omega⟩ ?_
      (first | refine wX ?_ | exact wZ)
      refine LdN.one (.int .i64 (g.getD i 0)) rfl (fun w hw => hw.2.2.2.1) (by rw [Int.toNat_natCast]; show (gC g)[i * 1]? = _; rw [Nat.mul_one]; exact hgi) ?_
      (first | refine wX ?_ | exact wZ)
      try refine Nd.mk ⟨rfl, by omega, by omega⟩ ?_
      (first | refine wX ?_ | exact wZ)
      refine EffW.appTo (i := 3) (q := i) (ys := [.int .i64 (IntKind.i64.wrap (g.getD i 0 + 1))]) (gC (g.set i (IntKind.i64.wrap (g.getD i 0 + 1)))) 1 rfl
        (by rw [Int.toNat_natCast]; show AV.c (CV.v (Value.pointer (some ((⟨R.gb, 0, none⟩ : Addr).add (i * 1))))) = _; rw [add_lit0, Nat.mul_one]) rfl rfl rfl rfl rfl (by show i + 1 ≤ l.length * 1; omega) (gC_set _ (by omega)) rfl ?_
      -- value: the text; the new slice is known
      (first | refine wX ?_ | exact wZ)
      -- 3: the field, .slice (some ⟨R.vb, 0, none⟩) l.length l.length: the value
      refine LdN.one (a := some ⟨R.rb, 0, none⟩) (q := 3) (.slice (some ⟨R.vb, 0, none⟩) l.length l.length) rfl (fun w hw => hw.2.1) rfl ?_
      ((conv => whnf); (repeat ((first | refine BoxN.own ?_ | refine VrN.norm (wrap_i64 (by omega)) ?_ | refine VrN.keep ?_ | refine DrawN.calm (by decide +kernel) ?_ | refine Nd.mk (by decide +kernel) ?_ | refine Nd.mk (by omega) ?_ | (refine Nd.mk ?_ ?_; focus ((repeat' (first | exact trivial | exact wkE_refl _ | refine And.intro ?_ ?_)); done)) | refine RdN.intro _ rfl (by rfl) ?_); (conv => whnf))))
      refine RwN.known [_] rfl fun nb => ?_
      (first | refine wX ?_ | exact wZ)
      try refine Nd.mk ⟨rfl, by omega, by omega⟩ ?_
      (first | refine wX ?_ | exact wZ)
      refine EffW.appTo (i := 2) (q := i) (ys := [vlV ⟨[value], some nb, 1⟩]) (vC l.length (upd v i ⟨[value], some nb, 1⟩)) 1 rfl
        (by rw [Int.toNat_natCast]; show AV.c (CV.v (Value.pointer (some ((⟨R.vb, 0, none⟩ : Addr).add (i * 1))))) = _; rw [add_lit0, Nat.mul_one]) rfl rfl rfl rfl rfl (by show i + 1 ≤ l.length * 1; omega) (vC_set v _ hil) rfl ?_
      (first | refine wX ?_ | exact wZ)
      refine ⟨upd v i ⟨[value], some nb, 1⟩, fun j => upd_xs v i _ j, rfl, .inr ⟨5 + i, 13, ?_⟩⟩
      have hi8 : i < 8 := by omega
      clear hgi ho hil
      rcases i with _ | _ | _ | _ | _ | _ | _ | _ | i <;> first | exact ⟨rfl, rfl, rfl, wkE_refl _, wkE_refl _, wkE_refl _, wkE_refl _, wkE_refl _, wkE_refl _, wkE_refl _, wkE_refl _, wkE_refl _, wkE_refl _, wkE_refl _, wkE_refl _, wkE_refl _, wkH_nil _⟩ | omega
    · -- the next word
      (first | refine wX ?_ | exact wZ)
      refine callG (next_c R l W at_ left false hat hW hwa) [0, 1] rfl ⟨rfl, rfl, trivial⟩ rfl fun _ _ => ?_
      cases hr : nextS W at_ false with
      | none =>
        have hG : giveK W 2 i no value false (psOf at_ v g left) = (⟨at_, upd (fun j => (v j).xs) i [[]], g.set i (IntKind.i64.wrap (g.getD i 0 + 1)), left.xs⟩, 0) := by
          unfold giveK takeS
          rw [show (psOf at_ v g left).given.getD i 0 = g.getD i 0 from rfl, decide_eq_false h7, show nextS W (psOf at_ v g left).at_ (!((2 : Int) == 2)) = none from hr]
          rfl
        rw [hG]
        (first | refine wX ?_ | exact wZ)
        -- 4: the field, .slice (some ⟨R.gb, 0, none⟩) l.length l.length: the value
        refine LdN.one (a := some ⟨R.rb, 0, none⟩) (q := 4) (.slice (some ⟨R.gb, 0, none⟩) l.length l.length) rfl (fun w hw => hw.2.1) rfl ?_
        (first | refine wX ?_ | exact wZ)
        try refine Nd.mk ⟨rfl, by omega, by omega⟩ ?_
        (first | refine wX ?_ | exact wZ)
        refine LdN.one (.int .i64 (g.getD i 0)) rfl (fun w hw => hw.2.2.2.1) (by rw [Int.toNat_natCast]; show (gC g)[i * 1]? = _; rw [Nat.mul_one]; exact hgi) ?_
        (first | refine wX ?_ | exact wZ)
        try refine Nd.mk ⟨rfl, by omega, by omega⟩ ?_
        (first | refine wX ?_ | exact wZ)
        refine EffW.appTo (i := 3) (q := i) (ys := [.int .i64 (IntKind.i64.wrap (g.getD i 0 + 1))]) (gC (g.set i (IntKind.i64.wrap (g.getD i 0 + 1)))) 1 rfl
          (by rw [Int.toNat_natCast]; show AV.c (CV.v (Value.pointer (some ((⟨R.gb, 0, none⟩ : Addr).add (i * 1))))) = _; rw [add_lit0, Nat.mul_one]) rfl rfl rfl rfl rfl (by show i + 1 ≤ l.length * 1; omega) (gC_set _ (by omega)) rfl ?_
        -- []: the text; the new slice is known
        (first | refine wX ?_ | exact wZ)
        -- 3: the field, .slice (some ⟨R.vb, 0, none⟩) l.length l.length: the value
        refine LdN.one (a := some ⟨R.rb, 0, none⟩) (q := 3) (.slice (some ⟨R.vb, 0, none⟩) l.length l.length) rfl (fun w hw => hw.2.1) rfl ?_
        ((conv => whnf); (repeat ((first | refine BoxN.own ?_ | refine VrN.norm (wrap_i64 (by omega)) ?_ | refine VrN.keep ?_ | refine DrawN.calm (by decide +kernel) ?_ | refine Nd.mk (by decide +kernel) ?_ | refine Nd.mk (by omega) ?_ | (refine Nd.mk ?_ ?_; focus ((repeat' (first | exact trivial | exact wkE_refl _ | refine And.intro ?_ ?_)); done)) | refine RdN.intro _ rfl (by rfl) ?_); (conv => whnf))))
        refine RwN.known [_] rfl fun nb => ?_
        (first | refine wX ?_ | exact wZ)
        try refine Nd.mk ⟨rfl, by omega, by omega⟩ ?_
        (first | refine wX ?_ | exact wZ)
        refine EffW.appTo (i := 2) (q := i) (ys := [vlV ⟨[[]], some nb, 1⟩]) (vC l.length (upd v i ⟨[[]], some nb, 1⟩)) 1 rfl
          (by rw [Int.toNat_natCast]; show AV.c (CV.v (Value.pointer (some ((⟨R.vb, 0, none⟩ : Addr).add (i * 1))))) = _; rw [add_lit0, Nat.mul_one]) rfl rfl rfl rfl rfl (by show i + 1 ≤ l.length * 1; omega) (vC_set v _ hil) rfl ?_
        (first | refine wX ?_ | exact wZ)
        refine ⟨upd v i ⟨[[]], some nb, 1⟩, fun j => upd_xs v i _ j, rfl, .inr ⟨5 + i, 13, ?_⟩⟩
        have hi8 : i < 8 := by omega
        clear hgi ho hil
        rcases i with _ | _ | _ | _ | _ | _ | _ | _ | i <;> first | exact ⟨rfl, rfl, rfl, wkE_refl _, wkE_refl _, wkE_refl _, wkE_refl _, wkE_refl _, wkE_refl _, wkE_refl _, wkE_refl _, wkE_refl _, wkE_refl _, wkE_refl _, wkE_refl _, wkE_refl _, wkH_nil _⟩ | omega
      | some nw =>
        have hG : giveK W 2 i no value false (psOf at_ v g left) = (⟨at_ + 1, upd (fun j => (v j).xs) i [nw], g.set i (IntKind.i64.wrap (g.getD i 0 + 1)), left.xs⟩, 0) := by
          unfold giveK takeS
          rw [show (psOf at_ v g left).given.getD i 0 = g.getD i 0 from rfl, decide_eq_false h7, show nextS W (psOf at_ v g left).at_ (!((2 : Int) == 2)) = some nw from hr]
          rfl
        rw [hG]
        (first | refine wX ?_ | exact wZ)
        -- 4: the field, .slice (some ⟨R.gb, 0, none⟩) l.length l.length: the value
        refine LdN.one (a := some ⟨R.rb, 0, none⟩) (q := 4) (.slice (some ⟨R.gb, 0, none⟩) l.length l.length) rfl (fun w hw => hw.2.1) rfl ?_
        (first | refine wX ?_ | exact wZ)
        try refine Nd.mk ⟨rfl, by omega, by omega⟩ ?_
        (first | refine wX ?_ | exact wZ)
        refine LdN.one (.int .i64 (g.getD i 0)) rfl (fun w hw => hw.2.2.2.1) (by rw [Int.toNat_natCast]; show (gC g)[i * 1]? = _; rw [Nat.mul_one]; exact hgi) ?_
        (first | refine wX ?_ | exact wZ)
        try refine Nd.mk ⟨rfl, by omega, by omega⟩ ?_
        (first | refine wX ?_ | exact wZ)
        refine EffW.appTo (i := 3) (q := i) (ys := [.int .i64 (IntKind.i64.wrap (g.getD i 0 + 1))]) (gC (g.set i (IntKind.i64.wrap (g.getD i 0 + 1)))) 1 rfl
          (by rw [Int.toNat_natCast]; show AV.c (CV.v (Value.pointer (some ((⟨R.gb, 0, none⟩ : Addr).add (i * 1))))) = _; rw [add_lit0, Nat.mul_one]) rfl rfl rfl rfl rfl (by show i + 1 ≤ l.length * 1; omega) (gC_set _ (by omega)) rfl ?_
        -- nw: the text; the new slice is known
        (first | refine wX ?_ | exact wZ)
        -- 3: the field, .slice (some ⟨R.vb, 0, none⟩) l.length l.length: the value
        refine LdN.one (a := some ⟨R.rb, 0, none⟩) (q := 3) (.slice (some ⟨R.vb, 0, none⟩) l.length l.length) rfl (fun w hw => hw.2.1) rfl ?_
        ((conv => whnf); (repeat ((first | refine BoxN.own ?_ | refine VrN.norm (wrap_i64 (by omega)) ?_ | refine VrN.keep ?_ | refine DrawN.calm (by decide +kernel) ?_ | refine Nd.mk (by decide +kernel) ?_ | refine Nd.mk (by omega) ?_ | (refine Nd.mk ?_ ?_; focus ((repeat' (first | exact trivial | exact wkE_refl _ | refine And.intro ?_ ?_)); done)) | refine RdN.intro _ rfl (by rfl) ?_); (conv => whnf))))
        refine RwN.known [_] rfl fun nb => ?_
        (first | refine wX ?_ | exact wZ)
        try refine Nd.mk ⟨rfl, by omega, by omega⟩ ?_
        (first | refine wX ?_ | exact wZ)
        refine EffW.appTo (i := 2) (q := i) (ys := [vlV ⟨[nw], some nb, 1⟩]) (vC l.length (upd v i ⟨[nw], some nb, 1⟩)) 1 rfl
          (by rw [Int.toNat_natCast]; show AV.c (CV.v (Value.pointer (some ((⟨R.vb, 0, none⟩ : Addr).add (i * 1))))) = _; rw [add_lit0, Nat.mul_one]) rfl rfl rfl rfl rfl (by show i + 1 ≤ l.length * 1; omega) (vC_set v _ hil) rfl ?_
        (first | refine wX ?_ | exact wZ)
        refine ⟨upd v i ⟨[nw], some nb, 1⟩, fun j => upd_xs v i _ j, rfl, .inr ⟨5 + i, 13, ?_⟩⟩
        have hi8 : i < 8 := by omega
        clear hgi ho hil
        rcases i with _ | _ | _ | _ | _ | _ | _ | _ | i <;> first | exact ⟨rfl, rfl, rfl, wkE_refl _, wkE_refl _, wkE_refl _, wkE_refl _, wkE_refl _, wkE_refl _, wkE_refl _, wkE_refl _, wkE_refl _, wkE_refl _, wkE_refl _, wkE_refl _, wkE_refl _, wkH_nil _⟩ | omega
  · cases has with
    | true =>
      have hG : giveK W 3 i no value true (psOf at_ v g left) = (psOf at_ v g left, 4) := rfl
      rw [hG]
      -- nothing is changed
      (first | refine wX ?_ | exact wZ)
      exact ⟨v, fun _ => rfl, rfl, .inl ⟨wkE_refl _, wkE_refl _, wkE_refl _, wkE_refl _, wkE_refl _, wkE_refl _, wkE_refl _, wkE_refl _, wkE_refl _, wkE_refl _, wkE_refl _, wkE_refl _, wkE_refl _, wkH_nil _⟩⟩
    | false =>
      have hG : giveK W 3 i no value false (psOf at_ v g left) = (⟨at_, fun j => (v j).xs, g.set i (IntKind.i64.wrap (g.getD i 0 + 1)), left.xs⟩, 0) := rfl
      rw [hG]
      (first | refine wX ?_ | exact wZ)
      -- 4: the field, .slice (some ⟨R.gb, 0, none⟩) l.length l.length: the value
      refine LdN.one (a := some ⟨R.rb, 0, none⟩) (q := 4) (.slice (some ⟨R.gb, 0, none⟩) l.length l.length) rfl (fun w hw => hw.2.1) rfl ?_
      (first | refine wX ?_ | exact wZ)
      try refine Nd.mk ⟨rfl, by omega, by omega⟩ ?_
      (first | refine wX ?_ | exact wZ)
      refine LdN.one (.int .i64 (g.getD i 0)) rfl (fun w hw => hw.2.2.2.1) (by rw [Int.toNat_natCast]; show (gC g)[i * 1]? = _; rw [Nat.mul_one]; exact hgi) ?_
      (first | refine wX ?_ | exact wZ)
      try refine Nd.mk ⟨rfl, by omega, by omega⟩ ?_
      (first | refine wX ?_ | exact wZ)
      refine EffW.appTo (i := 3) (q := i) (ys := [.int .i64 (IntKind.i64.wrap (g.getD i 0 + 1))]) (gC (g.set i (IntKind.i64.wrap (g.getD i 0 + 1)))) 1 rfl
        (by rw [Int.toNat_natCast]; show AV.c (CV.v (Value.pointer (some ((⟨R.gb, 0, none⟩ : Addr).add (i * 1))))) = _; rw [add_lit0, Nat.mul_one]) rfl rfl rfl rfl rfl (by show i + 1 ≤ l.length * 1; omega) (gC_set _ (by omega)) rfl ?_
      -- nothing is changed
      (first | refine wX ?_ | exact wZ)
      exact ⟨v, fun _ => rfl, rfl, .inl ⟨wkE_refl _, wkE_refl _, wkE_refl _, wkE_refl _, wkE_refl _, wkE_refl _, wkE_refl _, wkE_refl _, wkE_refl _, wkE_refl _, wkE_refl _, wkE_refl _, wkE_refl _, wkH_nil _⟩⟩
  · cases has with
    | true =>
      have hG : giveK W 4 i no value true (psOf at_ v g left) = (⟨at_, upd (fun j => (v j).xs) i ((v i).xs ++ [value]), g.set i (IntKind.i64.wrap (g.getD i 0 + 1)), left.xs⟩, 0) := rfl
      rw [hG]
      (first | refine wX ?_ | exact wZ)
      -- 4: the field, .slice (some ⟨R.gb, 0, none⟩) l.length l.length: the value
      refine LdN.one (a := some ⟨R.rb, 0, none⟩) (q := 4) (.slice (some ⟨R.gb, 0, none⟩) l.length l.length) rfl (fun w hw => hw.2.1) rfl ?_
      (first | refine wX ?_ | exact wZ)
      try refine Nd.mk ⟨rfl, by omega, by omega⟩ ?_
      (first | refine wX ?_ | exact wZ)
      refine LdN.one (.int .i64 (g.getD i 0)) rfl (fun w hw => hw.2.2.2.1) (by rw [Int.toNat_natCast]; show (gC g)[i * 1]? = _; rw [Nat.mul_one]; exact hgi) ?_
      (first | refine wX ?_ | exact wZ)
      try refine Nd.mk ⟨rfl, by omega, by omega⟩ ?_
      (first | refine wX ?_ | exact wZ)
      refine EffW.appTo (i := 3) (q := i) (ys := [.int .i64 (IntKind.i64.wrap (g.getD i 0 + 1))]) (gC (g.set i (IntKind.i64.wrap (g.getD i 0 + 1)))) 1 rfl
        (by rw [Int.toNat_natCast]; show AV.c (CV.v (Value.pointer (some ((⟨R.gb, 0, none⟩ : Addr).add (i * 1))))) = _; rw [add_lit0, Nat.mul_one]) rfl rfl rfl rfl rfl (by show i + 1 ≤ l.length * 1; omega) (gC_set _ (by omega)) rfl ?_
      (first | refine wX ?_ | exact wZ)
      refine DrawN.planC (fun w => SlAt (some ⟨R.rb, 0, none⟩) 6 (rC R l.length W.length at_ left) w ∧ SlAt (some ⟨R.vb, 0, none⟩) (l.length * 1) (vC l.length v) w) [0, 5, 6, 11, 14] [(1, 2), (2, 2), (3, 2), (4, 1), (7, 2), (8, 2), (9, 2), (10, 1), (12, 1), (13, 1), (15, 0), (16, 0), (17, 1)] [(18, 0)] (by decide +kernel) (fun w hw => ⟨hw.2.1, hw.2.2.1⟩) ?_
      (first | refine wX ?_ | exact wZ)
      refine ReadC.one (a := some ⟨R.rb, 0, none⟩) (q := 3) (.slice (some ⟨R.vb, 0, none⟩) l.length l.length) rfl rfl rfl (fun w hw => hw.1) rfl ?_
      (first | refine wX ?_ | exact wZ)
      refine ReadC.one (a := some ⟨R.rb, 0, none⟩) (q := 3) (.slice (some ⟨R.vb, 0, none⟩) l.length l.length) rfl rfl rfl (fun w hw => hw.1) rfl ?_
      (first | refine wX ?_ | exact wZ)
      refine ReadC.idx (sz := 1) i rfl Tryd.underlying33 rfl rfl rfl rfl hil ?_
      (first | refine wX ?_ | exact wZ)
      refine ReadC.one (a := some ⟨R.vb, 0, none⟩) (q := i) (vlV (v i)) rfl (by show AV.c (CV.v (Value.pointer (some ⟨R.vb, i * 1, none⟩))) = AV.c (CV.v (Value.pointer (some ((⟨R.vb, 0, none⟩ : Addr).add i)))); rw [add_lit0, Nat.mul_one]) rfl (fun w hw => hw.2) (vC_get v hil) ?_
      (first | refine wX ?_ | exact wZ)
      refine Nd.mk (fun w hw => ⟨hw.2.1, hw.2.2.1⟩) ?_
      have hi8 : i < 8 := by omega
      clear hgi ho
      rcases i with _ | _ | _ | _ | _ | _ | _ | _ | i
      · -- value: the text, at_: the place, 0: which one, 5: its entry
        (conv => whnf)
        try refine Nd.mk ⟨Nat.le_refl 1, rfl, rfl⟩ ?_
        (conv => whnf)
        refine AppN.grow 5 (strC (v 0).xs) [.string (bs value)] rfl rfl ⟨Nat.le_refl 1, ⟨by show ((v 0).xs.length + 1) * 16 ≤ _; have hv0 : (v 0).xs.length ≤ 1000000 := hv; omega, by have hv0 : (v 0).xs.length ≤ 1000000 := hv; show (v 0).xs.length + 1 < _; omega⟩, Nat.one_ne_zero⟩ fun b1 c1 h11 h12 => ?_
        (conv => whnf)
        refine Nd.mk (fun w hw => ⟨hw.2.1, hw.2.2.1⟩) ?_
        (first | refine wX ?_ | exact wZ)
        refine ReadC.idx (sz := 1) 0 rfl Tryd.underlying33 rfl rfl rfl rfl hil ?_
        (first | refine wX ?_ | exact wZ)
        refine EffW.appTo (i := 2) (q := 0) (ys := [.slice (some ⟨b1, 0, none⟩) ((v 0).xs.length + 1) c1]) (vC l.length (upd v 0 ⟨(v 0).xs ++ [value], some b1, c1⟩)) 1 rfl rfl rfl rfl rfl rfl rfl (by show 0 + 1 ≤ l.length * 1; omega)
          (by have e : vlV ⟨(v 0).xs ++ [value], some b1, c1⟩ = .slice (some ⟨b1, 0, none⟩) ((v 0).xs.length + 1) c1 := by simp [vlV, at0]
              rw [← e]
              exact vC_set v _ hil) rfl ?_
        (first | refine wX ?_ | exact wZ)
        refine ⟨upd v 0 ⟨(v 0).xs ++ [value], some b1, c1⟩, fun j => upd_xs v 0 _ j, rfl, .inl ⟨?_, ?_, ?_, ?_, ?_, ?_, ?_, ?_, ?_, ?_, ?_, ?_, ?_, wkH_nil _⟩⟩ <;> first | exact wkE_refl _ | exact .inl ⟨rfl, rfl, strC_snoc _ _, rfl, by show (v 0).xs.length + 1 = ((v 0).xs ++ [value]).length; simp, rfl⟩
      · -- value: the text, at_: the place, 1: which one, 6: its entry
        (conv => whnf)
        try refine Nd.mk ⟨Nat.le_refl 1, rfl, rfl⟩ ?_
        (conv => whnf)
        refine AppN.grow 6 (strC (v 1).xs) [.string (bs value)] rfl rfl ⟨Nat.le_refl 1, ⟨by show ((v 1).xs.length + 1) * 16 ≤ _; have hv0 : (v 1).xs.length ≤ 1000000 := hv; omega, by have hv0 : (v 1).xs.length ≤ 1000000 := hv; show (v 1).xs.length + 1 < _; omega⟩, Nat.one_ne_zero⟩ fun b1 c1 h11 h12 => ?_
        (conv => whnf)
        refine Nd.mk (fun w hw => ⟨hw.2.1, hw.2.2.1⟩) ?_
        (first | refine wX ?_ | exact wZ)
        refine ReadC.idx (sz := 1) 1 rfl Tryd.underlying33 rfl rfl rfl rfl hil ?_
        (first | refine wX ?_ | exact wZ)
        refine EffW.appTo (i := 2) (q := 1) (ys := [.slice (some ⟨b1, 0, none⟩) ((v 1).xs.length + 1) c1]) (vC l.length (upd v 1 ⟨(v 1).xs ++ [value], some b1, c1⟩)) 1 rfl rfl rfl rfl rfl rfl rfl (by show 1 + 1 ≤ l.length * 1; omega)
          (by have e : vlV ⟨(v 1).xs ++ [value], some b1, c1⟩ = .slice (some ⟨b1, 0, none⟩) ((v 1).xs.length + 1) c1 := by simp [vlV, at0]
              rw [← e]
              exact vC_set v _ hil) rfl ?_
        (first | refine wX ?_ | exact wZ)
        refine ⟨upd v 1 ⟨(v 1).xs ++ [value], some b1, c1⟩, fun j => upd_xs v 1 _ j, rfl, .inl ⟨?_, ?_, ?_, ?_, ?_, ?_, ?_, ?_, ?_, ?_, ?_, ?_, ?_, wkH_nil _⟩⟩ <;> first | exact wkE_refl _ | exact .inl ⟨rfl, rfl, strC_snoc _ _, rfl, by show (v 1).xs.length + 1 = ((v 1).xs ++ [value]).length; simp, rfl⟩
      · -- value: the text, at_: the place, 2: which one, 7: its entry
        (conv => whnf)
        try refine Nd.mk ⟨Nat.le_refl 1, rfl, rfl⟩ ?_
        (conv => whnf)
        refine AppN.grow 7 (strC (v 2).xs) [.string (bs value)] rfl rfl ⟨Nat.le_refl 1, ⟨by show ((v 2).xs.length + 1) * 16 ≤ _; have hv0 : (v 2).xs.length ≤ 1000000 := hv; omega, by have hv0 : (v 2).xs.length ≤ 1000000 := hv; show (v 2).xs.length + 1 < _; omega⟩, Nat.one_ne_zero⟩ fun b1 c1 h11 h12 => ?_
        (conv => whnf)
        refine Nd.mk (fun w hw => ⟨hw.2.1, hw.2.2.1⟩) ?_
        (first | refine wX ?_ | exact wZ)
        refine ReadC.idx (sz := 1) 2 rfl Tryd.underlying33 rfl rfl rfl rfl hil ?_
        (first | refine wX ?_ | exact wZ)
        refine EffW.appTo (i := 2) (q := 2) (ys := [.slice (some ⟨b1, 0, none⟩) ((v 2).xs.length + 1) c1]) (vC l.length (upd v 2 ⟨(v 2).xs ++ [value], some b1, c1⟩)) 1 rfl rfl rfl rfl rfl rfl rfl (by show 2 + 1 ≤ l.length * 1; omega)
          (by have e : vlV ⟨(v 2).xs ++ [value], some b1, c1⟩ = .slice (some ⟨b1, 0, none⟩) ((v 2).xs.length + 1) c1 := by simp [vlV, at0]
              rw [← e]
              exact vC_set v _ hil) rfl ?_
        (first | refine wX ?_ | exact wZ)
        refine ⟨upd v 2 ⟨(v 2).xs ++ [value], some b1, c1⟩, fun j => upd_xs v 2 _ j, rfl, .inl ⟨?_, ?_, ?_, ?_, ?_, ?_, ?_, ?_, ?_, ?_, ?_, ?_, ?_, wkH_nil _⟩⟩ <;> first | exact wkE_refl _ | exact .inl ⟨rfl, rfl, strC_snoc _ _, rfl, by show (v 2).xs.length + 1 = ((v 2).xs ++ [value]).length; simp, rfl⟩
      · -- value: the text, at_: the place, 3: which one, 8: its entry
        (conv => whnf)
        try refine Nd.mk ⟨Nat.le_refl 1, rfl, rfl⟩ ?_
        (conv => whnf)
        refine AppN.grow 8 (strC (v 3).xs) [.string (bs value)] rfl rfl ⟨Nat.le_refl 1, ⟨by show ((v 3).xs.length + 1) * 16 ≤ _; have hv0 : (v 3).xs.length ≤ 1000000 := hv; omega, by have hv0 : (v 3).xs.length ≤ 1000000 := hv; show (v 3).xs.length + 1 < _; omega⟩, Nat.one_ne_zero⟩ fun b1 c1 h11 h12 => ?_
        (conv => whnf)
        refine Nd.mk (fun w hw => ⟨hw.2.1, hw.2.2.1⟩) ?_
        (first | refine wX ?_ | exact wZ)
        refine ReadC.idx (sz := 1) 3 rfl Tryd.underlying33 rfl rfl rfl rfl hil ?_
        (first | refine wX ?_ | exact wZ)
        refine EffW.appTo (i := 2) (q := 3) (ys := [.slice (some ⟨b1, 0, none⟩) ((v 3).xs.length + 1) c1]) (vC l.length (upd v 3 ⟨(v 3).xs ++ [value], some b1, c1⟩)) 1 rfl rfl rfl rfl rfl rfl rfl (by show 3 + 1 ≤ l.length * 1; omega)
          (by have e : vlV ⟨(v 3).xs ++ [value], some b1, c1⟩ = .slice (some ⟨b1, 0, none⟩) ((v 3).xs.length + 1) c1 := by simp [vlV, at0]
              rw [← e]
              exact vC_set v _ hil) rfl ?_
        (first | refine wX ?_ | exact wZ)
        refine ⟨upd v 3 ⟨(v 3).xs ++ [value], some b1, c1⟩, fun j => upd_xs v 3 _ j, rfl, .inl ⟨?_, ?_, ?_, ?_, ?_, ?_, ?_, ?_, ?_, ?_, ?_, ?_, ?_, wkH_nil _⟩⟩ <;> first | exact wkE_refl _ | exact .inl ⟨rfl, rfl, strC_snoc _ _, rfl, by show (v 3).xs.length + 1 = ((v 3).xs ++ [value]).length; simp, rfl⟩
      · -- value: the text, at_: the place, 4: which one, 9: its entry
        (conv => whnf)
        try refine Nd.mk ⟨Nat.le_refl 1, rfl, rfl⟩ ?_
        (conv => whnf)
        refine AppN.grow 9 (strC (v 4).xs) [.string (bs value)] rfl rfl ⟨Nat.le_refl 1, ⟨by show ((v 4).xs.length + 1) * 16 ≤ _; have hv0 : (v 4).xs.length ≤ 1000000 := hv; omega, by have hv0 : (v 4).xs.length ≤ 1000000 := hv; show (v 4).xs.length + 1 < _; omega⟩, Nat.one_ne_zero⟩ fun b1 c1 h11 h12 => ?_
        (conv => whnf)
        refine Nd.mk (fun w hw => ⟨hw.2.1, hw.2.2.1⟩) ?_
        (first | refine wX ?_ | exact wZ)
        refine ReadC.idx (sz := 1) 4 rfl Tryd.underlying33 rfl rfl rfl rfl hil ?_
        (first | refine wX ?_ | exact wZ)
        refine EffW.appTo (i := 2) (q := 4) (ys := [.slice (some ⟨b1, 0, none⟩) ((v 4).xs.length + 1) c1]) (vC l.length (upd v 4 ⟨(v 4).xs ++ [value], some b1, c1⟩)) 1 rfl rfl rfl rfl rfl rfl rfl (by show 4 + 1 ≤ l.length * 1; omega)
          (by have e : vlV ⟨(v 4).xs ++ [value], some b1, c1⟩ = .slice (some ⟨b1, 0, none⟩) ((v 4).xs.length + 1) c1 := by simp [vlV, at0]
              rw [← e]
              exact vC_set v _ hil) rfl ?_
        (first | refine wX ?_ | exact wZ)
        refine ⟨upd v 4 ⟨(v 4).xs ++ [value], some b1, c1⟩, fun j => upd_xs v 4 _ j, rfl, .inl ⟨?_, ?_, ?_, ?_, ?_, ?_, ?_, ?_, ?_, ?_, ?_, ?_, ?_, wkH_nil _⟩⟩ <;> first | exact wkE_refl _ | exact .inl ⟨rfl, rfl, strC_snoc _ _, rfl, by show (v 4).xs.length + 1 = ((v 4).xs ++ [value]).length; simp, rfl⟩
      · -- value: the text, at_: the place, 5: which one, 10: its entry
        (conv => whnf)
        try refine Nd.mk ⟨Nat.le_refl 1, rfl, rfl⟩ ?_
        (conv => whnf)
        refine AppN.grow 10 (strC (v 5).xs) [.string (bs value)] rfl rfl ⟨Nat.le_refl 1, ⟨by show ((v 5).xs.length + 1) * 16 ≤ _; have hv0 : (v 5).xs.length ≤ 1000000 := hv; omega, by have hv0 : (v 5).xs.length ≤ 1000000 := hv; show (v 5).xs.length + 1 < _; omega⟩, Nat.one_ne_zero⟩ fun b1 c1 h11 h12 => ?_
        (conv => whnf)
        refine Nd.mk (fun w hw => ⟨hw.2.1, hw.2.2.1⟩) ?_
        (first | refine wX ?_ | exact wZ)
        refine ReadC.idx (sz := 1) 5 rfl Tryd.underlying33 rfl rfl rfl rfl hil ?_
        (first | refine wX ?_ | exact wZ)
        refine EffW.appTo (i := 2) (q := 5) (ys := [.slice (some ⟨b1, 0, none⟩) ((v 5).xs.length + 1) c1]) (vC l.length (upd v 5 ⟨(v 5).xs ++ [value], some b1, c1⟩)) 1 rfl rfl rfl rfl rfl rfl rfl (by show 5 + 1 ≤ l.length * 1; omega)
          (by have e : vlV ⟨(v 5).xs ++ [value], some b1, c1⟩ = .slice (some ⟨b1, 0, none⟩) ((v 5).xs.length + 1) c1 := by simp [vlV, at0]
              rw [← e]
              exact vC_set v _ hil) rfl ?_
        (first | refine wX ?_ | exact wZ)
        refine ⟨upd v 5 ⟨(v 5).xs ++ [value], some b1, c1⟩, fun j => upd_xs v 5 _ j, rfl, .inl ⟨?_, ?_, ?_, ?_, ?_, ?_, ?_, ?_, ?_, ?_, ?_, ?_, ?_, wkH_nil _⟩⟩ <;> first | exact wkE_refl _ | exact .inl ⟨rfl, rfl, strC_snoc _ _, rfl, by show (v 5).xs.length + 1 = ((v 5).xs ++ [value]).length; simp, rfl⟩
      · -- value: the text, at_: the place, 6: which one, 11: its entry
        (conv => whnf)
        try refine Nd.mk ⟨Nat.le_refl 1, rfl, rfl⟩ ?_
        (conv => whnf)
        refine AppN.grow 11 (strC (v 6).xs) [.string (bs value)] rfl rfl ⟨Nat.le_refl 1, ⟨by show ((v 6).xs.length + 1) * 16 ≤ _; have hv0 : (v 6).xs.length ≤ 1000000 := hv; omega, by have hv0 : (v 6).xs.length ≤ 1000000 := hv; show (v 6).xs.length + 1 < _; omega⟩, Nat.one_ne_zero⟩ fun b1 c1 h11 h12 => ?_
        (conv => whnf)
        refine Nd.mk (fun w hw => ⟨hw.2.1, hw.2.2.1⟩) ?_
        (first | refine wX ?_ | exact wZ)
        refine ReadC.idx (sz := 1) 6 rfl Tryd.underlying33 rfl rfl rfl rfl hil ?_
        (first | refine wX ?_ | exact wZ)
        refine EffW.appTo (i := 2) (q := 6) (ys := [.slice (some ⟨b1, 0, none⟩) ((v 6).xs.length + 1) c1]) (vC l.length (upd v 6 ⟨(v 6).xs ++ [value], some b1, c1⟩)) 1 rfl rfl rfl rfl rfl rfl rfl (by show 6 + 1 ≤ l.length * 1; omega)
          (by have e : vlV ⟨(v 6).xs ++ [value], some b1, c1⟩ = .slice (some ⟨b1, 0, none⟩) ((v 6).xs.length + 1) c1 := by simp [vlV, at0]
              rw [← e]
              exact vC_set v _ hil) rfl ?_
        (first | refine wX ?_ | exact wZ)
        refine ⟨upd v 6 ⟨(v 6).xs ++ [value], some b1, c1⟩, fun j => upd_xs v 6 _ j, rfl, .inl ⟨?_, ?_, ?_, ?_, ?_, ?_, ?_, ?_, ?_, ?_, ?_, ?_, ?_, wkH_nil _⟩⟩ <;> first | exact wkE_refl _ | exact .inl ⟨rfl, rfl, strC_snoc _ _, rfl, by show (v 6).xs.length + 1 = ((v 6).xs ++ [value]).length; simp, rfl⟩
      · -- value: the text, at_: the place, 7: which one, 12: its entry
        (conv => whnf)
        try refine Nd.mk ⟨Nat.le_refl 1, rfl, rfl⟩ ?_
        (conv => whnf)
        refine AppN.grow 12 (strC (v 7).xs) [.string (bs value)] rfl rfl ⟨Nat.le_refl 1, ⟨by show ((v 7).xs.length + 1) * 16 ≤ _; have hv0 : (v 7).xs.length ≤ 1000000 := hv; omega, by have hv0 : (v 7).xs.length ≤ 1000000 := hv; show (v 7).xs.length + 1 < _; omega⟩, Nat.one_ne_zero⟩ fun b1 c1 h11 h12 => ?_
        (conv => whnf)
        refine Nd.mk (fun w hw => ⟨hw.2.1, hw.2.2.1⟩) ?_
        (first | refine wX ?_ | exact wZ)
        refine ReadC.idx (sz := 1) 7 rfl Tryd.underlying33 rfl rfl rfl rfl hil ?_
        (first | refine wX ?_ | exact wZ)
        refine EffW.appTo (i := 2) (q := 7) (ys := [.slice (some ⟨b1, 0, none⟩) ((v 7).xs.length + 1) c1]) (vC l.length (upd v 7 ⟨(v 7).xs ++ [value], some b1, c1⟩)) 1 rfl rfl rfl rfl rfl rfl rfl (by show 7 + 1 ≤ l.length * 1; omega)
          (by have e : vlV ⟨(v 7).xs ++ [value], some b1, c1⟩ = .slice (some ⟨b1, 0, none⟩) ((v 7).xs.length + 1) c1 := by simp [vlV, at0]
              rw [← e]
              exact vC_set v _ hil) rfl ?_
        (first | refine wX ?_ | exact wZ)
        refine ⟨upd v 7 ⟨(v 7).xs ++ [value], some b1, c1⟩, fun j => upd_xs v 7 _ j, rfl, .inl ⟨?_, ?_, ?_, ?_, ?_, ?_, ?_, ?_, ?_, ?_, ?_, ?_, ?_, wkH_nil _⟩⟩ <;> first | exact wkE_refl _ | exact .inl ⟨rfl, rfl, strC_snoc _ _, rfl, by show (v 7).xs.length + 1 = ((v 7).xs ++ [value]).length; simp, rfl⟩
      · omega
    | false =>
      -- the next word
      (first | refine wX ?_ | exact wZ)
      refine callG (next_c R l W at_ left true hat hW hwa) [0, 1] rfl ⟨rfl, rfl, trivial⟩ rfl fun _ _ => ?_
      cases hr : nextS W at_ true with
      | none =>
        have hG : giveK W 4 i no value false (psOf at_ v g left) = (psOf at_ v g left, 14) := by
          unfold giveK takeS
          rw [show nextS W (psOf at_ v g left).at_ (!((4 : Int) == 2)) = none from hr]
          rfl
        rw [hG]
        -- nothing is changed
        (first | refine wX ?_ | exact wZ)
        exact ⟨v, fun _ => rfl, rfl, .inl ⟨wkE_refl _, wkE_refl _, wkE_refl _, wkE_refl _, wkE_refl _, wkE_refl _, wkE_refl _, wkE_refl _, wkE_refl _, wkE_refl _, wkE_refl _, wkE_refl _, wkE_refl _, wkH_nil _⟩⟩
      | some nw =>
        have hG : giveK W 4 i no value false (psOf at_ v g left) = (⟨at_ + 1, upd (fun j => (v j).xs) i ((v i).xs ++ [nw]), g.set i (IntKind.i64.wrap (g.getD i 0 + 1)), left.xs⟩, 0) := by
          unfold giveK takeS
          rw [show nextS W (psOf at_ v g left).at_ (!((4 : Int) == 2)) = some nw from hr]
          rfl
        rw [hG]
        (first | refine wX ?_ | exact wZ)
        -- 4: the field, .slice (some ⟨R.gb, 0, none⟩) l.length l.length: the value
        refine LdN.one (a := some ⟨R.rb, 0, none⟩) (q := 4) (.slice (some ⟨R.gb, 0, none⟩) l.length l.length) rfl (fun w hw => hw.2.1) rfl ?_
        (first | refine wX ?_ | exact wZ)
        try refine Nd.mk ⟨rfl, by omega, by omega⟩ ?_
        (first | refine wX ?_ | exact wZ)
        refine LdN.one (.int .i64 (g.getD i 0)) rfl (fun w hw => hw.2.2.2.1) (by rw [Int.toNat_natCast]; show (gC g)[i * 1]? = _; rw [Nat.mul_one]; exact hgi) ?_
        (first | refine wX ?_ | exact wZ)
        try refine Nd.mk ⟨rfl, by omega, by omega⟩ ?_
        (first | refine wX ?_ | exact wZ)
        refine EffW.appTo (i := 3) (q := i) (ys := [.int .i64 (IntKind.i64.wrap (g.getD i 0 + 1))]) (gC (g.set i (IntKind.i64.wrap (g.getD i 0 + 1)))) 1 rfl
          (by rw [Int.toNat_natCast]; show AV.c (CV.v (Value.pointer (some ((⟨R.gb, 0, none⟩ : Addr).add (i * 1))))) = _; rw [add_lit0, Nat.mul_one]) rfl rfl rfl rfl rfl (by show i + 1 ≤ l.length * 1; omega) (gC_set _ (by omega)) rfl ?_
        (first | refine wX ?_ | exact wZ)
        refine DrawN.planC (fun w => SlAt (some ⟨R.rb, 0, none⟩) 6 (rC R l.length W.length (at_ + 1) left) w ∧ SlAt (some ⟨R.vb, 0, none⟩) (l.length * 1) (vC l.length v) w) [0, 5, 6, 11, 14] [(1, 2), (2, 2), (3, 2), (4, 1), (7, 2), (8, 2), (9, 2), (10, 1), (12, 1), (13, 1), (15, 0), (16, 0), (17, 1)] [(18, 0)] (by decide +kernel) (fun w hw => ⟨hw.2.1, hw.2.2.1⟩) ?_
        (first | refine wX ?_ | exact wZ)
        refine ReadC.one (a := some ⟨R.rb, 0, none⟩) (q := 3) (.slice (some ⟨R.vb, 0, none⟩) l.length l.length) rfl rfl rfl (fun w hw => hw.1) rfl ?_
        (first | refine wX ?_ | exact wZ)
        refine ReadC.one (a := some ⟨R.rb, 0, none⟩) (q := 3) (.slice (some ⟨R.vb, 0, none⟩) l.length l.length) rfl rfl rfl (fun w hw => hw.1) rfl ?_
        (first | refine wX ?_ | exact wZ)
        refine ReadC.idx (sz := 1) i rfl Tryd.underlying33 rfl rfl rfl rfl hil ?_
        (first | refine wX ?_ | exact wZ)
        refine ReadC.one (a := some ⟨R.vb, 0, none⟩) (q := i) (vlV (v i)) rfl (by show AV.c (CV.v (Value.pointer (some ⟨R.vb, i * 1, none⟩))) = AV.c (CV.v (Value.pointer (some ((⟨R.vb, 0, none⟩ : Addr).add i)))); rw [add_lit0, Nat.mul_one]) rfl (fun w hw => hw.2) (vC_get v hil) ?_
        (first | refine wX ?_ | exact wZ)
        refine Nd.mk (fun w hw => ⟨hw.2.1, hw.2.2.1⟩) ?_
        have hi8 : i < 8 := by omega
        clear hgi ho
        rcases i with _ | _ | _ | _ | _ | _ | _ | _ | i
        · -- nw: the text, (at_ + 1): the place, 0: which one, 5: its entry
          (conv => whnf)
          try refine Nd.mk ⟨Nat.le_refl 1, rfl, rfl⟩ ?_
          (conv => whnf)
          refine AppN.grow 5 (strC (v 0).xs) [.string (bs nw)] rfl rfl ⟨Nat.le_refl 1, ⟨by show ((v 0).xs.length + 1) * 16 ≤ _; have hv0 : (v 0).xs.length ≤ 1000000 := hv; omega, by have hv0 : (v 0).xs.length ≤ 1000000 := hv; show (v 0).xs.length + 1 < _; omega⟩, Nat.one_ne_zero⟩ fun b1 c1 h11 h12 => ?_
          (conv => whnf)
          refine Nd.mk (fun w hw => ⟨hw.2.1, hw.2.2.1⟩) ?_
          (first | refine wX ?_ | exact wZ)
          refine ReadC.idx (sz := 1) 0 rfl Tryd.underlying33 rfl rfl rfl rfl hil ?_
          (first | refine wX ?_ | exact wZ)
          refine EffW.appTo (i := 2) (q := 0) (ys := [.slice (some ⟨b1, 0, none⟩) ((v 0).xs.length + 1) c1]) (vC l.length (upd v 0 ⟨(v 0).xs ++ [nw], some b1, c1⟩)) 1 rfl rfl rfl rfl rfl rfl rfl (by show 0 + 1 ≤ l.length * 1; omega)
            (by have e : vlV ⟨(v 0).xs ++ [nw], some b1, c1⟩ = .slice (some ⟨b1, 0, none⟩) ((v 0).xs.length + 1) c1 := by simp [vlV, at0]
                rw [← e]
                exact vC_set v _ hil) rfl ?_
          (first | refine wX ?_ | exact wZ)
          refine ⟨upd v 0 ⟨(v 0).xs ++ [nw], some b1, c1⟩, fun j => upd_xs v 0 _ j, rfl, .inl ⟨?_, ?_, ?_, ?_, ?_, ?_, ?_, ?_, ?_, ?_, ?_, ?_, ?_, wkH_nil _⟩⟩ <;> first | exact wkE_refl _ | exact .inl ⟨rfl, rfl, strC_snoc _ _, rfl, by show (v 0).xs.length + 1 = ((v 0).xs ++ [nw]).length; simp, rfl⟩
        · -- nw: the text, (at_ + 1): the place, 1: which one, 6: its entry
          (conv => whnf)
          try refine Nd.mk ⟨Nat.le_refl 1, rfl, rfl⟩ ?_
          (conv => whnf)
          refine AppN.grow 6 (strC (v 1).xs) [.string (bs nw)] rfl rfl ⟨Nat.le_refl 1, ⟨by show ((v 1).xs.length + 1) * 16 ≤ _; have hv0 : (v 1).xs.length ≤ 1000000 := hv; omega, by have hv0 : (v 1).xs.length ≤ 1000000 := hv; show (v 1).xs.length + 1 < _; omega⟩, Nat.one_ne_zero⟩ fun b1 c1 h11 h12 => ?_
          (conv => whnf)
          refine Nd.mk (fun w hw => ⟨hw.2.1, hw.2.2.1⟩) ?_
          (first | refine wX ?_ | exact wZ)
          refine ReadC.idx (sz := 1) 1 rfl Tryd.underlying33 rfl rfl rfl rfl hil ?_
          (first | refine wX ?_ | exact wZ)
          refine EffW.appTo (i := 2) (q := 1) (ys := [.slice (some ⟨b1, 0, none⟩) ((v 1).xs.length + 1) c1]) (vC l.length (upd v 1 ⟨(v 1).xs ++ [nw], some b1, c1⟩)) 1 rfl rfl rfl rfl rfl rfl rfl (by show 1 + 1 ≤ l.length * 1; omega)
            (by have e : vlV ⟨(v 1).xs ++ [nw], some b1, c1⟩ = .slice (some ⟨b1, 0, none⟩) ((v 1).xs.length + 1) c1 := by simp [vlV, at0]
                rw [← e]
                exact vC_set v _ hil) rfl ?_
          (first | refine wX ?_ | exact wZ)
          refine ⟨upd v 1 ⟨(v 1).xs ++ [nw], some b1, c1⟩, fun j => upd_xs v 1 _ j, rfl, .inl ⟨?_, ?_, ?_, ?_, ?_, ?_, ?_, ?_, ?_, ?_, ?_, ?_, ?_, wkH_nil _⟩⟩ <;> first | exact wkE_refl _ | exact .inl ⟨rfl, rfl, strC_snoc _ _, rfl, by show (v 1).xs.length + 1 = ((v 1).xs ++ [nw]).length; simp, rfl⟩
        · -- nw: the text, (at_ + 1): the place, 2: which one, 7: its entry
          (conv => whnf)
          try refine Nd.mk ⟨Nat.le_refl 1, rfl, rfl⟩ ?_
          (conv => whnf)
          refine AppN.grow 7 (strC (v 2).xs) [.string (bs nw)] rfl rfl ⟨Nat.le_refl 1, ⟨by show ((v 2).xs.length + 1) * 16 ≤ _; have hv0 : (v 2).xs.length ≤ 1000000 := hv; omega, by have hv0 : (v 2).xs.length ≤ 1000000 := hv; show (v 2).xs.length + 1 < _; omega⟩, Nat.one_ne_zero⟩ fun b1 c1 h11 h12 => ?_
          (conv => whnf)
          refine Nd.mk (fun w hw => ⟨hw.2.1, hw.2.2.1⟩) ?_
          (first | refine wX ?_ | exact wZ)
          refine ReadC.idx (sz := 1) 2 rfl Tryd.underlying33 rfl rfl rfl rfl hil ?_
          (first | refine wX ?_ | exact wZ)
          refine EffW.appTo (i := 2) (q := 2) (ys := [.slice (some ⟨b1, 0, none⟩) ((v 2).xs.length + 1) c1]) (vC l.length (upd v 2 ⟨(v 2).xs ++ [nw], some b1, c1⟩)) 1 rfl rfl rfl rfl rfl rfl rfl (by show 2 + 1 ≤ l.length * 1; omega)
            (by have e : vlV ⟨(v 2).xs ++ [nw], some b1, c1⟩ = .slice (some ⟨b1, 0, none⟩) ((v 2).xs.length + 1) c1 := by simp [vlV, at0]
                rw [← e]
                exact vC_set v _ hil) rfl ?_
          (first | refine wX ?_ | exact wZ)
          refine ⟨upd v 2 ⟨(v 2).xs ++ [nw], some b1, c1⟩, fun j => upd_xs v 2 _ j, rfl, .inl ⟨?_, ?_, ?_, ?_, ?_, ?_, ?_, ?_, ?_, ?_, ?_, ?_, ?_, wkH_nil _⟩⟩ <;> first | exact wkE_refl _ | exact .inl ⟨rfl, rfl, strC_snoc _ _, rfl, by show (v 2).xs.length + 1 = ((v 2).xs ++ [nw]).length; simp, rfl⟩
        · -- nw: the text, (at_ + 1): the place, 3: which one, 8: its entry
          (conv => whnf)
          try refine Nd.mk ⟨Nat.le_refl 1, rfl, rfl⟩ ?_
          (conv => whnf)
          refine AppN.grow 8 (strC (v 3).xs) [.string (bs nw)] rfl rfl ⟨Nat.le_refl 1, ⟨by show ((v 3).xs.length + 1) * 16 ≤ _; have hv0 : (v 3).xs.length ≤ 1000000 := hv; omega, by have hv0 : (v 3).xs.length ≤ 1000000 := hv; show (v 3).xs.length + 1 < _; omega⟩, Nat.one_ne_zero⟩ fun b1 c1 h11 h12 => ?_
          (conv => whnf)
          refine Nd.mk (fun w hw => ⟨hw.2.1, hw.2.2.1⟩) ?_
          (first | refine wX ?_ | exact wZ)
          refine ReadC.idx (sz := 1) 3 rfl Tryd.underlying33 rfl rfl rfl rfl hil ?_
          (first | refine wX ?_ | exact wZ)
          refine EffW.appTo (i := 2) (q := 3) (ys := [.slice (some ⟨b1, 0, none⟩) ((v 3).xs.length + 1) c1]) (vC l.length (upd v 3 ⟨(v 3).xs ++ [nw], some b1, c1⟩)) 1 rfl rfl rfl rfl rfl rfl rfl (by show 3 + 1 ≤ l.length * 1; omega)
            (by have e : vlV ⟨(v 3).xs ++ [nw], some b1, c1⟩ = .slice (some ⟨b1, 0, none⟩) ((v 3).xs.length + 1) c1 := by simp [vlV, at0]
                rw [← e]
                exact vC_set v _ hil) rfl ?_
          (first | refine wX ?_ | exact wZ)
          refine ⟨upd v 3 ⟨(v 3).xs ++ [nw], some b1, c1⟩, fun j => upd_xs v 3 _ j, rfl, .inl ⟨?_, ?_, ?_, ?_, ?_, ?_, ?_, ?_, ?_, ?_, ?_, ?_, ?_, wkH_nil _⟩⟩ <;> first | exact wkE_refl _ | exact .inl ⟨rfl, rfl, strC_snoc _ _, rfl, by show (v 3).xs.length + 1 = ((v 3).xs ++ [nw]).length; simp, rfl⟩
        · -- nw: the text, (at_ + 1): the place, 4: which one, 9: its entry
          (conv => whnf)
          try refine Nd.mk ⟨Nat.le_refl 1, rfl, rfl⟩ ?_
          (conv => whnf)
          refine AppN.grow 9 (strC (v 4).xs) [.string (bs nw)] rfl rfl ⟨Nat.le_refl 1, ⟨by show ((v 4).xs.length + 1) * 16 ≤ _; have hv0 : (v 4).xs.length ≤ 1000000 := hv; omega, by have hv0 : (v 4).xs.length ≤ 1000000 := hv; show (v 4).xs.length + 1 < _; omega⟩, Nat.one_ne_zero⟩ fun b1 c1 h11 h12 => ?_
          (conv => whnf)
          refine Nd.mk (fun w hw => ⟨hw.2.1, hw.2.2.1⟩) ?_
          (first | refine wX ?_ | exact wZ)
          refine ReadC.idx (sz := 1) 4 rfl Tryd.underlying33 rfl rfl rfl rfl hil ?_
          (first | refine wX ?_ | exact wZ)
          refine EffW.appTo (i := 2) (q := 4) (ys := [.slice (some ⟨b1, 0, none⟩) ((v 4).xs.length + 1) c1]) (vC l.length (upd v 4 ⟨(v 4).xs ++ [nw], some b1, c1⟩)) 1 rfl rfl rfl rfl rfl rfl rfl (by show 4 + 1 ≤ l.length * 1; omega)
            (by have e : vlV ⟨(v 4).xs ++ [nw], some b1, c1⟩ = .slice (some ⟨b1, 0, none⟩) ((v 4).xs.length + 1) c1 := by simp [vlV, at0]
                rw [← e]
                exact vC_set v _ hil) rfl ?_
          (first | refine wX ?_ | exact wZ)
          refine ⟨upd v 4 ⟨(v 4).xs ++ [nw], some b1, c1⟩, fun j => upd_xs v 4 _ j, rfl, .inl ⟨?_, ?_, ?_, ?_, ?_, ?_, ?_, ?_, ?_, ?_, ?_, ?_, ?_, wkH_nil _⟩⟩ <;> first | exact wkE_refl _ | exact .inl ⟨rfl, rfl, strC_snoc _ _, rfl, by show (v 4).xs.length + 1 = ((v 4).xs ++ [nw]).length; simp, rfl⟩
        · -- nw: the text, (at_ + 1): the place, 5: which one, 10: its entry
          (conv => whnf)
          try refine Nd.mk ⟨Nat.le_refl 1, rfl, rfl⟩ ?_
          (conv => whnf)
          refine AppN.grow 10 (strC (v 5).xs) [.string (bs nw)] rfl rfl ⟨Nat.le_refl 1, ⟨by show ((v 5).xs.length + 1) * 16 ≤ _; have hv0 : (v 5).xs.length ≤ 1000000 := hv; omega, by have hv0 : (v 5).xs.length ≤ 1000000 := hv; show (v 5).xs.length + 1 < _; omega⟩, Nat.one_ne_zero⟩ fun b1 c1 h11 h12 => ?_
          (conv => whnf)
          refine Nd.mk (fun w hw => ⟨hw.2.1, hw.2.2.1⟩) ?_
          (first | refine wX ?_ | exact wZ)
          refine ReadC.idx (sz := 1) 5 rfl Tryd.underlying33 rfl rfl rfl rfl hil ?_
          (first | refine wX ?_ | exact wZ)
          refine EffW.appTo (i := 2) (q := 5) (ys := [.slice (some ⟨b1, 0, none⟩) ((v 5).xs.length + 1) c1]) (vC l.length (upd v 5 ⟨(v 5).xs ++ [nw], some b1, c1⟩)) 1 rfl rfl rfl rfl rfl rfl rfl (by show 5 + 1 ≤ l.length * 1; omega)
            (by have e : vlV ⟨(v 5).xs ++ [nw], some b1, c1⟩ = .slice (some ⟨b1, 0, none⟩) ((v 5).xs.length + 1) c1 := by simp [vlV, at0]
                rw [← e]
                exact vC_set v _ hil) rfl ?_
          (first | refine wX ?_ | exact wZ)
          refine ⟨upd v 5 ⟨(v 5).xs ++ [nw], some b1, c1⟩, fun j => upd_xs v 5 _ j, rfl, .inl ⟨?_, ?_, ?_, ?_, ?_, ?_, ?_, ?_, ?_, ?_, ?_, ?_, ?_, wkH_nil _⟩⟩ <;> first | exact wkE_refl _ | exact .inl ⟨rfl, rfl, strC_snoc _ _, rfl, by show (v 5).xs.length + 1 = ((v 5).xs ++ [nw]).length; simp, rfl⟩
        · -- nw: the text, (at_ + 1): the place, 6: which one, 11: its entry
          (conv => whnf)
          try refine Nd.mk ⟨Nat.le_refl 1, rfl, rfl⟩ ?_
          (conv => whnf)
          refine AppN.grow 11 (strC (v 6).xs) [.string (bs nw)] rfl rfl ⟨Nat.le_refl 1, ⟨by show ((v 6).xs.length + 1) * 16 ≤ _; have hv0 : (v 6).xs.length ≤ 1000000 := hv; omega, by have hv0 : (v 6).xs.length ≤ 1000000 := hv; show (v 6).xs.length + 1 < _; omega⟩, Nat.one_ne_zero⟩ fun b1 c1 h11 h12 => ?_
          (conv => whnf)
          refine Nd.mk (fun w hw => ⟨hw.2.1, hw.2.2.1⟩) ?_
          (first | refine wX ?_ | exact wZ)
          refine ReadC.idx (sz := 1) 6 rfl Tryd.underlying33 rfl rfl rfl rfl hil ?_
          (first | refine wX ?_ | exact wZ)
          refine EffW.appTo (i := 2) (q := 6) (ys := [.slice (some ⟨b1, 0, none⟩) ((v 6).xs.length + 1) c1]) (vC l.length (upd v 6 ⟨(v 6).xs ++ [nw], some b1, c1⟩)) 1 rfl rfl rfl rfl rfl rfl rfl (by show 6 + 1 ≤ l.length * 1; omega)
            (by have e : vlV ⟨(v 6).xs ++ [nw], some b1, c1⟩ = .slice (some ⟨b1, 0, none⟩) ((v 6).xs.length + 1) c1 := by simp [vlV, at0]
                rw [← e]
                exact vC_set v _ hil) rfl ?_
          (first | refine wX ?_ | exact wZ)
          refine ⟨upd v 6 ⟨(v 6).xs ++ [nw], some b1, c1⟩, fun j => upd_xs v 6 _ j, rfl, .inl ⟨?_, ?_, ?_, ?_, ?_, ?_, ?_, ?_, ?_, ?_, ?_, ?_, ?_, wkH_nil _⟩⟩ <;> first | exact wkE_refl _ | exact .inl ⟨rfl, rfl, strC_snoc _ _, rfl, by show (v 6).xs.length + 1 = ((v 6).xs ++ [nw]).length; simp, rfl⟩
        · -- nw: the text, (at_ + 1): the place, 7: which one, 12: its entry
          (conv => whnf)
          try refine Nd.mk ⟨Nat.le_refl 1, rfl, rfl⟩ ?_
          (conv => whnf)
          refine AppN.grow 12 (strC (v 7).xs) [.string (bs nw)] rfl rfl ⟨Nat.le_refl 1, ⟨by show ((v 7).xs.length + 1) * 16 ≤ _; have hv0 : (v 7).xs.length ≤ 1000000 := hv; omega, by have hv0 : (v 7).xs.length ≤ 1000000 := hv; show (v 7).xs.length + 1 < _; omega⟩, Nat.one_ne_zero⟩ fun b1 c1 h11 h12 => ?_
          (conv => whnf)
          refine Nd.mk (fun w hw => ⟨hw.2.1, hw.2.2.1⟩) ?_
          (first | refine wX ?_ | exact wZ)
          refine ReadC.idx (sz := 1) 7 rfl Tryd.underlying33 rfl rfl rfl rfl hil ?_
          (first | refine wX ?_ | exact wZ)
          refine EffW.appTo (i := 2) (q := 7) (ys := [.slice (some ⟨b1, 0, none⟩) ((v 7).xs.length + 1) c1]) (vC l.length (upd v 7 ⟨(v 7).xs ++ [nw], some b1, c1⟩)) 1 rfl rfl rfl rfl rfl rfl rfl (by show 7 + 1 ≤ l.length * 1; omega)
            (by have e : vlV ⟨(v 7).xs ++ [nw], some b1, c1⟩ = .slice (some ⟨b1, 0, none⟩) ((v 7).xs.length + 1) c1 := by simp [vlV, at0]
                rw [← e]
                exact vC_set v _ hil) rfl ?_
          (first | refine wX ?_ | exact wZ)
          refine ⟨upd v 7 ⟨(v 7).xs ++ [nw], some b1, c1⟩, fun j => upd_xs v 7 _ j, rfl, .inl ⟨?_, ?_, ?_, ?_, ?_, ?_, ?_, ?_, ?_, ?_, ?_, ?_, ?_, wkH_nil _⟩⟩ <;> first | exact wkE_refl _ | exact .inl ⟨rfl, rfl, strC_snoc _ _, rfl, by show (v 7).xs.length + 1 = ((v 7).xs ++ [nw]).length; simp, rfl⟩
        · omega
  · cases has with
    | true =>
      have hG : giveK W 5 i no value true (psOf at_ v g left) = (psOf at_ v g left, 4) := rfl
      rw [hG]
      -- nothing is changed
      (first | refine wX ?_ | exact wZ)
      exact ⟨v, fun _ => rfl, rfl, .inl ⟨wkE_refl _, wkE_refl _, wkE_refl _, wkE_refl _, wkE_refl _, wkE_refl _, wkE_refl _, wkE_refl _, wkE_refl _, wkE_refl _, wkE_refl _, wkE_refl _, wkE_refl _, wkH_nil _⟩⟩
    | false =>
      have hG : giveK W 5 i no value false (psOf at_ v g left) = (⟨at_, upd (fun j => (v j).xs) i [if no then falseL else trueL], g.set i (IntKind.i64.wrap (g.getD i 0 + 1)), left.xs⟩, 0) := rfl
      rw [hG]
      (first | refine wX ?_ | exact wZ)
      -- 4: the field, .slice (some ⟨R.gb, 0, none⟩) l.length l.length: the value
      refine LdN.one (a := some ⟨R.rb, 0, none⟩) (q := 4) (.slice (some ⟨R.gb, 0, none⟩) l.length l.length) rfl (fun w hw => hw.2.1) rfl ?_
      (first | refine wX ?_ | exact wZ)
      try refine Nd.mk ⟨rfl, by omega, by omega⟩ ?_
      (first | refine wX ?_ | exact wZ)
      refine LdN.one (.int .i64 (g.getD i 0)) rfl (fun w hw => hw.2.2.2.1) (by rw [Int.toNat_natCast]; show (gC g)[i * 1]? = _; rw [Nat.mul_one]; exact hgi) ?_
      (first | refine wX ?_ | exact wZ)
      try refine Nd.mk ⟨rfl, by omega, by omega⟩ ?_
      (first | refine wX ?_ | exact wZ)
      refine EffW.appTo (i := 3) (q := i) (ys := [.int .i64 (IntKind.i64.wrap (g.getD i 0 + 1))]) (gC (g.set i (IntKind.i64.wrap (g.getD i 0 + 1)))) 1 rfl
        (by rw [Int.toNat_natCast]; show AV.c (CV.v (Value.pointer (some ((⟨R.gb, 0, none⟩ : Addr).add (i * 1))))) = _; rw [add_lit0, Nat.mul_one]) rfl rfl rfl rfl rfl (by show i + 1 ≤ l.length * 1; omega) (gC_set _ (by omega)) rfl ?_
      cases no with
      | true =>
        -- falseL: the text; the new slice is known
        (first | refine wX ?_ | exact wZ)
        -- 3: the field, .slice (some ⟨R.vb, 0, none⟩) l.length l.length: the value
        refine LdN.one (a := some ⟨R.rb, 0, none⟩) (q := 3) (.slice (some ⟨R.vb, 0, none⟩) l.length l.length) rfl (fun w hw => hw.2.1) rfl ?_
        ((conv => whnf); (repeat ((first | refine BoxN.own ?_ | refine VrN.norm (wrap_i64 (by omega)) ?_ | refine VrN.keep ?_ | refine DrawN.calm (by decide +kernel) ?_ | refine Nd.mk (by decide +kernel) ?_ | refine Nd.mk (by omega) ?_ | (refine Nd.mk ?_ ?_; focus ((repeat' (first | exact trivial | exact wkE_refl _ | refine And.intro ?_ ?_)); done)) | refine RdN.intro _ rfl (by rfl) ?_); (conv => whnf))))
        refine RwN.known [_] rfl fun nb => ?_
        (first | refine wX ?_ | exact wZ)
        try refine Nd.mk ⟨rfl, by omega, by omega⟩ ?_
        (first | refine wX ?_ | exact wZ)
        refine EffW.appTo (i := 2) (q := i) (ys := [vlV ⟨[falseL], some nb, 1⟩]) (vC l.length (upd v i ⟨[falseL], some nb, 1⟩)) 1 rfl
          (by rw [Int.toNat_natCast]; show AV.c (CV.v (Value.pointer (some ((⟨R.vb, 0, none⟩ : Addr).add (i * 1))))) = _; rw [add_lit0, Nat.mul_one]) rfl rfl rfl rfl rfl (by show i + 1 ≤ l.length * 1; omega) (vC_set v _ hil) rfl ?_
        (first | refine wX ?_ | exact wZ)
        refine ⟨upd v i ⟨[falseL], some nb, 1⟩, fun j => upd_xs v i _ j, rfl, .inr ⟨5 + i, 13, ?_⟩⟩
        have hi8 : i < 8 := by omega
        clear hgi ho hil
        rcases i with _ | _ | _ | _ | _ | _ | _ | _ | i <;> first | exact ⟨rfl, rfl, rfl, wkE_refl _, wkE_refl _, wkE_refl _, wkE_refl _, wkE_refl _, wkE_refl _, wkE_refl _, wkE_refl _, wkE_refl _, wkE_refl _, wkE_refl _, wkE_refl _, wkE_refl _, wkH_nil _⟩ | omega
      | false =>
        -- trueL: the text; the new slice is known
        (first | refine wX ?_ | exact wZ)
        -- 3: the field, .slice (some ⟨R.vb, 0, none⟩) l.length l.length: the value
        refine LdN.one (a := some ⟨R.rb, 0, none⟩) (q := 3) (.slice (some ⟨R.vb, 0, none⟩) l.length l.length) rfl (fun w hw => hw.2.1) rfl ?_
        ((conv => whnf); (repeat ((first | refine BoxN.own ?_ | refine VrN.norm (wrap_i64 (by omega)) ?_ | refine VrN.keep ?_ | refine DrawN.calm (by decide +kernel) ?_ | refine Nd.mk (by decide +kernel) ?_ | refine Nd.mk (by omega) ?_ | (refine Nd.mk ?_ ?_; focus ((repeat' (first | exact trivial | exact wkE_refl _ | refine And.intro ?_ ?_)); done)) | refine RdN.intro _ rfl (by rfl) ?_); (conv => whnf))))
        refine RwN.known [_] rfl fun nb => ?_
        (first | refine wX ?_ | exact wZ)
        try refine Nd.mk ⟨rfl, by omega, by omega⟩ ?_
        (first | refine wX ?_ | exact wZ)
        refine EffW.appTo (i := 2) (q := i) (ys := [vlV ⟨[trueL], some nb, 1⟩]) (vC l.length (upd v i ⟨[trueL], some nb, 1⟩)) 1 rfl
          (by rw [Int.toNat_natCast]; show AV.c (CV.v (Value.pointer (some ((⟨R.vb, 0, none⟩ : Addr).add (i * 1))))) = _; rw [add_lit0, Nat.mul_one]) rfl rfl rfl rfl rfl (by show i + 1 ≤ l.length * 1; omega) (vC_set v _ hil) rfl ?_
        (first | refine wX ?_ | exact wZ)
        refine ⟨upd v i ⟨[trueL], some nb, 1⟩, fun j => upd_xs v i _ j, rfl, .inr ⟨5 + i, 13, ?_⟩⟩
        have hi8 : i < 8 := by omega
        clear hgi ho hil
        rcases i with _ | _ | _ | _ | _ | _ | _ | _ | i <;> first | exact ⟨rfl, rfl, rfl, wkE_refl _, wkE_refl _, wkE_refl _, wkE_refl _, wkE_refl _, wkE_refl _, wkE_refl _, wkE_refl _, wkE_refl _, wkE_refl _, wkE_refl _, wkE_refl _, wkE_refl _, wkH_nil _⟩ | omega
end Go.Proofs.YteljlkkppaobeaaDoor

/-
  Plain: what is found lies among the options; how much is added.
-/
namespace Go.Opts
theorem fold_at (name : List UInt8) : ∀ (l : List (Nat × Bool × List UInt8)) (h : Hit), ((foldF name l h).hits = h.hits ∧ (foldF name l h).at_ = h.at_) ∨ ∃ f ∈ l, (foldF name l h).at_ = f.1
  | [], h => .inl ⟨rfl, rfl⟩
  | f :: l, h => by
    unfold foldF
    have h1 : ((form1 f.1 f.2.1 f.2.2 name h).hits = h.hits ∧ (form1 f.1 f.2.1 f.2.2 name h).at_ = h.at_) ∨ (form1 f.1 f.2.1 f.2.2 name h).at_ = f.1 := by
      unfold form1
      split
      · exact .inl ⟨rfl, rfl⟩
      split
      · exact .inl ⟨rfl, rfl⟩
      split
      · exact .inr rfl
      · exact .inl ⟨rfl, rfl⟩
    rcases fold_at name l (form1 f.1 f.2.1 f.2.2 name h) with ⟨a, b⟩ | ⟨g, hg, hb⟩
    · rcases h1 with ⟨c, d⟩ | c
      · exact .inl ⟨a.trans c, b.trans d⟩
      · exact .inr ⟨f, List.mem_cons_self .., b.trans c⟩
    · exact .inr ⟨g, List.mem_cons_of_mem _ hg, hb⟩
theorem find_lt {l : List Opt} {name : List UInt8} (h : (findS l name).2.2 = 0) : (findS l name).1 < l.length := by
  unfold findS at h ⊢
  simp only at h ⊢
  rw [hitS_fold] at h ⊢
  have hfull := (fold_full name (formsL 0 l) ⟨none, 0, false, 0⟩ rfl).1
  have hat := fold_at name (formsL 0 l) ⟨none, 0, false, 0⟩
  generalize foldF name (formsL 0 l) ⟨none, 0, false, 0⟩ = g at *
  have lt : ∀ f ∈ formsL 0 l, f.1 < l.length := fun f hf => by
    obtain ⟨o, _, h2, _⟩ := forms_mem _ _ _ hf
    rw [Nat.sub_zero] at h2
    exact (List.getElem?_eq_some_iff.1 h2).1
  cases hg : g.full with
  | some p =>
    obtain ⟨i, b⟩ := p
    exact lt _ (hfull _ hg)
  | none =>
    rw [hg] at h
    simp only at h ⊢
    split at h
    · cases h
    rename_i h0
    rw [if_neg h0]
    split at h
    · rename_i h1
      rw [if_pos h1]
      rcases hat with ⟨a, _⟩ | ⟨f, hf, ha⟩
      · exact absurd a h0
      · show g.at_ < _
        rw [ha]
        exact lt f hf
    · cases h
theorem shortI_lt (c : UInt8) : ∀ (l : List Opt) (i : Nat), shortI c l i < 0 ∨ ((i : Int) ≤ shortI c l i ∧ shortI c l i < i + l.length)
  | [], _ => .inl (by unfold shortI; decide)
  | o :: l, i => by
    unfold shortI
    split
    · exact .inr ⟨by omega, by rw [List.length_cons]; omega⟩
    · rcases shortI_lt c l (i + 1) with h | h
      · exact .inl h
      · exact .inr ⟨by omega, by rw [List.length_cons]; omega⟩
theorem upd_grow {f : Nat → List (List UInt8)} {i : Nat} {x : List (List UInt8)} {n : Nat} (h : ∀ j, (f j).length ≤ n) (hx : x.length ≤ n + 1) (j : Nat) : (upd f i x j).length ≤ n + 1 := by
  unfold upd
  cases Nat.beq j i with
  | true => exact hx
  | false => exact Nat.le_succ_of_le (h j)
theorem give_grow {l : List Opt} {W : List (List UInt8)} {i : Nat} {no : Bool} {value : List UInt8} {has : Bool} {s : PS} {n : Nat} (h : ∀ j, (s.vals j).length ≤ n) (j : Nat) : ((giveS l W i no value has s).1.vals j).length ≤ n + 1 := by
  unfold giveS giveK
  split
  · exact Nat.le_succ_of_le (h j)
  split
  · exact Nat.le_succ_of_le (h j)
  split
  · exact Nat.le_succ_of_le (h j)
  · show (putS _ _ _ _ _ j).length ≤ _
    unfold putS
    split
    · exact Nat.le_succ_of_le (h j)
    split
    · exact upd_grow h (by have := h i; simp; omega) j
    split
    · exact upd_grow h (by simp) j
    · exact upd_grow h (by simp) j
theorem short_grow {l : List Opt} {W : List (List UInt8)} : ∀ {cs : List UInt8} {s : PS} {n : Nat}, (∀ j, (s.vals j).length ≤ n) → ∀ j, ((shortS l W cs s).1.vals j).length ≤ n + cs.length
  | [], s, n, h, j => h j
  | c :: r, s, n, h, j => by
    unfold shortS
    rw [List.length_cons]
    split
    · exact Nat.le_trans (h j) (by omega)
    simp only
    have hg := give_grow (l := l) (W := W) (i := (shortI c l 0).toNat) (no := false) (value := r) (has := takesB (kindAt l (shortI c l 0).toNat) && r != []) h
    generalize giveS l W (shortI c l 0).toNat false r (takesB (kindAt l (shortI c l 0).toNat) && r != []) s = g at *
    obtain ⟨s1, e⟩ := g
    simp only
    split
    · split
      · exact Nat.le_trans (hg j) (by omega)
      · have := short_grow (l := l) (W := W) (cs := r) (s := s1) (n := n + 1) hg j
        omega
    · exact Nat.le_trans (hg j) (by omega)
theorem long_grow {l : List Opt} {W : List (List UInt8)} {w : List UInt8} {s : PS} {n : Nat} (h : ∀ j, (s.vals j).length ≤ n) (j : Nat) : ((longS l W w s).1.vals j).length ≤ n + 1 := by
  unfold longS
  simp only
  split
  · exact give_grow h j
  · exact Nat.le_succ_of_le (h j)
theorem step_grow {l : List Opt} {W : List (List UInt8)} {stop : Bool} {w : List UInt8} {s : PS} {n : Nat} (h : ∀ j, (s.vals j).length ≤ n) (j : Nat) : ((stepS l W stop w s).1.vals j).length ≤ n + (w.length + 1) := by
  unfold stepS
  simp only
  split
  · exact Nat.le_trans (h j) (by omega)
  split
  · have := long_grow (l := l) (W := W) (w := w) (s := { s with at_ := s.at_ + 1 }) (n := n) h j
    omega
  split
  · have := short_grow (l := l) (W := W) (cs := w.drop 1) (s := { s with at_ := s.at_ + 1 }) (n := n) h j
    rw [List.length_drop] at this
    omega
  split
  · exact Nat.le_trans (h j) (by omega)
  · exact Nat.le_trans (h j) (by omega)
end Go.Opts

/-
  Contracts: long, short (program).
-/
namespace Go.Proofs.YteljlkkppaobeaaDoor
open Go.AX Go.RowKit Go.Opts
set_option maxRecDepth 20000

/-- What stays as it is while words are read. -/
structure RdOk (R : RL) (l : List Opt) (W : List (List UInt8)) : Prop where
  kinds : ∀ o ∈ l, 0 ≤ o.kind ∧ o.kind ≤ 5
  names : ∀ o ∈ l, o.name.length ≤ 1000000000
  n8 : l.length ≤ 8
  words : W.length ≤ 100000
  wa : R.wa = none → W = []
  la : R.la = none → l = []
set_option maxHeartbeats 1000000 in
theorem long_c (R : RL) (l : List Opt) (W : List (List UInt8)) (at_ : Nat) (v : Nat → VL) (g : List Int) (left : VL) (word : List UInt8) (ok : RdOk R l W) (hg : g.length = l.length) (hat : at_ ≤ W.length) (hv : ∀ j, (v j).xs.length ≤ 1000000) (hw2 : 2 ≤ word.length) (hw3 : word.length ≤ 1000000) :
    SpecH Tryd.prog 28 [.c (.v (.pointer (some ⟨R.rb, 0, none⟩))), .c (.v (.string (bs word)))] (rdH R l W at_ v g left)
      (RetG (ι := Nat → VL) (fun v' => ∀ j, (v' j).xs = (longS l W word (psOf at_ v g left)).1.vals j) (fun _ => .int .i64 (longS l W word (psOf at_ v g left)).2)
        fun v' => rdH R l W (longS l W word (psOf at_ v g left)).1.at_ v' (longS l W word (psOf at_ v g left)).1.given left) := by
  refine ownC hm Tryd.func28 (by kernel_rfl) rfl rfl (fun _ _ => okHB_eq rfl) (fun _ _ => Nat.le_refl _) ?_
  have hz := bs_size word
  unfold longS
  simp only
  (first | refine wX ?_ | exact wZ)
  refine ReadW.sl_l 2 rfl Tryd.underlying9 rfl rfl ⟨rfl, hw2⟩ ?_
  (first | refine wX ?_ | exact wZ)
  rw [show (⟨#[61]⟩ : ByteArray) = bs [61] from rfl]
  refine call1 (Cut_c (word.drop 2) [61] (by rw [List.length_drop]; omega) _ (fun w hw => hw.1.2.2)) ?_
  generalize Lib.cut (word.drop 2) [61] = c
  obtain ⟨nm, vl, hs⟩ := c
  (first | refine wX ?_ | exact wZ)
  -- 0: the field, .slice R.la l.length R.lc: the value
  refine LdN.one (a := some ⟨R.rb, 0, none⟩) (q := 0) (.slice R.la l.length R.lc) rfl (fun w hw => hw.2.1) rfl ?_
  (first | refine wX ?_ | exact wZ)
  refine call1 (find_c R.la R.lc l nm ok.la (Nat.le_trans ok.n8 (by decide)) ok.names _ (fun w hw => hw.1.1)) ?_
  have hlt := find_lt (l := l) (name := nm)
  generalize findS l nm = f at *
  obtain ⟨i, no, e⟩ := f
  (first | refine wX ?_ | exact wZ)
  refine brd_ne (fun h1 => ?_) (fun h1 => ?_)
  · rw [if_neg h1]
    (first | refine wX ?_ | exact wZ)
    exact ⟨v, fun _ => rfl, rfl, wkE_refl _, wkE_refl _, wkE_refl _, wkE_refl _, wkE_refl _, wkE_refl _, wkE_refl _, wkE_refl _, wkE_refl _, wkE_refl _, wkE_refl _, wkE_refl _, wkE_refl _, wkH_nil _⟩
  · have he : e = 0 := h1
    rw [if_pos he]
    obtain ⟨o, ho⟩ : ∃ o, l[i]? = some o := ⟨_, List.getElem?_eq_getElem (hlt he)⟩
    have hmo := List.mem_of_getElem? ho
    (first | refine wX ?_ | exact wZ)
    refine callG (give_c R l W at_ v g left i no vl hs o ho (ok.kinds o hmo) ok.n8 hg hat ok.words ok.wa ok.la (hv i)) [0, 1, 2, 3, 4, 5, 6, 7, 8, 9, 10, 11, 12] rfl ⟨rfl, rfl, rfl, rfl, rfl, rfl, rfl, rfl, rfl, rfl, rfl, rfl, rfl, trivial⟩ rfl fun v' hv' => ?_
    (first | refine wX ?_ | exact wZ)
    exact ⟨v', hv', rfl, wkE_refl _, wkE_refl _, wkE_refl _, wkE_refl _, wkE_refl _, wkE_refl _, wkE_refl _, wkE_refl _, wkE_refl _, wkE_refl _, wkE_refl _, wkE_refl _, wkE_refl _, wkH_nil _⟩
/-- The word and the place that the closure sees. -/
def ShF (wb kb : Nat) (word : List UInt8) (k : Nat) (w : World) : Prop := SlAt (some ⟨wb, 0, none⟩) 1 [.string (bs word)] w ∧ SlAt (some ⟨kb, 0, none⟩) 1 [.int .i64 (k : Int)] w
theorem short1_c (wb kb : Nat) (word : List UInt8) (k : Nat) (c : UInt8) (hc : word[k]? = some c) (o : Opt) : ∀ H, (∀ w, Facts H w → ShF wb kb word k w) → SpecH Tryd.prog 38 (pvs [optV o, .pointer (some ⟨wb, 0, none⟩), .pointer (some ⟨kb, 0, none⟩)]) H (Ret (.bool (o.short == c)) H) := by
  refine factC hm Tryd.func38 (by kernel_rfl) rfl rfl ?_
  have hz := bs_size word
  have hk := (List.getElem?_eq_some_iff.1 hc).1
  (first | refine wX ?_ | exact wZ)
  refine LdN.one (a := some ⟨wb, 0, none⟩) (q := 0) (.string (bs word)) rfl (fun w hw => hw.1.1) rfl ?_
  (first | refine wX ?_ | exact wZ)
  refine LdN.one (a := some ⟨kb, 0, none⟩) (q := 0) (.int .i64 (k : Int)) rfl (fun w hw => hw.1.2) rfl ?_
  (first | refine wX ?_ | exact wZ)
  rw [Int.toNat_natCast, byteAt_get hc, u8_beq]
theorem shortI_idx (c : UInt8) : ∀ (l : List Opt) (i : Nat), idx (fun o => o.short == c) l i = shortI c l i
  | [], _ => rfl
  | o :: l, i => by
    unfold idx shortI
    rw [shortI_idx c l (i + 1)]
theorem short_drop (l : List Opt) (W : List (List UInt8)) (word : List UInt8) (k : Nat) {c : UInt8} (hc : word[k]? = some c) (s : PS) : shortS l W (word.drop k) s = if shortI c l 0 < 0 ∨ c = 0 then (s, 6) else
      match giveS l W (shortI c l 0).toNat false (word.drop (k + 1)) (takesB (kindAt l (shortI c l 0).toNat) && word.drop (k + 1) != []) s with
      | (s', e) => if e = 0 then (if takesB (kindAt l (shortI c l 0).toNat) then (s', 0) else shortS l W (word.drop (k + 1)) s') else (s', e) := by
  obtain ⟨hlt, hx⟩ := List.getElem?_eq_some_iff.1 hc
  rw [List.drop_eq_getElem_cons hlt, hx]
  rfl
end Go.Proofs.YteljlkkppaobeaaDoor

/-
  Contract: short (program).
-/
namespace Go.Proofs.YteljlkkppaobeaaDoor
open Go.AX Go.RowKit Go.Opts
set_option maxRecDepth 20000

theorem ps_eq {r : PS} {v' : Nat → VL} {left : VL} (hv : ∀ j, (v' j).xs = r.vals j) (hl : r.left = left.xs) : psOf r.at_ v' r.given left = r := by
  obtain ⟨a, vs, g, lf⟩ := r
  have e : (fun j => (v' j).xs) = vs := funext hv
  simp only at hl
  subst e hl
  rfl
def wrE (wb : Nat) (word : List UInt8) : Ent := .app 9 1 [.string (bs word)] (some ⟨wb, 0, none⟩) 1 1
def kE (kb : Nat) (k : Nat) : Ent := .app 3 1 [.int .i64 (k : Int)] (some ⟨kb, 0, none⟩) 1 1
set_option maxHeartbeats 2000000 in
theorem short_c (R : RL) (l : List Opt) (W : List (List UInt8)) (at0_ : Nat) (v0 : Nat → VL) (g0 : List Int) (left : VL) (word : List UInt8) (ok : RdOk R l W) (hg0 : g0.length = l.length) (hat0 : at0_ ≤ W.length) (hv0 : ∀ j, (v0 j).xs.length + word.length ≤ 1000000) (hw1 : 1 ≤ word.length) :
    SpecH Tryd.prog 29 [.c (.v (.pointer (some ⟨R.rb, 0, none⟩))), .c (.v (.string (bs word)))] (rdH R l W at0_ v0 g0 left)
      (RetG (ι := Nat → VL) (fun v' => ∀ j, (v' j).xs = (shortS l W (word.drop 1) (psOf at0_ v0 g0 left)).1.vals j) (fun _ => .int .i64 (shortS l W (word.drop 1) (psOf at0_ v0 g0 left)).2)
        fun v' => rdH R l W (shortS l W (word.drop 1) (psOf at0_ v0 g0 left)).1.at_ v' (shortS l W (word.drop 1) (psOf at0_ v0 g0 left)).1.given left) := by
  refine ownC hm Tryd.func29 (by kernel_rfl) rfl rfl (fun _ _ => okHB_eq rfl) (fun _ _ => Nat.le_refl _) ?_
  have hz := bs_size word
  have hwl : word.length ≤ 1000000 := by have := hv0 0; omega
  generalize hR : shortS l W (word.drop 1) (psOf at0_ v0 g0 left) = r
  ((conv => whnf); (repeat ((first | refine RwN.own ?_ | refine VrN.norm (wrap_i64 (by omega)) ?_ | refine VrN.keep ?_ | refine DrawN.calm (by decide +kernel) ?_ | refine Nd.mk (by decide +kernel) ?_ | refine Nd.mk (by omega) ?_ | (refine Nd.mk ?_ ?_; focus ((repeat' (first | exact trivial | exact wkE_refl _ | refine And.intro ?_ ?_)); done)) | refine RdN.intro _ rfl (by rfl) ?_); (conv => whnf))))
  refine BoxN.known _ rfl fun wb => ?_
  ((conv => whnf); (repeat ((first | refine RwN.own ?_ | refine VrN.norm (wrap_i64 (by omega)) ?_ | refine VrN.keep ?_ | refine DrawN.calm (by decide +kernel) ?_ | refine Nd.mk (by decide +kernel) ?_ | refine Nd.mk (by omega) ?_ | (refine Nd.mk ?_ ?_; focus ((repeat' (first | exact trivial | exact wkE_refl _ | refine And.intro ?_ ?_)); done)) | refine RdN.intro _ rfl (by rfl) ?_); (conv => whnf))))
  refine BoxN.known _ rfl fun kb0 => ?_
  ((conv => whnf); (repeat ((first | refine RwN.own ?_ | refine VrN.norm (wrap_i64 (by omega)) ?_ | refine VrN.keep ?_ | refine DrawN.calm (by decide +kernel) ?_ | refine Nd.mk (by decide +kernel) ?_ | refine Nd.mk (by omega) ?_ | (refine Nd.mk ?_ ?_; focus ((repeat' (first | exact trivial | exact wkE_refl _ | refine And.intro ?_ ?_)); done)) | refine RdN.intro _ rfl (by rfl) ?_); (conv => whnf))))
  refine EffW.appTo (i := 14) (q := 0) (ys := [_]) [.int .i64 ((1 : Nat) : Int)] 1 rfl rfl rfl rfl rfl rfl rfl (Nat.le_of_ble_eq_true rfl) rfl rfl ?_
  ((conv => whnf); (repeat ((first | refine RwN.own ?_ | refine VrN.norm (wrap_i64 (by omega)) ?_ | refine VrN.keep ?_ | refine DrawN.calm (by decide +kernel) ?_ | refine Nd.mk (by decide +kernel) ?_ | refine Nd.mk (by omega) ?_ | (refine Nd.mk ?_ ?_; focus ((repeat' (first | exact trivial | exact wkE_refl _ | refine And.intro ?_ ?_)); done)) | refine RdN.intro _ rfl (by rfl) ?_); (conv => whnf))))
  refine LoopN.intro (Nat × Nat × Nat × (Nat → VL) × List Int) (fun ⟨k, _, at_, v, g⟩ => (1 ≤ k ∧ k ≤ word.length) ∧ at_ ≤ W.length ∧ g.length = l.length ∧ (∀ j, (v j).xs.length + (word.length - k) ≤ 1000000) ∧ shortS l W (word.drop k) (psOf at_ v g left) = r)
    (fun ⟨_, kb, _, _, _⟩ => mkS Tryd.f29.ntmps 0 [(0, .c (.v (.pointer (some ⟨R.rb, 0, none⟩)))), (3, .c (.v (.pointer (some ⟨wb, 0, none⟩)))), (4, .c (.v (.int .i64 0))), (5, .c (.v (.pointer (some ⟨kb, 0, none⟩))))])
    (fun ⟨k, kb, at_, v, g⟩ => rdH R l W at_ v g left ++ [wrE wb word, kE kb k]) (fun ⟨k, _, _, _, _⟩ => word.length - k) [] rfl (fun _ => rfl) (fun _ => rfl) (fun _ _ => okHB_eq rfl) ⟨⟨1, kb0, at0_, v0, g0⟩, ⟨⟨Nat.le_refl 1, hw1⟩, hat0, hg0, fun j => by have := hv0 j; omega, hR⟩, ?_, ⟨wkE_refl _, wkE_refl _, wkE_refl _, wkE_refl _, wkE_refl _, wkE_refl _, wkE_refl _, wkE_refl _, wkE_refl _, wkE_refl _, wkE_refl _, wkE_refl _, wkE_refl _, wkE_refl _, wkE_refl _, wkH_nil _⟩⟩ ?_
  · (repeat' (first | exact trivial | refine And.intro (by with_reducible rfl) ?_ | (with_reducible exact wkC_refl _) | (with_reducible exact wkCs_refl _) | refine And.intro ?_ ?_))
    all_goals rfl
  rintro ⟨k, kb, at_, v, g⟩ ⟨⟨hk1, hk⟩, hat, hg, hv, he⟩
  (first | refine wX ?_ | exact wZ)
  refine LdN.one (a := some ⟨kb, 0, none⟩) (q := 0) (.int .i64 (k : Int)) rfl (fun w hw => hw.2.2.2.2.2.2.2.2.2.2.2.2.2.2.1) rfl ?_
  (first | refine wX ?_ | exact wZ)
  refine LdN.one (a := some ⟨wb, 0, none⟩) (q := 0) (.string (bs word)) rfl (fun w hw => hw.2.2.2.2.2.2.2.2.2.2.2.2.2.1) rfl ?_
  (first | refine wX ?_ | exact wZ)
  rw [hz]
  refine brd_dec (fun h1 => ?_) (fun h1 => ?_)
  · obtain ⟨c, hc⟩ : ∃ c, word[k]? = some c := ⟨_, List.getElem?_eq_getElem (by omega)⟩
    rw [short_drop l W word k hc] at he
    (first | refine wX ?_ | exact wZ)
    -- 0: the field, .slice R.la l.length R.lc: the value
    refine LdN.one (a := some ⟨R.rb, 0, none⟩) (q := 0) (.slice R.la l.length R.lc) rfl (fun w hw => hw.2.1) rfl ?_
    (first | refine wX ?_ | exact wZ)
    refine SpecH.args (args' := pvs [.slice R.la l.length R.lc, .func (.func 38) #[] #[.pointer (some ⟨wb, 0, none⟩), .pointer (some ⟨kb, 0, none⟩)]]) (by simp [pvs, opvs, opv, nth, plainEv]; try rfl) ?_
    refine call1 (IndexFunc_c (fun o => o.short == c) 38 #[.pointer (some ⟨wb, 0, none⟩), .pointer (some ⟨kb, 0, none⟩)] (ShF wb kb word k) (fun o H hH => short1_c wb kb word k c hc o H hH) R.la R.lc l l.length ok.la (Nat.le_refl _) (Nat.le_trans ok.n8 (by decide)) _ ?_) ?_
    · exact fun w hw => ⟨hw.1.1, hw.2.2.2.2.2.2.2.2.2.2.2.2.2.1, hw.2.2.2.2.2.2.2.2.2.2.2.2.2.2.1⟩
    rw [List.take_length, shortI_idx]
    rcases shortI_lt c l 0 with hneg | ⟨hge, hlt⟩
    · (first | refine wX ?_ | exact wZ)
      refine brd_dec (fun _ => ?_) (fun h => absurd hneg h)
      rw [if_pos (.inl hneg)] at he
      obtain rfl := he
      (first | refine wX ?_ | exact wZ)
      exact ⟨v, fun _ => rfl, rfl, wkE_refl _, wkE_refl _, wkE_refl _, wkE_refl _, wkE_refl _, wkE_refl _, wkE_refl _, wkE_refl _, wkE_refl _, wkE_refl _, wkE_refl _, wkE_refl _, wkE_refl _, wkH_nil _⟩
    · obtain ⟨i, hi⟩ : ∃ i : Nat, shortI c l 0 = (i : Int) := ⟨(shortI c l 0).toNat, by omega⟩
      rw [hi] at he ⊢
      rw [Int.toNat_natCast] at he
      obtain ⟨o, ho⟩ : ∃ o, l[i]? = some o := ⟨_, List.getElem?_eq_getElem (by omega)⟩
      have hmo := List.mem_of_getElem? ho
      have hkA : kindAt l i = o.kind := by unfold kindAt; rw [ho]
      have hkf : (optsC l)[i * 5 + 2]? = some (.int .i64 o.kind) := (optsC_get l i 2 (by decide) ho).trans rfl
      have hsa : R.la.isSome = true := by
        cases hr : R.la with
        | none => rw [ok.la hr] at ho; cases ho
        | some b => rfl
      have hcl := c.toNat_lt
      (first | refine wX ?_ | exact wZ)
      refine LdN.one (a := some ⟨wb, 0, none⟩) (q := 0) (.string (bs word)) rfl (fun w hw => hw.2.2.2.2.2.2.2.2.2.2.2.2.2.1) rfl ?_
      (first | refine wX ?_ | exact wZ)
      refine LdN.one (a := some ⟨kb, 0, none⟩) (q := 0) (.int .i64 (k : Int)) rfl (fun w hw => hw.2.2.2.2.2.2.2.2.2.2.2.2.2.2.1) rfl ?_
      (first | refine wX ?_ | exact wZ)
      rw [Int.toNat_natCast, byteAt_get hc, u8_zero]
      cases hc0 : c == 0 with
      | true =>
        rw [if_pos (.inr (eq_of_beq hc0))] at he
        obtain rfl := he
        (first | refine wX ?_ | exact wZ)
        exact ⟨v, fun _ => rfl, rfl, wkE_refl _, wkE_refl _, wkE_refl _, wkE_refl _, wkE_refl _, wkE_refl _, wkE_refl _, wkE_refl _, wkE_refl _, wkE_refl _, wkE_refl _, wkE_refl _, wkE_refl _, wkH_nil _⟩
      | false =>
        rw [if_neg (by
          intro h
          rcases h with h | h
          · omega
          · rw [h] at hc0; cases hc0), hkA] at he
        (first | refine wX ?_ | exact wZ)
        refine LdN.one (a := some ⟨wb, 0, none⟩) (q := 0) (.string (bs word)) rfl (fun w hw => hw.2.2.2.2.2.2.2.2.2.2.2.2.2.1) rfl ?_
        (first | refine wX ?_ | exact wZ)
        refine LdN.one (a := some ⟨kb, 0, none⟩) (q := 0) (.int .i64 (k : Int)) rfl (fun w hw => hw.2.2.2.2.2.2.2.2.2.2.2.2.2.2.1) rfl ?_
        (first | refine wX ?_ | exact wZ)
        refine ReadW.sl_l (k + 1) rfl Tryd.underlying9 rfl rfl ⟨by rw [wrap_i64 (by omega)]; rfl, by omega⟩ ?_
        generalize hrest : word.drop (k + 1) = rest at he ⊢
        have hgc : ∀ has, SpecH Tryd.prog 37 [.c (.v (.pointer (some ⟨R.rb, 0, none⟩))), .c (.v (.int .i64 (i : Int))), .c (.v (.bool false)), .c (.v (.string (bs rest))), .c (.v (.bool has))] (rdH R l W at_ v g left) _ := fun has => give_c R l W at_ v g left i false rest has o ho (ok.kinds o hmo) ok.n8 hg hat ok.words ok.wa ok.la (by have := hv i; omega)
        have hge : ((bs rest).data.toList == (⟨#[]⟩ : ByteArray).data.toList) = (rest == []) := by rw [bs_list]
        have hok := ok.kinds o hmo
        generalize o.kind = kd at *
        have hk6 : kd = 1 ∨ kd = 2 ∨ kd = 4 ∨ (kd = 0 ∨ kd = 3 ∨ kd = 5) := by omega
        (first | refine wX ?_ | exact wZ)
        -- 0: the field, .slice R.la l.length R.lc: the value
        refine LdN.one (a := some ⟨R.rb, 0, none⟩) (q := 0) (.slice R.la l.length R.lc) rfl (fun w hw => hw.2.1) rfl ?_
        (first | refine wX ?_ | exact wZ)
        refine Nd.mk ⟨hsa, by omega, by omega⟩ ?_
        (first | refine wX ?_ | exact wZ)
        refine LdN.fld (.int .i64 _) rfl (fun w hw => hw.1.1) (by rw [Int.toNat_natCast]; exact hkf) ?_
        (first | refine wX ?_ | exact wZ)
        rcases hk6 with rfl | rfl | rfl | hk6
        · cases hre : rest == [] with
          | true =>
            rw [show (takesB _ && rest != []) = false by rw [bne, hre]; rfl] at he
            (first | refine wX ?_ | exact wZ)
            rw [hge, hre]
            (first | refine wX ?_ | exact wZ)
            -- false: is there a value; two goals: an error, none
            refine callG (hgc false) [0, 1, 2, 3, 4, 5, 6, 7, 8, 9, 10, 11, 12] rfl ⟨rfl, rfl, rfl, rfl, rfl, rfl, rfl, rfl, rfl, rfl, rfl, rfl, rfl, trivial⟩ rfl fun v' hv' => ?_
            generalize hG : giveS l W i false rest false (psOf at_ v g left) = q at *
            obtain ⟨s1, e⟩ := q
            have hat1 := give_at hG
            have hgr := give_grow (l := l) (W := W) (i := i) (no := false) (value := rest) (has := false) (s := psOf at_ v g left) (n := 1000000 - (word.length - k)) (fun j => by have := hv j; show (v j).xs.length ≤ _; omega)
            rw [hG] at hgr
            (first | refine wX ?_ | exact wZ)
            refine brd_ne (fun h4 => ?_) (fun h4 => ?_)
            · obtain rfl : (s1, e) = r := by
                rw [← he]
                exact (if_neg h4).symm
              (first | refine wX ?_ | exact wZ)
              exact ⟨v', hv', rfl, wkE_refl _, wkE_refl _, wkE_refl _, wkE_refl _, wkE_refl _, wkE_refl _, wkE_refl _, wkE_refl _, wkE_refl _, wkE_refl _, wkE_refl _, wkE_refl _, wkE_refl _, wkH_nil _⟩
            obtain rfl : e = 0 := h4
            (first | refine wX ?_ | exact wZ)
            obtain rfl : (s1, 0) = r := by rw [← he]; rfl
            exact ⟨v', hv', rfl, wkE_refl _, wkE_refl _, wkE_refl _, wkE_refl _, wkE_refl _, wkE_refl _, wkE_refl _, wkE_refl _, wkE_refl _, wkE_refl _, wkE_refl _, wkE_refl _, wkE_refl _, wkH_nil _⟩
          | false =>
            rw [show (takesB _ && rest != []) = true by rw [bne, hre]; rfl] at he
            (first | refine wX ?_ | exact wZ)
            rw [hge, hre]
            (first | refine wX ?_ | exact wZ)
            -- true: is there a value; two goals: an error, none
            refine callG (hgc true) [0, 1, 2, 3, 4, 5, 6, 7, 8, 9, 10, 11, 12] rfl ⟨rfl, rfl, rfl, rfl, rfl, rfl, rfl, rfl, rfl, rfl, rfl, rfl, rfl, trivial⟩ rfl fun v' hv' => ?_
            generalize hG : giveS l W i false rest true (psOf at_ v g left) = q at *
            obtain ⟨s1, e⟩ := q
            have hat1 := give_at hG
            have hgr := give_grow (l := l) (W := W) (i := i) (no := false) (value := rest) (has := true) (s := psOf at_ v g left) (n := 1000000 - (word.length - k)) (fun j => by have := hv j; show (v j).xs.length ≤ _; omega)
            rw [hG] at hgr
            (first | refine wX ?_ | exact wZ)
            refine brd_ne (fun h4 => ?_) (fun h4 => ?_)
            · obtain rfl : (s1, e) = r := by
                rw [← he]
                exact (if_neg h4).symm
              (first | refine wX ?_ | exact wZ)
              exact ⟨v', hv', rfl, wkE_refl _, wkE_refl _, wkE_refl _, wkE_refl _, wkE_refl _, wkE_refl _, wkE_refl _, wkE_refl _, wkE_refl _, wkE_refl _, wkE_refl _, wkE_refl _, wkE_refl _, wkH_nil _⟩
            obtain rfl : e = 0 := h4
            (first | refine wX ?_ | exact wZ)
            obtain rfl : (s1, 0) = r := by rw [← he]; rfl
            exact ⟨v', hv', rfl, wkE_refl _, wkE_refl _, wkE_refl _, wkE_refl _, wkE_refl _, wkE_refl _, wkE_refl _, wkE_refl _, wkE_refl _, wkE_refl _, wkE_refl _, wkE_refl _, wkE_refl _, wkH_nil _⟩
        · -- 0: the field, .slice R.la l.length R.lc: the value
          refine LdN.one (a := some ⟨R.rb, 0, none⟩) (q := 0) (.slice R.la l.length R.lc) rfl (fun w hw => hw.2.1) rfl ?_
          (first | refine wX ?_ | exact wZ)
          refine Nd.mk ⟨hsa, by omega, by omega⟩ ?_
          (first | refine wX ?_ | exact wZ)
          refine LdN.fld (.int .i64 _) rfl (fun w hw => hw.1.1) (by rw [Int.toNat_natCast]; exact hkf) ?_
          (first | refine wX ?_ | exact wZ)
          cases hre : rest == [] with
          | true =>
            rw [show (takesB _ && rest != []) = false by rw [bne, hre]; rfl] at he
            (first | refine wX ?_ | exact wZ)
            rw [hge, hre]
            (first | refine wX ?_ | exact wZ)
            -- false: is there a value; two goals: an error, none
            refine callG (hgc false) [0, 1, 2, 3, 4, 5, 6, 7, 8, 9, 10, 11, 12] rfl ⟨rfl, rfl, rfl, rfl, rfl, rfl, rfl, rfl, rfl, rfl, rfl, rfl, rfl, trivial⟩ rfl fun v' hv' => ?_
            generalize hG : giveS l W i false rest false (psOf at_ v g left) = q at *
            obtain ⟨s1, e⟩ := q
            have hat1 := give_at hG
            have hgr := give_grow (l := l) (W := W) (i := i) (no := false) (value := rest) (has := false) (s := psOf at_ v g left) (n := 1000000 - (word.length - k)) (fun j => by have := hv j; show (v j).xs.length ≤ _; omega)
            rw [hG] at hgr
            (first | refine wX ?_ | exact wZ)
            refine brd_ne (fun h4 => ?_) (fun h4 => ?_)
            · obtain rfl : (s1, e) = r := by
                rw [← he]
                exact (if_neg h4).symm
              (first | refine wX ?_ | exact wZ)
              exact ⟨v', hv', rfl, wkE_refl _, wkE_refl _, wkE_refl _, wkE_refl _, wkE_refl _, wkE_refl _, wkE_refl _, wkE_refl _, wkE_refl _, wkE_refl _, wkE_refl _, wkE_refl _, wkE_refl _, wkH_nil _⟩
            obtain rfl : e = 0 := h4
            (first | refine wX ?_ | exact wZ)
            obtain rfl : (s1, 0) = r := by rw [← he]; rfl
            exact ⟨v', hv', rfl, wkE_refl _, wkE_refl _, wkE_refl _, wkE_refl _, wkE_refl _, wkE_refl _, wkE_refl _, wkE_refl _, wkE_refl _, wkE_refl _, wkE_refl _, wkE_refl _, wkE_refl _, wkH_nil _⟩
          | false =>
            rw [show (takesB _ && rest != []) = true by rw [bne, hre]; rfl] at he
            (first | refine wX ?_ | exact wZ)
            rw [hge, hre]
            (first | refine wX ?_ | exact wZ)
            -- true: is there a value; two goals: an error, none
            refine callG (hgc true) [0, 1, 2, 3, 4, 5, 6, 7, 8, 9, 10, 11, 12] rfl ⟨rfl, rfl, rfl, rfl, rfl, rfl, rfl, rfl, rfl, rfl, rfl, rfl, rfl, trivial⟩ rfl fun v' hv' => ?_
            generalize hG : giveS l W i false rest true (psOf at_ v g left) = q at *
            obtain ⟨s1, e⟩ := q
            have hat1 := give_at hG
            have hgr := give_grow (l := l) (W := W) (i := i) (no := false) (value := rest) (has := true) (s := psOf at_ v g left) (n := 1000000 - (word.length - k)) (fun j => by have := hv j; show (v j).xs.length ≤ _; omega)
            rw [hG] at hgr
            (first | refine wX ?_ | exact wZ)
            refine brd_ne (fun h4 => ?_) (fun h4 => ?_)
            · obtain rfl : (s1, e) = r := by
                rw [← he]
                exact (if_neg h4).symm
              (first | refine wX ?_ | exact wZ)
              exact ⟨v', hv', rfl, wkE_refl _, wkE_refl _, wkE_refl _, wkE_refl _, wkE_refl _, wkE_refl _, wkE_refl _, wkE_refl _, wkE_refl _, wkE_refl _, wkE_refl _, wkE_refl _, wkE_refl _, wkH_nil _⟩
            obtain rfl : e = 0 := h4
            (first | refine wX ?_ | exact wZ)
            obtain rfl : (s1, 0) = r := by rw [← he]; rfl
            exact ⟨v', hv', rfl, wkE_refl _, wkE_refl _, wkE_refl _, wkE_refl _, wkE_refl _, wkE_refl _, wkE_refl _, wkE_refl _, wkE_refl _, wkE_refl _, wkE_refl _, wkE_refl _, wkE_refl _, wkH_nil _⟩
        · -- 0: the field, .slice R.la l.length R.lc: the value
          refine LdN.one (a := some ⟨R.rb, 0, none⟩) (q := 0) (.slice R.la l.length R.lc) rfl (fun w hw => hw.2.1) rfl ?_
          (first | refine wX ?_ | exact wZ)
          refine Nd.mk ⟨hsa, by omega, by omega⟩ ?_
          (first | refine wX ?_ | exact wZ)
          refine LdN.fld (.int .i64 _) rfl (fun w hw => hw.1.1) (by rw [Int.toNat_natCast]; exact hkf) ?_
          (first | refine wX ?_ | exact wZ)
          -- 0: the field, .slice R.la l.length R.lc: the value
          refine LdN.one (a := some ⟨R.rb, 0, none⟩) (q := 0) (.slice R.la l.length R.lc) rfl (fun w hw => hw.2.1) rfl ?_
          (first | refine wX ?_ | exact wZ)
          refine Nd.mk ⟨hsa, by omega, by omega⟩ ?_
          (first | refine wX ?_ | exact wZ)
          refine LdN.fld (.int .i64 _) rfl (fun w hw => hw.1.1) (by rw [Int.toNat_natCast]; exact hkf) ?_
          (first | refine wX ?_ | exact wZ)
          cases hre : rest == [] with
          | true =>
            rw [show (takesB _ && rest != []) = false by rw [bne, hre]; rfl] at he
            (first | refine wX ?_ | exact wZ)
            rw [hge, hre]
            (first | refine wX ?_ | exact wZ)
            -- false: is there a value; two goals: an error, none
            refine callG (hgc false) [0, 1, 2, 3, 4, 5, 6, 7, 8, 9, 10, 11, 12] rfl ⟨rfl, rfl, rfl, rfl, rfl, rfl, rfl, rfl, rfl, rfl, rfl, rfl, rfl, trivial⟩ rfl fun v' hv' => ?_
            generalize hG : giveS l W i false rest false (psOf at_ v g left) = q at *
            obtain ⟨s1, e⟩ := q
            have hat1 := give_at hG
            have hgr := give_grow (l := l) (W := W) (i := i) (no := false) (value := rest) (has := false) (s := psOf at_ v g left) (n := 1000000 - (word.length - k)) (fun j => by have := hv j; show (v j).xs.length ≤ _; omega)
            rw [hG] at hgr
            (first | refine wX ?_ | exact wZ)
            refine brd_ne (fun h4 => ?_) (fun h4 => ?_)
            · obtain rfl : (s1, e) = r := by
                rw [← he]
                exact (if_neg h4).symm
              (first | refine wX ?_ | exact wZ)
              exact ⟨v', hv', rfl, wkE_refl _, wkE_refl _, wkE_refl _, wkE_refl _, wkE_refl _, wkE_refl _, wkE_refl _, wkE_refl _, wkE_refl _, wkE_refl _, wkE_refl _, wkE_refl _, wkE_refl _, wkH_nil _⟩
            obtain rfl : e = 0 := h4
            (first | refine wX ?_ | exact wZ)
            obtain rfl : (s1, 0) = r := by rw [← he]; rfl
            exact ⟨v', hv', rfl, wkE_refl _, wkE_refl _, wkE_refl _, wkE_refl _, wkE_refl _, wkE_refl _, wkE_refl _, wkE_refl _, wkE_refl _, wkE_refl _, wkE_refl _, wkE_refl _, wkE_refl _, wkH_nil _⟩
          | false =>
            rw [show (takesB _ && rest != []) = true by rw [bne, hre]; rfl] at he
            (first | refine wX ?_ | exact wZ)
            rw [hge, hre]
            (first | refine wX ?_ | exact wZ)
            -- true: is there a value; two goals: an error, none
            refine callG (hgc true) [0, 1, 2, 3, 4, 5, 6, 7, 8, 9, 10, 11, 12] rfl ⟨rfl, rfl, rfl, rfl, rfl, rfl, rfl, rfl, rfl, rfl, rfl, rfl, rfl, trivial⟩ rfl fun v' hv' => ?_
            generalize hG : giveS l W i false rest true (psOf at_ v g left) = q at *
            obtain ⟨s1, e⟩ := q
            have hat1 := give_at hG
            have hgr := give_grow (l := l) (W := W) (i := i) (no := false) (value := rest) (has := true) (s := psOf at_ v g left) (n := 1000000 - (word.length - k)) (fun j => by have := hv j; show (v j).xs.length ≤ _; omega)
            rw [hG] at hgr
            (first | refine wX ?_ | exact wZ)
            refine brd_ne (fun h4 => ?_) (fun h4 => ?_)
            · obtain rfl : (s1, e) = r := by
                rw [← he]
                exact (if_neg h4).symm
              (first | refine wX ?_ | exact wZ)
              exact ⟨v', hv', rfl, wkE_refl _, wkE_refl _, wkE_refl _, wkE_refl _, wkE_refl _, wkE_refl _, wkE_refl _, wkE_refl _, wkE_refl _, wkE_refl _, wkE_refl _, wkE_refl _, wkE_refl _, wkH_nil _⟩
            obtain rfl : e = 0 := h4
            (first | refine wX ?_ | exact wZ)
            obtain rfl : (s1, 0) = r := by rw [← he]; rfl
            exact ⟨v', hv', rfl, wkE_refl _, wkE_refl _, wkE_refl _, wkE_refl _, wkE_refl _, wkE_refl _, wkE_refl _, wkE_refl _, wkE_refl _, wkE_refl _, wkE_refl _, wkE_refl _, wkE_refl _, wkH_nil _⟩
        · rcases hk6 with rfl | rfl | rfl
          · rw [show (takesB 0 && rest != []) = false from rfl] at he
            -- 0: the field, .slice R.la l.length R.lc: the value
            refine LdN.one (a := some ⟨R.rb, 0, none⟩) (q := 0) (.slice R.la l.length R.lc) rfl (fun w hw => hw.2.1) rfl ?_
            (first | refine wX ?_ | exact wZ)
            refine Nd.mk ⟨hsa, by omega, by omega⟩ ?_
            (first | refine wX ?_ | exact wZ)
            refine LdN.fld (.int .i64 _) rfl (fun w hw => hw.1.1) (by rw [Int.toNat_natCast]; exact hkf) ?_
            (first | refine wX ?_ | exact wZ)
            -- 0: the field, .slice R.la l.length R.lc: the value
            refine LdN.one (a := some ⟨R.rb, 0, none⟩) (q := 0) (.slice R.la l.length R.lc) rfl (fun w hw => hw.2.1) rfl ?_
            (first | refine wX ?_ | exact wZ)
            refine Nd.mk ⟨hsa, by omega, by omega⟩ ?_
            (first | refine wX ?_ | exact wZ)
            refine LdN.fld (.int .i64 _) rfl (fun w hw => hw.1.1) (by rw [Int.toNat_natCast]; exact hkf) ?_
            (first | refine wX ?_ | exact wZ)
            -- false: is there a value; two goals: an error, none
            refine callG (hgc false) [0, 1, 2, 3, 4, 5, 6, 7, 8, 9, 10, 11, 12] rfl ⟨rfl, rfl, rfl, rfl, rfl, rfl, rfl, rfl, rfl, rfl, rfl, rfl, rfl, trivial⟩ rfl fun v' hv' => ?_
            generalize hG : giveS l W i false rest false (psOf at_ v g left) = q at *
            obtain ⟨s1, e⟩ := q
            have hat1 := give_at hG
            have hgr := give_grow (l := l) (W := W) (i := i) (no := false) (value := rest) (has := false) (s := psOf at_ v g left) (n := 1000000 - (word.length - k)) (fun j => by have := hv j; show (v j).xs.length ≤ _; omega)
            rw [hG] at hgr
            (first | refine wX ?_ | exact wZ)
            refine brd_ne (fun h4 => ?_) (fun h4 => ?_)
            · obtain rfl : (s1, e) = r := by
                rw [← he]
                exact (if_neg h4).symm
              (first | refine wX ?_ | exact wZ)
              exact ⟨v', hv', rfl, wkE_refl _, wkE_refl _, wkE_refl _, wkE_refl _, wkE_refl _, wkE_refl _, wkE_refl _, wkE_refl _, wkE_refl _, wkE_refl _, wkE_refl _, wkE_refl _, wkE_refl _, wkH_nil _⟩
            obtain rfl : e = 0 := h4
            (first | refine wX ?_ | exact wZ)
            have he2 : shortS l W rest s1 = r := he
            refine LdN.one (a := some ⟨kb, 0, none⟩) (q := 0) (.int .i64 (k : Int)) rfl (fun w hw => hw.2.2.2.2.2.2.2.2.2.2.2.2.2.2.1) rfl ?_
            ((conv => whnf); (repeat ((first | refine RwN.own ?_ | refine VrN.norm (wrap_i64 (by omega)) ?_ | refine VrN.keep ?_ | refine DrawN.calm (by decide +kernel) ?_ | refine Nd.mk (by decide +kernel) ?_ | refine Nd.mk (by omega) ?_ | (refine Nd.mk ?_ ?_; focus ((repeat' (first | exact trivial | exact wkE_refl _ | refine And.intro ?_ ?_)); done)) | refine RdN.intro _ rfl (by rfl) ?_); (conv => whnf))))
            refine BoxN.known _ rfl fun kb2 => ?_
            ((conv => whnf); (repeat ((first | refine RwN.own ?_ | refine VrN.norm (wrap_i64 (by omega)) ?_ | refine VrN.keep ?_ | refine DrawN.calm (by decide +kernel) ?_ | refine Nd.mk (by decide +kernel) ?_ | refine Nd.mk (by omega) ?_ | (refine Nd.mk ?_ ?_; focus ((repeat' (first | exact trivial | exact wkE_refl _ | refine And.intro ?_ ?_)); done)) | refine RdN.intro _ rfl (by rfl) ?_); (conv => whnf))))
            refine EffW.swp 14 15 rfl rfl rfl ?_
            refine EffW.appTo (i := 14) (q := 0) (ys := [_]) [.int .i64 (k : Int)] 1 rfl rfl rfl rfl rfl rfl rfl (Nat.le_of_ble_eq_true rfl) rfl rfl ?_
            (first | refine wX ?_ | exact wZ)
            refine LdN.one (a := some ⟨kb2, 0, none⟩) (q := 0) (.int .i64 (k : Int)) rfl (fun w hw => hw.2.2.2.2.2.2.2.2.2.2.2.2.2.2.1) rfl ?_
            (first | refine wX ?_ | exact wZ)
            refine EffW.appTo (i := 14) (q := 0) (ys := [_]) [.int .i64 ((k + 1 : Nat) : Int)] 1 rfl rfl rfl rfl rfl rfl rfl (Nat.le_of_ble_eq_true rfl) (by
              show [Value.int .i64 _] = [Value.int .i64 _]
              rw [wrap_i64 (by omega)]
              rfl) rfl ?_
            (first | refine wX ?_ | exact wZ)
            refine ⟨⟨k + 1, kb2, s1.at_, v', s1.given⟩, ⟨⟨by omega, by omega⟩, hat1.2.1 hat, by rw [hat1.2.2.2]; exact hg, fun j => ?_, ?_⟩, by show word.length - (k + 1) < word.length - k; omega, ?_, ⟨wkE_refl _, wkE_refl _, wkE_refl _, wkE_refl _, wkE_refl _, wkE_refl _, wkE_refl _, wkE_refl _, wkE_refl _, wkE_refl _, wkE_refl _, wkE_refl _, wkE_refl _, wkE_refl _, wkE_refl _, wkH_nil _⟩⟩
            · have := hgr j
              rw [hv' j]
              show (s1.vals j).length + _ ≤ _
              have h2 : (s1.vals j).length ≤ 1000000 - (word.length - k) + 1 := this
              omega
            · have hps : psOf s1.at_ v' s1.given left = s1 := ps_eq (fun j => hv' j) hat1.2.2.1
              rw [hps, hrest]
              exact he2
            · (repeat' (first | exact trivial | refine And.intro (by with_reducible rfl) ?_ | (with_reducible exact wkC_refl _) | (with_reducible exact wkCs_refl _) | refine And.intro ?_ ?_))
              all_goals rfl
          · rw [show (takesB 3 && rest != []) = false from rfl] at he
            -- 0: the field, .slice R.la l.length R.lc: the value
            refine LdN.one (a := some ⟨R.rb, 0, none⟩) (q := 0) (.slice R.la l.length R.lc) rfl (fun w hw => hw.2.1) rfl ?_
            (first | refine wX ?_ | exact wZ)
            refine Nd.mk ⟨hsa, by omega, by omega⟩ ?_
            (first | refine wX ?_ | exact wZ)
            refine LdN.fld (.int .i64 _) rfl (fun w hw => hw.1.1) (by rw [Int.toNat_natCast]; exact hkf) ?_
            (first | refine wX ?_ | exact wZ)
            -- 0: the field, .slice R.la l.length R.lc: the value
            refine LdN.one (a := some ⟨R.rb, 0, none⟩) (q := 0) (.slice R.la l.length R.lc) rfl (fun w hw => hw.2.1) rfl ?_
            (first | refine wX ?_ | exact wZ)
            refine Nd.mk ⟨hsa, by omega, by omega⟩ ?_
            (first | refine wX ?_ | exact wZ)
            refine LdN.fld (.int .i64 _) rfl (fun w hw => hw.1.1) (by rw [Int.toNat_natCast]; exact hkf) ?_
            (first | refine wX ?_ | exact wZ)
            -- false: is there a value; two goals: an error, none
            refine callG (hgc false) [0, 1, 2, 3, 4, 5, 6, 7, 8, 9, 10, 11, 12] rfl ⟨rfl, rfl, rfl, rfl, rfl, rfl, rfl, rfl, rfl, rfl, rfl, rfl, rfl, trivial⟩ rfl fun v' hv' => ?_
            generalize hG : giveS l W i false rest false (psOf at_ v g left) = q at *
            obtain ⟨s1, e⟩ := q
            have hat1 := give_at hG
            have hgr := give_grow (l := l) (W := W) (i := i) (no := false) (value := rest) (has := false) (s := psOf at_ v g left) (n := 1000000 - (word.length - k)) (fun j => by have := hv j; show (v j).xs.length ≤ _; omega)
            rw [hG] at hgr
            (first | refine wX ?_ | exact wZ)
            refine brd_ne (fun h4 => ?_) (fun h4 => ?_)
            · obtain rfl : (s1, e) = r := by
                rw [← he]
                exact (if_neg h4).symm
              (first | refine wX ?_ | exact wZ)
              exact ⟨v', hv', rfl, wkE_refl _, wkE_refl _, wkE_refl _, wkE_refl _, wkE_refl _, wkE_refl _, wkE_refl _, wkE_refl _, wkE_refl _, wkE_refl _, wkE_refl _, wkE_refl _, wkE_refl _, wkH_nil _⟩
            obtain rfl : e = 0 := h4
            (first | refine wX ?_ | exact wZ)
            have he2 : shortS l W rest s1 = r := he
            refine LdN.one (a := some ⟨kb, 0, none⟩) (q := 0) (.int .i64 (k : Int)) rfl (fun w hw => hw.2.2.2.2.2.2.2.2.2.2.2.2.2.2.1) rfl ?_
            ((conv => whnf); (repeat ((first | refine RwN.own ?_ | refine VrN.norm (wrap_i64 (by omega)) ?_ | refine VrN.keep ?_ | refine DrawN.calm (by decide +kernel) ?_ | refine Nd.mk (by decide +kernel) ?_ | refine Nd.mk (by omega) ?_ | (refine Nd.mk ?_ ?_; focus ((repeat' (first | exact trivial | exact wkE_refl _ | refine And.intro ?_ ?_)); done)) | refine RdN.intro _ rfl (by rfl) ?_); (conv => whnf))))
            refine BoxN.known _ rfl fun kb2 => ?_
            ((conv => whnf); (repeat ((first | refine RwN.own ?_ | refine VrN.norm (wrap_i64 (by omega)) ?_ | refine VrN.keep ?_ | refine DrawN.calm (by decide +kernel) ?_ | refine Nd.mk (by decide +kernel) ?_ | refine Nd.mk (by omega) ?_ | (refine Nd.mk ?_ ?_; focus ((repeat' (first | exact trivial | exact wkE_refl _ | refine And.intro ?_ ?_)); done)) | refine RdN.intro _ rfl (by rfl) ?_); (conv => whnf))))
            refine EffW.swp 14 15 rfl rfl rfl ?_
            refine EffW.appTo (i := 14) (q := 0) (ys := [_]) [.int .i64 (k : Int)] 1 rfl rfl rfl rfl rfl rfl rfl (Nat.le_of_ble_eq_true rfl) rfl rfl ?_
            (first | refine wX ?_ | exact wZ)
            refine LdN.one (a := some ⟨kb2, 0, none⟩) (q := 0) (.int .i64 (k : Int)) rfl (fun w hw => hw.2.2.2.2.2.2.2.2.2.2.2.2.2.2.1) rfl ?_
            (first | refine wX ?_ | exact wZ)
            refine EffW.appTo (i := 14) (q := 0) (ys := [_]) [.int .i64 ((k + 1 : Nat) : Int)] 1 rfl rfl rfl rfl rfl rfl rfl (Nat.le_of_ble_eq_true rfl) (by
              show [Value.int .i64 _] = [Value.int .i64 _]
              rw [wrap_i64 (by omega)]
              rfl) rfl ?_
            (first | refine wX ?_ | exact wZ)
            refine ⟨⟨k + 1, kb2, s1.at_, v', s1.given⟩, ⟨⟨by omega, by omega⟩, hat1.2.1 hat, by rw [hat1.2.2.2]; exact hg, fun j => ?_, ?_⟩, by show word.length - (k + 1) < word.length - k; omega, ?_, ⟨wkE_refl _, wkE_refl _, wkE_refl _, wkE_refl _, wkE_refl _, wkE_refl _, wkE_refl _, wkE_refl _, wkE_refl _, wkE_refl _, wkE_refl _, wkE_refl _, wkE_refl _, wkE_refl _, wkE_refl _, wkH_nil _⟩⟩
            · have := hgr j
              rw [hv' j]
              show (s1.vals j).length + _ ≤ _
              have h2 : (s1.vals j).length ≤ 1000000 - (word.length - k) + 1 := this
              omega
            · have hps : psOf s1.at_ v' s1.given left = s1 := ps_eq (fun j => hv' j) hat1.2.2.1
              rw [hps, hrest]
              exact he2
            · (repeat' (first | exact trivial | refine And.intro (by with_reducible rfl) ?_ | (with_reducible exact wkC_refl _) | (with_reducible exact wkCs_refl _) | refine And.intro ?_ ?_))
              all_goals rfl
          · rw [show (takesB 5 && rest != []) = false from rfl] at he
            -- 0: the field, .slice R.la l.length R.lc: the value
            refine LdN.one (a := some ⟨R.rb, 0, none⟩) (q := 0) (.slice R.la l.length R.lc) rfl (fun w hw => hw.2.1) rfl ?_
            (first | refine wX ?_ | exact wZ)
            refine Nd.mk ⟨hsa, by omega, by omega⟩ ?_
            (first | refine wX ?_ | exact wZ)
            refine LdN.fld (.int .i64 _) rfl (fun w hw => hw.1.1) (by rw [Int.toNat_natCast]; exact hkf) ?_
            (first | refine wX ?_ | exact wZ)
            -- 0: the field, .slice R.la l.length R.lc: the value
            refine LdN.one (a := some ⟨R.rb, 0, none⟩) (q := 0) (.slice R.la l.length R.lc) rfl (fun w hw => hw.2.1) rfl ?_
            (first | refine wX ?_ | exact wZ)
            refine Nd.mk ⟨hsa, by omega, by omega⟩ ?_
            (first | refine wX ?_ | exact wZ)
            refine LdN.fld (.int .i64 _) rfl (fun w hw => hw.1.1) (by rw [Int.toNat_natCast]; exact hkf) ?_
            (first | refine wX ?_ | exact wZ)
            -- false: is there a value; two goals: an error, none
            refine callG (hgc false) [0, 1, 2, 3, 4, 5, 6, 7, 8, 9, 10, 11, 12] rfl ⟨rfl, rfl, rfl, rfl, rfl, rfl, rfl, rfl, rfl, rfl, rfl, rfl, rfl, trivial⟩ rfl fun v' hv' => ?_
            generalize hG : giveS l W i false rest false (psOf at_ v g left) = q at *
            obtain ⟨s1, e⟩ := q
            have hat1 := give_at hG
            have hgr := give_grow (l := l) (W := W) (i := i) (no := false) (value := rest) (has := false) (s := psOf at_ v g left) (n := 1000000 - (word.length - k)) (fun j => by have := hv j; show (v j).xs.length ≤ _; omega)
            rw [hG] at hgr
            (first | refine wX ?_ | exact wZ)
            refine brd_ne (fun h4 => ?_) (fun h4 => ?_)
            · obtain rfl : (s1, e) = r := by
                rw [← he]
                exact (if_neg h4).symm
              (first | refine wX ?_ | exact wZ)
              exact ⟨v', hv', rfl, wkE_refl _, wkE_refl _, wkE_refl _, wkE_refl _, wkE_refl _, wkE_refl _, wkE_refl _, wkE_refl _, wkE_refl _, wkE_refl _, wkE_refl _, wkE_refl _, wkE_refl _, wkH_nil _⟩
            obtain rfl : e = 0 := h4
            (first | refine wX ?_ | exact wZ)
            have he2 : shortS l W rest s1 = r := he
            refine LdN.one (a := some ⟨kb, 0, none⟩) (q := 0) (.int .i64 (k : Int)) rfl (fun w hw => hw.2.2.2.2.2.2.2.2.2.2.2.2.2.2.1) rfl ?_
            ((conv => whnf); (repeat ((first | refine RwN.own ?_ | refine VrN.norm (wrap_i64 (by omega)) ?_ | refine VrN.keep ?_ | refine DrawN.calm (by decide +kernel) ?_ | refine Nd.mk (by decide +kernel) ?_ | refine Nd.mk (by omega) ?_ | (refine Nd.mk ?_ ?_; focus ((repeat' (first | exact trivial | exact wkE_refl _ | refine And.intro ?_ ?_)); done)) | refine RdN.intro _ rfl (by rfl) ?_); (conv => whnf))))
            refine BoxN.known _ rfl fun kb2 => ?_
            ((conv => whnf); (repeat ((first | refine RwN.own ?_ | refine VrN.norm (wrap_i64 (by omega)) ?_ | refine VrN.keep ?_ | refine DrawN.calm (by decide +kernel) ?_ | refine Nd.mk (by decide +kernel) ?_ | refine Nd.mk (by omega) ?_ | (refine Nd.mk ?_ ?_; focus ((repeat' (first | exact trivial | exact wkE_refl _ | refine And.intro ?_ ?_)); done)) | refine RdN.intro _ rfl (by rfl) ?_); (conv => whnf))))
            refine EffW.swp 14 15 rfl rfl rfl ?_
            refine EffW.appTo (i := 14) (q := 0) (ys := [_]) [.int .i64 (k : Int)] 1 rfl rfl rfl rfl rfl rfl rfl (Nat.le_of_ble_eq_true rfl) rfl rfl ?_
            (first | refine wX ?_ | exact wZ)
            refine LdN.one (a := some ⟨kb2, 0, none⟩) (q := 0) (.int .i64 (k : Int)) rfl (fun w hw => hw.2.2.2.2.2.2.2.2.2.2.2.2.2.2.1) rfl ?_
            (first | refine wX ?_ | exact wZ)
            refine EffW.appTo (i := 14) (q := 0) (ys := [_]) [.int .i64 ((k + 1 : Nat) : Int)] 1 rfl rfl rfl rfl rfl rfl rfl (Nat.le_of_ble_eq_true rfl) (by
              show [Value.int .i64 _] = [Value.int .i64 _]
              rw [wrap_i64 (by omega)]
              rfl) rfl ?_
            (first | refine wX ?_ | exact wZ)
            refine ⟨⟨k + 1, kb2, s1.at_, v', s1.given⟩, ⟨⟨by omega, by omega⟩, hat1.2.1 hat, by rw [hat1.2.2.2]; exact hg, fun j => ?_, ?_⟩, by show word.length - (k + 1) < word.length - k; omega, ?_, ⟨wkE_refl _, wkE_refl _, wkE_refl _, wkE_refl _, wkE_refl _, wkE_refl _, wkE_refl _, wkE_refl _, wkE_refl _, wkE_refl _, wkE_refl _, wkE_refl _, wkE_refl _, wkE_refl _, wkE_refl _, wkH_nil _⟩⟩
            · have := hgr j
              rw [hv' j]
              show (s1.vals j).length + _ ≤ _
              have h2 : (s1.vals j).length ≤ 1000000 - (word.length - k) + 1 := this
              omega
            · have hps : psOf s1.at_ v' s1.given left = s1 := ps_eq (fun j => hv' j) hat1.2.2.1
              rw [hps, hrest]
              exact he2
            · (repeat' (first | exact trivial | refine And.intro (by with_reducible rfl) ?_ | (with_reducible exact wkC_refl _) | (with_reducible exact wkCs_refl _) | refine And.intro ?_ ?_))
              all_goals rfl
  · have hkk : k = word.length := by omega
    rw [hkk, List.drop_length] at he
    obtain rfl : (psOf at_ v g left, 0) = r := he
    (first | refine wX ?_ | exact wZ)
    exact ⟨v, fun _ => rfl, rfl, wkE_refl _, wkE_refl _, wkE_refl _, wkE_refl _, wkE_refl _, wkE_refl _, wkE_refl _, wkE_refl _, wkE_refl _, wkE_refl _, wkE_refl _, wkE_refl _, wkE_refl _, wkH_nil _⟩
end Go.Proofs.YteljlkkppaobeaaDoor

/-
  AX, forty-second text: the rest of a slice of anything.
-/
namespace Go.AX
theorem ReadW.slc_lo {P : Program} {o : Oper} {s : List AV} {H : List Ent} {K : AV → Prop} {t e : TypeId} {x y : Operand} {a : Option Addr} {n cap sz : Nat} {k : IntKind} {i : Int} {inf : TypeInfo} (j n' : Nat) (a' : Option Addr) (ho : o.op = .slice t x (some y) none none) (hu : P.underlying t = some (.slice e)) (hi : P.info? e = some inf) (hs : inf.size = sz)
    (hx : opv s x = .c (.v (.slice a n cap))) (hy : opv s y = .c (.v (.int k i))) (hj : i = (j : Int) ∧ j ≤ n ∧ n ≤ cap) (hn : n - j = n') (ha : (if cap = j then a else a.map (·.add (j * sz))) = a') (h : K (.c (.v (.slice a' n' (cap - j))))) : ReadW P o s H K := by
  obtain ⟨rfl, hjn, hnc⟩ := hj
  subst hn ha hs
  refine ReadW.val _ (fun cs b => by rw [ho]; simp) (by rw [ho]; simp [Op.operands, allPlain, hx, hy]) (fun w _ => ?_) h
  have e1 := plainEv_v hx
  have e2 := plainEv_v hy
  have : (Instr.sliceAt t (.slice a n cap) (some (.int k (j : Int))) none none).run P w = .ok (.slice (if cap = j then a else a.map (·.add (j * inf.size))) (n - j) (cap - j)) w := by
    simp [Instr.sliceAt, Instr.slice, run_underlying hu, Instr.sliceBounds, Instr.sliceBound, asIntOf, hjn, sizeOf, typeInfo, hi]
  refine run_op_slice ho ?_
  rw [e1]
  simpa [e2] using this
end Go.AX
