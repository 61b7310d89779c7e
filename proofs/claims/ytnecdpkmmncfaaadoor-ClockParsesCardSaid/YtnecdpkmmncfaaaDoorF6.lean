/-
  Contract: clock's reader of dates.
-/
import Derived.Test.YtnecdpkmmncfaaaDoorF5
namespace Go.Proofs.YtnecdpkmmncfaaaDoor
open Go.AX Go.RowKit
set_option maxRecDepth 20000

theorem CutPrefix_c (s : List UInt8) : ∀ H, SpecH Tryd.prog 26 (pvs [.string (bs s), .string ⟨#[45]⟩]) H (Ret (.tuple #[.string (bs (bareL s)), .bool (neg s)]) H) := fun H =>
  SpecH.rawP (R := fun r => r = .tuple #[.string (bs (bareL s)), .bool (neg s)]) (callOk Tryd.func26 (by kernel_rfl) rfl)
    (fun w _ => (Tryd.strings_CutPrefix (bs s) ⟨#[45]⟩ w).mono fun e w' ⟨he, hw⟩ => ⟨_, he, by rw [bs_list]; rfl, by subst hw; exact Below.refl _ _⟩) fun r hr => by subst hr; exact ⟨rfl, rfl⟩

def stp (q : List Int × Int) (f c : UInt8) : List Int × Int := if f = 48 then (q.1, 10 * q.2 + ((c.toNat : Int) - 48)) else (q.1 ++ [q.2], 0)
def stt (t : List UInt8) : Nat → List Int × Int
  | 0 => ([], 0)
  | i + 1 => match form[i]?, t[i]? with
    | some f, some c => stp (stt t i) f c
    | _, _ => stt t i
theorem stt_succ {t : List UInt8} {i : Nat} {f c : UInt8} (hf : form[i]? = some f) (hc : t[i]? = some c) : stt t (i + 1) = stp (stt t i) f c := by
  rw [stt, hf, hc]
def dgc (i : Nat) : Nat := ((form.take i).filter (· == 48)).length
theorem dgc_le : ∀ i, i < 20 → dgc i ≤ 14 := by decide
theorem dgc_dig : ∀ i, i < 19 → form[i]? = some 48 → dgc (i + 1) = dgc i + 1 := by decide
/-- The rounds so far went well. -/
structure StOk (t : List UInt8) (i : Nat) : Prop where
  le : i ≤ 19
  all : (t.take i).map sh = form.take i
  bd : 0 ≤ (stt t i).2 ∧ (stt t i).2 < 10 ^ dgc i
  len : (stt t i).1.length ≤ i
theorem StOk.zero (t : List UInt8) : StOk t 0 := ⟨by omega, rfl, ⟨Int.le_refl _, Int.pow_pos (by decide)⟩, by simp [stt]⟩
theorem StOk.bd15 {t : List UInt8} {i : Nat} (h : StOk t i) : 0 ≤ (stt t i).2 ∧ (stt t i).2 < 100000000000000 := by
  have h1 := dgc_le i (by have := h.le; omega)
  have h2 : (10 : Int) ^ dgc i ≤ 10 ^ 14 := by exact_mod_cast Nat.pow_le_pow_right (by omega) h1
  rw [show (10 : Int) ^ 14 = 100000000000000 by decide] at h2
  have := h.bd
  omega
theorem StOk.dig {t : List UInt8} {i : Nat} {c : UInt8} (h : StOk t i) (hi : i < 19) (hf : form[i]? = some 48) (hc : t[i]? = some c) (hd : 48 ≤ c.toNat ∧ c.toNat ≤ 57) : StOk t (i + 1) ∧ stt t (i + 1) = ((stt t i).1, 10 * (stt t i).2 + ((c.toNat : Int) - 48)) := by
  have e : stt t (i + 1) = ((stt t i).1, 10 * (stt t i).2 + ((c.toNat : Int) - 48)) := by rw [stt_succ hf hc]; rfl
  refine ⟨⟨by omega, ?_, ?_, ?_⟩, e⟩
  · rw [take_snoc hc, take_snoc hf, List.map_append, h.all, List.map_singleton, sh_dig.2 hd]
  · rw [e, dgc_dig i hi hf, Int.pow_succ]
    have := h.bd
    show 0 ≤ 10 * (stt t i).2 + _ ∧ 10 * (stt t i).2 + _ < _
    omega
  · rw [e]; have := h.len; show (stt t i).1.length ≤ _; omega
theorem form_sep : ∀ i, i < 19 → ∀ f, form[i]? = some f → f = 48 ∨ isD f = false := by
  intro i hi f hf
  have : ∀ f ∈ form, f = 48 ∨ isD f = false := by decide
  exact this f (List.mem_of_getElem? hf)
theorem StOk.sep {t : List UInt8} {i : Nat} {c : UInt8} (h : StOk t i) (hi : i < 19) (hf : form[i]? = some c) (hc : t[i]? = some c) (h48 : c ≠ 48) : StOk t (i + 1) ∧ stt t (i + 1) = ((stt t i).1 ++ [(stt t i).2], 0) := by
  have e : stt t (i + 1) = ((stt t i).1 ++ [(stt t i).2], 0) := by rw [stt_succ hf hc, stp, if_neg h48]
  refine ⟨⟨by omega, ?_, ?_, ?_⟩, e⟩
  · rcases form_sep i hi c hf with h1 | h1
    · exact absurd h1 h48
    · rw [take_snoc hc, take_snoc hf, List.map_append, h.all, List.map_singleton, (sh_sep h1).2 rfl]
  · rw [e]; exact ⟨by simp, by show (0 : Int) < _; exact Int.pow_pos (by decide)⟩
  · rw [e]; have := h.len; simp; omega
/-- A byte that does not fit. -/
theorem misfit {s : List UInt8} {i : Nat} {f c : UInt8} (hf : form[i]? = some f) (hc : (bareL s)[i]? = some c) (h : sh c ≠ f) : ¬ okS s := fun hk => by
  have := congrArg (fun l => l[i]?) hk.1
  simp only [List.getElem?_map, hc, hf, Option.map_some, Option.some.injEq] at this
  exact h this
theorem stt_end {t : List UInt8} (h : t.map sh = form) : stt t 19 = ([fld t 0 4, fld t 5 2, fld t 8 2, fld t 11 2, fld t 14 2], fld t 17 2) := by
  obtain ⟨c0, c1, c2, c3, c4, c5, c6, c7, c8, c9, c10, c11, c12, c13, c14, c15, c16, c17, c18, rfl, _⟩ := fits_iff h
  rfl
theorem Parse_c (s : List UInt8) (hs : s.length ≤ 1000000000000000) : ∀ H, SpecH Tryd.prog 9 (pvs [.string (bs s)]) H (Ret (prs s) H) := by
  refine pureC hm Tryd.func9 (by kernel_rfl) rfl rfl ?_
  have hsl := congrArg List.length (neg_split s)
  rw [List.length_append] at hsl
  have hng : (if neg s = true then [(45 : UInt8)] else []).length ≤ 1 := by split <;> simp
  ((conv => whnf); (repeat ((first | refine VrN.norm (wrap_i64 (by omega)) ?_ | refine VrN.keep ?_ | refine DrawN.calm (by decide +kernel) ?_ | refine Nd.mk (by decide +kernel) ?_ | refine Nd.mk (by omega) ?_ | (refine Nd.mk ?_ ?_; focus ((repeat' (first | exact trivial | exact wkE_refl _ | refine And.intro ?_ ?_)); done)) | refine RdN.intro _ rfl (by rfl) ?_); (conv => whnf)))); refine call1 (CutPrefix_c s _) ?_
  ((conv => whnf); (repeat ((first | refine VrN.norm (wrap_i64 (by omega)) ?_ | refine VrN.keep ?_ | refine DrawN.calm (by decide +kernel) ?_ | refine Nd.mk (by decide +kernel) ?_ | refine Nd.mk (by omega) ?_ | (refine Nd.mk ?_ ?_; focus ((repeat' (first | exact trivial | exact wkE_refl _ | refine And.intro ?_ ?_)); done)) | refine RdN.intro _ rfl (by rfl) ?_); (conv => whnf))))
  rw [bs_size]
  refine brd_dec (fun h20 => ?_) (fun h20 => ?_)
  · have hbad : ¬ okS s := fun h => by have := form_len h.1; omega
    rw [prs_bad hbad]
    ((conv => whnf); (repeat ((first | refine VrN.norm (wrap_i64 (by omega)) ?_ | refine VrN.keep ?_ | refine DrawN.calm (by decide +kernel) ?_ | refine Nd.mk (by decide +kernel) ?_ | refine Nd.mk (by omega) ?_ | (refine Nd.mk ?_ ?_; focus ((repeat' (first | exact trivial | exact wkE_refl _ | refine And.intro ?_ ?_)); done)) | refine RdN.intro _ rfl (by rfl) ?_); (conv => whnf)))); rfl
  ((conv => whnf); (repeat ((first | refine VrN.norm (wrap_i64 (by omega)) ?_ | refine VrN.keep ?_ | refine DrawN.calm (by decide +kernel) ?_ | refine Nd.mk (by decide +kernel) ?_ | refine Nd.mk (by omega) ?_ | (refine Nd.mk ?_ ?_; focus ((repeat' (first | exact trivial | exact wkE_refl _ | refine And.intro ?_ ?_)); done)) | refine RdN.intro _ rfl (by rfl) ?_); (conv => whnf))))
  rw [bs_size]
  refine brd_ne (fun h19 => ?_) (fun h19 => ?_)
  · have hbad : ¬ okS s := fun h => h19 (by have := form_len h.1; omega)
    rw [prs_bad hbad]
    ((conv => whnf); (repeat ((first | refine VrN.norm (wrap_i64 (by omega)) ?_ | refine VrN.keep ?_ | refine DrawN.calm (by decide +kernel) ?_ | refine Nd.mk (by decide +kernel) ?_ | refine Nd.mk (by omega) ?_ | (refine Nd.mk ?_ ?_; focus ((repeat' (first | exact trivial | exact wkE_refl _ | refine And.intro ?_ ?_)); done)) | refine RdN.intro _ rfl (by rfl) ?_); (conv => whnf)))); rfl
  have hl19 : (bareL s).length = 19 := by omega
  ((conv => whnf); (repeat ((first | refine VrN.norm (wrap_i64 (by omega)) ?_ | refine VrN.keep ?_ | refine DrawN.calm (by decide +kernel) ?_ | refine Nd.mk (by decide +kernel) ?_ | refine Nd.mk (by omega) ?_ | (refine Nd.mk ?_ ?_; focus ((repeat' (first | exact trivial | exact wkE_refl _ | refine And.intro ?_ ?_)); done)) | refine RdN.intro _ rfl (by rfl) ?_); (conv => whnf))))
  refine LoopN.intro (Nat × Option Nat × Nat) (fun ⟨i, b, c⟩ => StOk (bareL s) i ∧ (b = none → (stt (bareL s) i).1 = [] ∧ c = 0)) (fun ⟨i, b, c⟩ => mkS Tryd.f9.ntmps 0 [(2, .c (.lp 0 0)), (4, .c (.v (.string (bs (bareL s))))), (5, .c (.v (.bool (neg s)))), (6, .c (.v (.slice (b.map fun b => ⟨b, 0, none⟩) (stt (bareL s) i).1.length c))), (7, .c (.v (.int .i64 (stt (bareL s) i).2))), (25, .c (.v (.int .i64 (i : Int))))])
    (fun ⟨i, b, c⟩ => [.blk 23 (cellsV dt0), .app 3 1 ((stt (bareL s) i).1.map (Value.int .i64)) (b.map fun b => ⟨b, 0, none⟩) (stt (bareL s) i).1.length c]) (fun ⟨i, _⟩ => 19 - i) [.app 0 0 [] none 0 0] rfl
    (fun _ => rfl) (fun _ => rfl) (fun _ _ => okHB_eq rfl) ⟨⟨0, none, 0⟩, ⟨StOk.zero _, fun _ => ⟨rfl, rfl⟩⟩, ?_, ?_⟩ ?_
  · (repeat' (first | exact trivial | refine And.intro (by with_reducible rfl) ?_ | (with_reducible exact wkC_refl _) | (with_reducible exact wkCs_refl _) | refine And.intro ?_ ?_))
    all_goals rfl
  · exact ⟨wkE_refl _, wkE_nil, trivial⟩
  rintro ⟨i, b, c⟩ ⟨hok, hb⟩
  have hb15 := hok.bd15
  have hlen := hok.len
  have hile := hok.le
  ((conv => whnf); (repeat ((first | refine VrN.norm (wrap_i64 (by omega)) ?_ | refine VrN.keep ?_ | refine DrawN.calm (by decide +kernel) ?_ | refine Nd.mk (by decide +kernel) ?_ | refine Nd.mk (by omega) ?_ | (refine Nd.mk ?_ ?_; focus ((repeat' (first | exact trivial | exact wkE_refl _ | refine And.intro ?_ ?_)); done)) | refine RdN.intro _ rfl (by rfl) ?_); (conv => whnf))))
  refine brd_dec (fun h1 => ?_) (fun h1 => ?_)
  · have hc : ∃ c, (bareL s)[i]? = some c := ⟨_, List.getElem?_eq_getElem (by omega)⟩
    obtain ⟨x, hcc⟩ := hc
    have hf : ∃ f, form[i]? = some f := ⟨_, List.getElem?_eq_getElem (by show i < 19; omega)⟩
    obtain ⟨f, hff⟩ := hf
    have hbi := byteAt_get hcc
    have hbf := byteAt_get hff
    ((conv => whnf); (repeat ((first | refine VrN.norm (wrap_i64 (by omega)) ?_ | refine VrN.keep ?_ | refine DrawN.calm (by decide +kernel) ?_ | refine Nd.mk (by decide +kernel) ?_ | refine Nd.mk (by omega) ?_ | (refine Nd.mk ?_ ?_; focus ((repeat' (first | exact trivial | exact wkE_refl _ | refine And.intro ?_ ?_)); done)) | refine RdN.intro _ rfl (by rfl) ?_); (conv => whnf))))
    refine Nd.mk (by rw [bs_size]; omega) ?_
    rw [Int.toNat_natCast, hbi]
    ((conv => whnf); (repeat ((first | refine VrN.norm (wrap_i64 (by omega)) ?_ | refine VrN.keep ?_ | refine DrawN.calm (by decide +kernel) ?_ | refine Nd.mk (by decide +kernel) ?_ | refine Nd.mk (by omega) ?_ | (refine Nd.mk ?_ ?_; focus ((repeat' (first | exact trivial | exact wkE_refl _ | refine And.intro ?_ ?_)); done)) | refine RdN.intro _ rfl (by rfl) ?_); (conv => whnf))))
    refine Nd.mk ⟨by omega, by show (i : Int) < 19; omega⟩ ?_
    rw [Int.toNat_natCast, show (⟨#[48, 48, 48, 48, 45, 48, 48, 45, 48, 48, 32, 48, 48, 58, 48, 48, 58, 48, 48]⟩ : ByteArray) = bs form from rfl, hbf]
    ((conv => whnf); (repeat ((first | refine VrN.norm (wrap_i64 (by omega)) ?_ | refine VrN.keep ?_ | refine DrawN.calm (by decide +kernel) ?_ | refine Nd.mk (by decide +kernel) ?_ | refine Nd.mk (by omega) ?_ | (refine Nd.mk ?_ ?_; focus ((repeat' (first | exact trivial | exact wkE_refl _ | refine And.intro ?_ ?_)); done)) | refine RdN.intro _ rfl (by rfl) ?_); (conv => whnf))))
    refine brd_eq (fun h2 => ?_) (fun h2 => ?_)
    · have hf48 : f = 48 := UInt8.toNat_inj.1 (by show f.toNat = 48; omega)
      subst hf48
      ((conv => whnf); (repeat ((first | refine VrN.norm (wrap_i64 (by omega)) ?_ | refine VrN.keep ?_ | refine DrawN.calm (by decide +kernel) ?_ | refine Nd.mk (by decide +kernel) ?_ | refine Nd.mk (by omega) ?_ | (refine Nd.mk ?_ ?_; focus ((repeat' (first | exact trivial | exact wkE_refl _ | refine And.intro ?_ ?_)); done)) | refine RdN.intro _ rfl (by rfl) ?_); (conv => whnf))))
      refine brd_dec (fun h3 => ?_) (fun h3 => ?_)
      · skip
        rw [prs_bad (misfit hff hcc (fun e => by have := sh_dig.1 e; omega))]
        ((conv => whnf); (repeat ((first | refine VrN.norm (wrap_i64 (by omega)) ?_ | refine VrN.keep ?_ | refine DrawN.calm (by decide +kernel) ?_ | refine Nd.mk (by decide +kernel) ?_ | refine Nd.mk (by omega) ?_ | (refine Nd.mk ?_ ?_; focus ((repeat' (first | exact trivial | exact wkE_refl _ | refine And.intro ?_ ?_)); done)) | refine RdN.intro _ rfl (by rfl) ?_); (conv => whnf)))); rfl
      ((conv => whnf); (repeat ((first | refine VrN.norm (wrap_i64 (by omega)) ?_ | refine VrN.keep ?_ | refine DrawN.calm (by decide +kernel) ?_ | refine Nd.mk (by decide +kernel) ?_ | refine Nd.mk (by omega) ?_ | (refine Nd.mk ?_ ?_; focus ((repeat' (first | exact trivial | exact wkE_refl _ | refine And.intro ?_ ?_)); done)) | refine RdN.intro _ rfl (by rfl) ?_); (conv => whnf))))
      refine brd_dec (fun h4 => ?_) (fun h4 => ?_)
      · skip
        rw [prs_bad (misfit hff hcc (fun e => by have := sh_dig.1 e; omega))]
        ((conv => whnf); (repeat ((first | refine VrN.norm (wrap_i64 (by omega)) ?_ | refine VrN.keep ?_ | refine DrawN.calm (by decide +kernel) ?_ | refine Nd.mk (by decide +kernel) ?_ | refine Nd.mk (by omega) ?_ | (refine Nd.mk ?_ ?_; focus ((repeat' (first | exact trivial | exact wkE_refl _ | refine And.intro ?_ ?_)); done)) | refine RdN.intro _ rfl (by rfl) ?_); (conv => whnf)))); rfl
      obtain ⟨hok', hst⟩ := hok.dig (by omega) hff hcc ⟨by omega, by omega⟩
      ((conv => whnf); (repeat ((first | refine VrN.norm (wrap_i64 (by omega)) ?_ | refine VrN.keep ?_ | refine DrawN.calm (by decide +kernel) ?_ | refine Nd.mk (by decide +kernel) ?_ | refine Nd.mk (by omega) ?_ | (refine Nd.mk ?_ ?_; focus ((repeat' (first | exact trivial | exact wkE_refl _ | refine And.intro ?_ ?_)); done)) | refine RdN.intro _ rfl (by rfl) ?_); (conv => whnf))))
      refine ⟨⟨i + 1, b, c⟩, ⟨hok', by rw [hst]; exact hb⟩, by show 19 - (i + 1) < 19 - i; omega, ?_, ?_⟩
      · (repeat' (first | exact trivial | refine And.intro (by with_reducible rfl) ?_ | (with_reducible exact wkC_refl _) | (with_reducible exact wkCs_refl _) | refine And.intro ?_ ?_))
        · rw [hst]
        · refine av_int ?_
          rw [hst, wrap_u8 (by omega)]
          simp (disch := omega) only [wrap_i64]
          show (stt (bareL s) i).2 * 10 + _ = 10 * (stt (bareL s) i).2 + _
          omega
        · exact av_int (by rw [wrap_i64 (by omega)]; omega)
      · exact ⟨wkE_refl _, .inl ⟨rfl, rfl, by rw [hst], rfl, by rw [hst], rfl⟩, trivial⟩
    · have hf48 : f ≠ 48 := fun e => h2 (by rw [e]; rfl)
      have hsp : isD f = false := (form_sep i (by omega) f hff).resolve_left hf48
      ((conv => whnf); (repeat ((first | refine VrN.norm (wrap_i64 (by omega)) ?_ | refine VrN.keep ?_ | refine DrawN.calm (by decide +kernel) ?_ | refine Nd.mk (by decide +kernel) ?_ | refine Nd.mk (by omega) ?_ | (refine Nd.mk ?_ ?_; focus ((repeat' (first | exact trivial | exact wkE_refl _ | refine And.intro ?_ ?_)); done)) | refine RdN.intro _ rfl (by rfl) ?_); (conv => whnf))))
      refine Nd.mk ⟨by omega, by show (i : Int) < 19; omega⟩ ?_
      rw [Int.toNat_natCast, hbf]
      ((conv => whnf); (repeat ((first | refine VrN.norm (wrap_i64 (by omega)) ?_ | refine VrN.keep ?_ | refine DrawN.calm (by decide +kernel) ?_ | refine Nd.mk (by decide +kernel) ?_ | refine Nd.mk (by omega) ?_ | (refine Nd.mk ?_ ?_; focus ((repeat' (first | exact trivial | exact wkE_refl _ | refine And.intro ?_ ?_)); done)) | refine RdN.intro _ rfl (by rfl) ?_); (conv => whnf))))
      refine brd_ne (fun h3 => ?_) (fun h3 => ?_)
      · skip
        rw [prs_bad (misfit hff hcc (fun e => by rw [sh_sep hsp] at e; exact h3 (by rw [e])))]
        ((conv => whnf); (repeat ((first | refine VrN.norm (wrap_i64 (by omega)) ?_ | refine VrN.keep ?_ | refine DrawN.calm (by decide +kernel) ?_ | refine Nd.mk (by decide +kernel) ?_ | refine Nd.mk (by omega) ?_ | (refine Nd.mk ?_ ?_; focus ((repeat' (first | exact trivial | exact wkE_refl _ | refine And.intro ?_ ?_)); done)) | refine RdN.intro _ rfl (by rfl) ?_); (conv => whnf)))); rfl
      have hxf : x = f := UInt8.toNat_inj.1 (by omega)
      subst hxf
      obtain ⟨hok', hst⟩ := hok.sep (by omega) hff hcc hf48
      ((conv => whnf); (repeat ((first | refine VrN.norm (wrap_i64 (by omega)) ?_ | refine VrN.keep ?_ | refine DrawN.calm (by decide +kernel) ?_ | refine Nd.mk (by decide +kernel) ?_ | refine Nd.mk (by omega) ?_ | (refine Nd.mk ?_ ?_; focus ((repeat' (first | exact trivial | exact wkE_refl _ | refine And.intro ?_ ?_)); done)) | refine RdN.intro _ rfl (by rfl) ?_); (conv => whnf))))
      refine Nd.mk ⟨by omega, rfl, rfl⟩ ?_
      (conv => whnf)
      refine AppN.grow 1 ((stt (bareL s) i).1.map (Value.int .i64)) _ rfl rfl ⟨by omega, ⟨by show (_ + 1) * 8 ≤ _; omega, by omega⟩, by decide⟩ fun b' cap' h5 h6 => ?_
      ((conv => whnf); (repeat ((first | refine VrN.norm (wrap_i64 (by omega)) ?_ | refine VrN.keep ?_ | refine DrawN.calm (by decide +kernel) ?_ | refine Nd.mk (by decide +kernel) ?_ | refine Nd.mk (by omega) ?_ | (refine Nd.mk ?_ ?_; focus ((repeat' (first | exact trivial | exact wkE_refl _ | refine And.intro ?_ ?_)); done)) | refine RdN.intro _ rfl (by rfl) ?_); (conv => whnf))))
      refine ⟨⟨i + 1, some b', cap'⟩, ⟨hok', fun h => by cases h⟩, by show 19 - (i + 1) < 19 - i; omega, ?_, ?_⟩
      · (repeat' (first | exact trivial | refine And.intro (by with_reducible rfl) ?_ | (with_reducible exact wkC_refl _) | (with_reducible exact wkCs_refl _) | refine And.intro ?_ ?_))
        · rw [hst]; simp
        · exact av_int (by rw [hst])
        · exact av_int (by first | omega | (rw [wrap_i64 (by omega)]; omega))
      · exact ⟨wkE_refl _, .inl ⟨rfl, rfl, by rw [hst]; simp, rfl, by rw [hst]; simp, rfl⟩, trivial⟩
  · have e : i = 19 := by omega
    subst e
    have hF : (bareL s).map sh = form := by
      have := hok.all
      rwa [List.take_of_length_le (by omega), List.take_of_length_le (by decide)] at this
    rw [stt_end hF] at hb ⊢
    obtain ⟨hfb, -⟩ := fld_bd hF
    cases b with
    | none => have := (hb rfl).1; cases this
    | some b =>
    simp only [List.map_cons, List.map_nil, List.length_cons, List.length_nil, Nat.reduceAdd, Option.map_some]
    ((conv => whnf); (repeat ((first | refine VrN.norm (wrap_i64 (by omega)) ?_ | refine VrN.keep ?_ | refine DrawN.calm (by decide +kernel) ?_ | refine Nd.mk (by decide +kernel) ?_ | refine Nd.mk (by omega) ?_ | (refine Nd.mk ?_ ?_; focus ((repeat' (first | exact trivial | exact wkE_refl _ | refine And.intro ?_ ?_)); done)) | refine RdN.intro _ rfl (by rfl) ?_); (conv => whnf))))
    refine brd_intro (fun hN => ?_) (fun hN => ?_)
    · have hN' : yr s = 0 - fld (bareL s) 0 4 := by unfold yr; rw [if_pos hN]
      ((conv => whnf); (repeat ((first | refine VrN.norm (wrap_i64 (by omega)) ?_ | refine VrN.keep ?_ | refine DrawN.calm (by decide +kernel) ?_ | refine Nd.mk (by decide +kernel) ?_ | refine Nd.mk (by omega) ?_ | (refine Nd.mk ?_ ?_; focus ((repeat' (first | exact trivial | exact wkE_refl _ | refine And.intro ?_ ?_)); done)) | refine RdN.intro _ rfl (by rfl) ?_); (conv => whnf))))
      refine Nd.mk ⟨rfl, by omega, by omega⟩ ?_
      ((conv => whnf); (repeat ((first | refine VrN.norm (wrap_i64 (by omega)) ?_ | refine VrN.keep ?_ | refine DrawN.calm (by decide +kernel) ?_ | refine Nd.mk (by decide +kernel) ?_ | refine Nd.mk (by omega) ?_ | (refine Nd.mk ?_ ?_; focus ((repeat' (first | exact trivial | exact wkE_refl _ | refine And.intro ?_ ?_)); done)) | refine RdN.intro _ rfl (by rfl) ?_); (conv => whnf)))); refine LdN.one (.int .i64 (fld (bareL s) 0 4)) rfl (fun w hw => hw.1) rfl ?_
      ((conv => whnf); (repeat ((first | refine VrN.norm (wrap_i64 (by omega)) ?_ | refine VrN.keep ?_ | refine DrawN.calm (by decide +kernel) ?_ | refine Nd.mk (by decide +kernel) ?_ | refine Nd.mk (by omega) ?_ | (refine Nd.mk ?_ ?_; focus ((repeat' (first | exact trivial | exact wkE_refl _ | refine And.intro ?_ ?_)); done)) | refine RdN.intro _ rfl (by rfl) ?_); (conv => whnf))))
      refine Nd.mk ⟨rfl, by omega, by omega⟩ ?_
      rw [wrap_i64 (x := 0 - fld (bareL s) 0 4) (by omega), ← hN']
      ((conv => whnf); (repeat ((first | refine VrN.norm (wrap_i64 (by omega)) ?_ | refine VrN.keep ?_ | refine DrawN.calm (by decide +kernel) ?_ | refine Nd.mk (by decide +kernel) ?_ | refine Nd.mk (by omega) ?_ | (refine Nd.mk ?_ ?_; focus ((repeat' (first | exact trivial | exact wkE_refl _ | refine And.intro ?_ ?_)); done)) | refine RdN.intro _ rfl (by rfl) ?_); (conv => whnf))))
      refine EffW.app (i := 1) (ys := [.int .i64 (yr s)]) rfl rfl rfl rfl rfl rfl rfl (by show 0 + 1 ≤ 5 * 1; omega) ?_
      ((conv => whnf); (repeat ((first | refine VrN.norm (wrap_i64 (by omega)) ?_ | refine VrN.keep ?_ | refine DrawN.calm (by decide +kernel) ?_ | refine Nd.mk (by decide +kernel) ?_ | refine Nd.mk (by omega) ?_ | (refine Nd.mk ?_ ?_; focus ((repeat' (first | exact trivial | exact wkE_refl _ | refine And.intro ?_ ?_)); done)) | refine RdN.intro _ rfl (by rfl) ?_); (conv => whnf))))
      refine Nd.mk ⟨rfl, by omega, by omega⟩ ?_
      ((conv => whnf); (repeat ((first | refine VrN.norm (wrap_i64 (by omega)) ?_ | refine VrN.keep ?_ | refine DrawN.calm (by decide +kernel) ?_ | refine Nd.mk (by decide +kernel) ?_ | refine Nd.mk (by omega) ?_ | (refine Nd.mk ?_ ?_; focus ((repeat' (first | exact trivial | exact wkE_refl _ | refine And.intro ?_ ?_)); done)) | refine RdN.intro _ rfl (by rfl) ?_); (conv => whnf)))); refine LdN.one (.int .i64 (yr s)) rfl (fun w hw => hw.1) rfl ?_
      ((conv => whnf); (repeat ((first | refine VrN.norm (wrap_i64 (by omega)) ?_ | refine VrN.keep ?_ | refine DrawN.calm (by decide +kernel) ?_ | refine Nd.mk (by decide +kernel) ?_ | refine Nd.mk (by omega) ?_ | (refine Nd.mk ?_ ?_; focus ((repeat' (first | exact trivial | exact wkE_refl _ | refine And.intro ?_ ?_)); done)) | refine RdN.intro _ rfl (by rfl) ?_); (conv => whnf))))
      refine brd_eq (fun h2 => ?_) (fun h2 => ?_)
      · rw [prs_bad (s := s) fun h => h.2 ⟨hN, by omega⟩]
        ((conv => whnf); (repeat ((first | refine VrN.norm (wrap_i64 (by omega)) ?_ | refine VrN.keep ?_ | refine DrawN.calm (by decide +kernel) ?_ | refine Nd.mk (by decide +kernel) ?_ | refine Nd.mk (by omega) ?_ | (refine Nd.mk ?_ ?_; focus ((repeat' (first | exact trivial | exact wkE_refl _ | refine And.intro ?_ ?_)); done)) | refine RdN.intro _ rfl (by rfl) ?_); (conv => whnf)))); rfl
      have hok2 : okS s := ⟨hF, fun h => h2 (by omega)⟩
      ((conv => whnf); (repeat ((first | refine VrN.norm (wrap_i64 (by omega)) ?_ | refine VrN.keep ?_ | refine DrawN.calm (by decide +kernel) ?_ | refine Nd.mk (by decide +kernel) ?_ | refine Nd.mk (by omega) ?_ | (refine Nd.mk ?_ ?_; focus ((repeat' (first | exact trivial | exact wkE_refl _ | refine And.intro ?_ ?_)); done)) | refine RdN.intro _ rfl (by rfl) ?_); (conv => whnf))))
      have hvv : valS s = Cal.validB (yr s) (fld (bareL s) 5 2) (fld (bareL s) 8 2) (fld (bareL s) 11 2) (fld (bareL s) 14 2) (fld (bareL s) 17 2) := rfl
      refine DrawN.plan [0, 3, 6, 9, 12, 15] [(1, 1), (2, 1), (4, 1), (5, 1), (7, 1), (8, 1), (10, 1), (11, 1), (13, 1), (14, 1), (16, 1)] [(17, 2), (18, 0)] (by decide +kernel) ?_
      ((conv => whnf); (repeat ((first | refine VrN.norm (wrap_i64 (by omega)) ?_ | refine VrN.keep ?_ | refine DrawN.calm (by decide +kernel) ?_ | refine Nd.mk (by decide +kernel) ?_ | refine Nd.mk (by omega) ?_ | (refine Nd.mk ?_ ?_; focus ((repeat' (first | exact trivial | exact wkE_refl _ | refine And.intro ?_ ?_)); done)) | refine RdN.intro _ rfl (by rfl) ?_); (conv => whnf)))); refine Nd.mk ⟨rfl, by omega, by omega⟩ ?_
      ((conv => whnf); (repeat ((first | refine VrN.norm (wrap_i64 (by omega)) ?_ | refine VrN.keep ?_ | refine DrawN.calm (by decide +kernel) ?_ | refine Nd.mk (by decide +kernel) ?_ | refine Nd.mk (by omega) ?_ | (refine Nd.mk ?_ ?_; focus ((repeat' (first | exact trivial | exact wkE_refl _ | refine And.intro ?_ ?_)); done)) | refine RdN.intro _ rfl (by rfl) ?_); (conv => whnf)))); refine LdN.one (.int .i64 (yr s)) rfl (fun w hw => hw.1) rfl ?_
      ((conv => whnf); (repeat ((first | refine VrN.norm (wrap_i64 (by omega)) ?_ | refine VrN.keep ?_ | refine DrawN.calm (by decide +kernel) ?_ | refine Nd.mk (by decide +kernel) ?_ | refine Nd.mk (by omega) ?_ | (refine Nd.mk ?_ ?_; focus ((repeat' (first | exact trivial | exact wkE_refl _ | refine And.intro ?_ ?_)); done)) | refine RdN.intro _ rfl (by rfl) ?_); (conv => whnf)))); refine Nd.mk ⟨rfl, by omega, by omega⟩ ?_
      ((conv => whnf); (repeat ((first | refine VrN.norm (wrap_i64 (by omega)) ?_ | refine VrN.keep ?_ | refine DrawN.calm (by decide +kernel) ?_ | refine Nd.mk (by decide +kernel) ?_ | refine Nd.mk (by omega) ?_ | (refine Nd.mk ?_ ?_; focus ((repeat' (first | exact trivial | exact wkE_refl _ | refine And.intro ?_ ?_)); done)) | refine RdN.intro _ rfl (by rfl) ?_); (conv => whnf)))); refine LdN.one (.int .i64 (fld (bareL s) 5 2)) rfl (fun w hw => hw.1) rfl ?_
      ((conv => whnf); (repeat ((first | refine VrN.norm (wrap_i64 (by omega)) ?_ | refine VrN.keep ?_ | refine DrawN.calm (by decide +kernel) ?_ | refine Nd.mk (by decide +kernel) ?_ | refine Nd.mk (by omega) ?_ | (refine Nd.mk ?_ ?_; focus ((repeat' (first | exact trivial | exact wkE_refl _ | refine And.intro ?_ ?_)); done)) | refine RdN.intro _ rfl (by rfl) ?_); (conv => whnf)))); refine Nd.mk ⟨rfl, by omega, by omega⟩ ?_
      ((conv => whnf); (repeat ((first | refine VrN.norm (wrap_i64 (by omega)) ?_ | refine VrN.keep ?_ | refine DrawN.calm (by decide +kernel) ?_ | refine Nd.mk (by decide +kernel) ?_ | refine Nd.mk (by omega) ?_ | (refine Nd.mk ?_ ?_; focus ((repeat' (first | exact trivial | exact wkE_refl _ | refine And.intro ?_ ?_)); done)) | refine RdN.intro _ rfl (by rfl) ?_); (conv => whnf)))); refine LdN.one (.int .i64 (fld (bareL s) 8 2)) rfl (fun w hw => hw.1) rfl ?_
      ((conv => whnf); (repeat ((first | refine VrN.norm (wrap_i64 (by omega)) ?_ | refine VrN.keep ?_ | refine DrawN.calm (by decide +kernel) ?_ | refine Nd.mk (by decide +kernel) ?_ | refine Nd.mk (by omega) ?_ | (refine Nd.mk ?_ ?_; focus ((repeat' (first | exact trivial | exact wkE_refl _ | refine And.intro ?_ ?_)); done)) | refine RdN.intro _ rfl (by rfl) ?_); (conv => whnf)))); refine Nd.mk ⟨rfl, by omega, by omega⟩ ?_
      ((conv => whnf); (repeat ((first | refine VrN.norm (wrap_i64 (by omega)) ?_ | refine VrN.keep ?_ | refine DrawN.calm (by decide +kernel) ?_ | refine Nd.mk (by decide +kernel) ?_ | refine Nd.mk (by omega) ?_ | (refine Nd.mk ?_ ?_; focus ((repeat' (first | exact trivial | exact wkE_refl _ | refine And.intro ?_ ?_)); done)) | refine RdN.intro _ rfl (by rfl) ?_); (conv => whnf)))); refine LdN.one (.int .i64 (fld (bareL s) 11 2)) rfl (fun w hw => hw.1) rfl ?_
      ((conv => whnf); (repeat ((first | refine VrN.norm (wrap_i64 (by omega)) ?_ | refine VrN.keep ?_ | refine DrawN.calm (by decide +kernel) ?_ | refine Nd.mk (by decide +kernel) ?_ | refine Nd.mk (by omega) ?_ | (refine Nd.mk ?_ ?_; focus ((repeat' (first | exact trivial | exact wkE_refl _ | refine And.intro ?_ ?_)); done)) | refine RdN.intro _ rfl (by rfl) ?_); (conv => whnf)))); refine Nd.mk ⟨rfl, by omega, by omega⟩ ?_
      ((conv => whnf); (repeat ((first | refine VrN.norm (wrap_i64 (by omega)) ?_ | refine VrN.keep ?_ | refine DrawN.calm (by decide +kernel) ?_ | refine Nd.mk (by decide +kernel) ?_ | refine Nd.mk (by omega) ?_ | (refine Nd.mk ?_ ?_; focus ((repeat' (first | exact trivial | exact wkE_refl _ | refine And.intro ?_ ?_)); done)) | refine RdN.intro _ rfl (by rfl) ?_); (conv => whnf)))); refine LdN.one (.int .i64 (fld (bareL s) 14 2)) rfl (fun w hw => hw.1) rfl ?_
      ((conv => whnf); (repeat ((first | refine VrN.norm (wrap_i64 (by omega)) ?_ | refine VrN.keep ?_ | refine DrawN.calm (by decide +kernel) ?_ | refine Nd.mk (by decide +kernel) ?_ | refine Nd.mk (by omega) ?_ | (refine Nd.mk ?_ ?_; focus ((repeat' (first | exact trivial | exact wkE_refl _ | refine And.intro ?_ ?_)); done)) | refine RdN.intro _ rfl (by rfl) ?_); (conv => whnf))))
      refine call1 (valid_c (yr s) (fld (bareL s) 5 2) (fld (bareL s) 8 2) (fld (bareL s) 11 2) (fld (bareL s) 14 2) (fld (bareL s) 17 2) _) ?_
      rw [← hvv]
      ((conv => whnf); (repeat ((first | refine VrN.norm (wrap_i64 (by omega)) ?_ | refine VrN.keep ?_ | refine DrawN.calm (by decide +kernel) ?_ | refine Nd.mk (by decide +kernel) ?_ | refine Nd.mk (by omega) ?_ | (refine Nd.mk ?_ ?_; focus ((repeat' (first | exact trivial | exact wkE_refl _ | refine And.intro ?_ ?_)); done)) | refine RdN.intro _ rfl (by rfl) ?_); (conv => whnf))))
      refine brd_not (brd_intro (fun hv => ?_) (fun hv => ?_))
      · rw [prs_good hok2 hv, dtS]
        ((conv => whnf); (repeat ((first | refine VrN.norm (wrap_i64 (by omega)) ?_ | refine VrN.keep ?_ | refine DrawN.calm (by decide +kernel) ?_ | refine Nd.mk (by decide +kernel) ?_ | refine Nd.mk (by omega) ?_ | (refine Nd.mk ?_ ?_; focus ((repeat' (first | exact trivial | exact wkE_refl _ | refine And.intro ?_ ?_)); done)) | refine RdN.intro _ rfl (by rfl) ?_); (conv => whnf)))); rfl
      · rw [prs_arg hok2 (by simp [hv])]
        ((conv => whnf); (repeat ((first | refine VrN.norm (wrap_i64 (by omega)) ?_ | refine VrN.keep ?_ | refine DrawN.calm (by decide +kernel) ?_ | refine Nd.mk (by decide +kernel) ?_ | refine Nd.mk (by omega) ?_ | (refine Nd.mk ?_ ?_; focus ((repeat' (first | exact trivial | exact wkE_refl _ | refine And.intro ?_ ?_)); done)) | refine RdN.intro _ rfl (by rfl) ?_); (conv => whnf)))); rfl
    · have hN' : yr s = fld (bareL s) 0 4 := by unfold yr; rw [if_neg (by simp [hN])]
      have hok2 : okS s := ⟨hF, fun h => by rw [hN] at h; exact absurd h.1 (by decide)⟩
      rw [← hN']
      ((conv => whnf); (repeat ((first | refine VrN.norm (wrap_i64 (by omega)) ?_ | refine VrN.keep ?_ | refine DrawN.calm (by decide +kernel) ?_ | refine Nd.mk (by decide +kernel) ?_ | refine Nd.mk (by omega) ?_ | (refine Nd.mk ?_ ?_; focus ((repeat' (first | exact trivial | exact wkE_refl _ | refine And.intro ?_ ?_)); done)) | refine RdN.intro _ rfl (by rfl) ?_); (conv => whnf))))
      have hvv : valS s = Cal.validB (yr s) (fld (bareL s) 5 2) (fld (bareL s) 8 2) (fld (bareL s) 11 2) (fld (bareL s) 14 2) (fld (bareL s) 17 2) := rfl
      refine DrawN.plan [0, 3, 6, 9, 12, 15] [(1, 1), (2, 1), (4, 1), (5, 1), (7, 1), (8, 1), (10, 1), (11, 1), (13, 1), (14, 1), (16, 1)] [(17, 2), (18, 0)] (by decide +kernel) ?_
      ((conv => whnf); (repeat ((first | refine VrN.norm (wrap_i64 (by omega)) ?_ | refine VrN.keep ?_ | refine DrawN.calm (by decide +kernel) ?_ | refine Nd.mk (by decide +kernel) ?_ | refine Nd.mk (by omega) ?_ | (refine Nd.mk ?_ ?_; focus ((repeat' (first | exact trivial | exact wkE_refl _ | refine And.intro ?_ ?_)); done)) | refine RdN.intro _ rfl (by rfl) ?_); (conv => whnf)))); refine Nd.mk ⟨rfl, by omega, by omega⟩ ?_
      ((conv => whnf); (repeat ((first | refine VrN.norm (wrap_i64 (by omega)) ?_ | refine VrN.keep ?_ | refine DrawN.calm (by decide +kernel) ?_ | refine Nd.mk (by decide +kernel) ?_ | refine Nd.mk (by omega) ?_ | (refine Nd.mk ?_ ?_; focus ((repeat' (first | exact trivial | exact wkE_refl _ | refine And.intro ?_ ?_)); done)) | refine RdN.intro _ rfl (by rfl) ?_); (conv => whnf)))); refine LdN.one (.int .i64 (yr s)) rfl (fun w hw => hw.1) rfl ?_
      ((conv => whnf); (repeat ((first | refine VrN.norm (wrap_i64 (by omega)) ?_ | refine VrN.keep ?_ | refine DrawN.calm (by decide +kernel) ?_ | refine Nd.mk (by decide +kernel) ?_ | refine Nd.mk (by omega) ?_ | (refine Nd.mk ?_ ?_; focus ((repeat' (first | exact trivial | exact wkE_refl _ | refine And.intro ?_ ?_)); done)) | refine RdN.intro _ rfl (by rfl) ?_); (conv => whnf)))); refine Nd.mk ⟨rfl, by omega, by omega⟩ ?_
      ((conv => whnf); (repeat ((first | refine VrN.norm (wrap_i64 (by omega)) ?_ | refine VrN.keep ?_ | refine DrawN.calm (by decide +kernel) ?_ | refine Nd.mk (by decide +kernel) ?_ | refine Nd.mk (by omega) ?_ | (refine Nd.mk ?_ ?_; focus ((repeat' (first | exact trivial | exact wkE_refl _ | refine And.intro ?_ ?_)); done)) | refine RdN.intro _ rfl (by rfl) ?_); (conv => whnf)))); refine LdN.one (.int .i64 (fld (bareL s) 5 2)) rfl (fun w hw => hw.1) rfl ?_
      ((conv => whnf); (repeat ((first | refine VrN.norm (wrap_i64 (by omega)) ?_ | refine VrN.keep ?_ | refine DrawN.calm (by decide +kernel) ?_ | refine Nd.mk (by decide +kernel) ?_ | refine Nd.mk (by omega) ?_ | (refine Nd.mk ?_ ?_; focus ((repeat' (first | exact trivial | exact wkE_refl _ | refine And.intro ?_ ?_)); done)) | refine RdN.intro _ rfl (by rfl) ?_); (conv => whnf)))); refine Nd.mk ⟨rfl, by omega, by omega⟩ ?_
      ((conv => whnf); (repeat ((first | refine VrN.norm (wrap_i64 (by omega)) ?_ | refine VrN.keep ?_ | refine DrawN.calm (by decide +kernel) ?_ | refine Nd.mk (by decide +kernel) ?_ | refine Nd.mk (by omega) ?_ | (refine Nd.mk ?_ ?_; focus ((repeat' (first | exact trivial | exact wkE_refl _ | refine And.intro ?_ ?_)); done)) | refine RdN.intro _ rfl (by rfl) ?_); (conv => whnf)))); refine LdN.one (.int .i64 (fld (bareL s) 8 2)) rfl (fun w hw => hw.1) rfl ?_
      ((conv => whnf); (repeat ((first | refine VrN.norm (wrap_i64 (by omega)) ?_ | refine VrN.keep ?_ | refine DrawN.calm (by decide +kernel) ?_ | refine Nd.mk (by decide +kernel) ?_ | refine Nd.mk (by omega) ?_ | (refine Nd.mk ?_ ?_; focus ((repeat' (first | exact trivial | exact wkE_refl _ | refine And.intro ?_ ?_)); done)) | refine RdN.intro _ rfl (by rfl) ?_); (conv => whnf)))); refine Nd.mk ⟨rfl, by omega, by omega⟩ ?_
      ((conv => whnf); (repeat ((first | refine VrN.norm (wrap_i64 (by omega)) ?_ | refine VrN.keep ?_ | refine DrawN.calm (by decide +kernel) ?_ | refine Nd.mk (by decide +kernel) ?_ | refine Nd.mk (by omega) ?_ | (refine Nd.mk ?_ ?_; focus ((repeat' (first | exact trivial | exact wkE_refl _ | refine And.intro ?_ ?_)); done)) | refine RdN.intro _ rfl (by rfl) ?_); (conv => whnf)))); refine LdN.one (.int .i64 (fld (bareL s) 11 2)) rfl (fun w hw => hw.1) rfl ?_
      ((conv => whnf); (repeat ((first | refine VrN.norm (wrap_i64 (by omega)) ?_ | refine VrN.keep ?_ | refine DrawN.calm (by decide +kernel) ?_ | refine Nd.mk (by decide +kernel) ?_ | refine Nd.mk (by omega) ?_ | (refine Nd.mk ?_ ?_; focus ((repeat' (first | exact trivial | exact wkE_refl _ | refine And.intro ?_ ?_)); done)) | refine RdN.intro _ rfl (by rfl) ?_); (conv => whnf)))); refine Nd.mk ⟨rfl, by omega, by omega⟩ ?_
      ((conv => whnf); (repeat ((first | refine VrN.norm (wrap_i64 (by omega)) ?_ | refine VrN.keep ?_ | refine DrawN.calm (by decide +kernel) ?_ | refine Nd.mk (by decide +kernel) ?_ | refine Nd.mk (by omega) ?_ | (refine Nd.mk ?_ ?_; focus ((repeat' (first | exact trivial | exact wkE_refl _ | refine And.intro ?_ ?_)); done)) | refine RdN.intro _ rfl (by rfl) ?_); (conv => whnf)))); refine LdN.one (.int .i64 (fld (bareL s) 14 2)) rfl (fun w hw => hw.1) rfl ?_
      ((conv => whnf); (repeat ((first | refine VrN.norm (wrap_i64 (by omega)) ?_ | refine VrN.keep ?_ | refine DrawN.calm (by decide +kernel) ?_ | refine Nd.mk (by decide +kernel) ?_ | refine Nd.mk (by omega) ?_ | (refine Nd.mk ?_ ?_; focus ((repeat' (first | exact trivial | exact wkE_refl _ | refine And.intro ?_ ?_)); done)) | refine RdN.intro _ rfl (by rfl) ?_); (conv => whnf))))
      refine call1 (valid_c (yr s) (fld (bareL s) 5 2) (fld (bareL s) 8 2) (fld (bareL s) 11 2) (fld (bareL s) 14 2) (fld (bareL s) 17 2) _) ?_
      rw [← hvv]
      ((conv => whnf); (repeat ((first | refine VrN.norm (wrap_i64 (by omega)) ?_ | refine VrN.keep ?_ | refine DrawN.calm (by decide +kernel) ?_ | refine Nd.mk (by decide +kernel) ?_ | refine Nd.mk (by omega) ?_ | (refine Nd.mk ?_ ?_; focus ((repeat' (first | exact trivial | exact wkE_refl _ | refine And.intro ?_ ?_)); done)) | refine RdN.intro _ rfl (by rfl) ?_); (conv => whnf))))
      refine brd_not (brd_intro (fun hv => ?_) (fun hv => ?_))
      · rw [prs_good hok2 hv, dtS]
        ((conv => whnf); (repeat ((first | refine VrN.norm (wrap_i64 (by omega)) ?_ | refine VrN.keep ?_ | refine DrawN.calm (by decide +kernel) ?_ | refine Nd.mk (by decide +kernel) ?_ | refine Nd.mk (by omega) ?_ | (refine Nd.mk ?_ ?_; focus ((repeat' (first | exact trivial | exact wkE_refl _ | refine And.intro ?_ ?_)); done)) | refine RdN.intro _ rfl (by rfl) ?_); (conv => whnf)))); rfl
      · rw [prs_arg hok2 (by simp [hv])]
        ((conv => whnf); (repeat ((first | refine VrN.norm (wrap_i64 (by omega)) ?_ | refine VrN.keep ?_ | refine DrawN.calm (by decide +kernel) ?_ | refine Nd.mk (by decide +kernel) ?_ | refine Nd.mk (by omega) ?_ | (refine Nd.mk ?_ ?_; focus ((repeat' (first | exact trivial | exact wkE_refl _ | refine And.intro ?_ ?_)); done)) | refine RdN.intro _ rfl (by rfl) ?_); (conv => whnf)))); rfl
end Go.Proofs.YtnecdpkmmncfaaaDoor
