/-
  Contract: the law ErbWrites; the reading of an argument that is parts.
-/
import Derived.Test.YtfcjgklghgpddaaDoorH8
import Derived.Test.YtfcjgklghgpddaaDoorAx27
namespace Go.Proofs.YtfcjgklghgpddaaDoor
open Go.AX Go.RowKit Go.Erb
set_option maxRecDepth 20000

theorem mass_snoc {l : List Part} {i : Nat} {p : Part} (h : l[i]? = some p) : mass (l.take (i + 1)) = mass (l.take i) + (1 + p.text.length) := by
  rw [take_snoc h, mass_app]; simp [mass]
theorem ErbWrites_c (a : Option Addr) (cap : Nat) (l : List Part) (hl : l.length ≤ 200000000000000) (htl : ∀ p ∈ l, p.text.length ≤ 200000000000000) (ha : a = none → l = []) : ∀ H, (∀ w, Facts H w → MaxF w ∧ SlAt a (l.length * 3) (partsC l) w) →
    SpecH Tryd.prog 4 (pvs [.slice a l.length cap]) H (Ret (.bool true) H) := by
  refine factC hm Tryd.func4 (by kernel_rfl) rfl rfl ?_
  ((conv => whnf); (repeat ((first | refine VrN.norm (wrap_i64 (by omega)) ?_ | refine VrN.keep ?_ | refine DrawN.calm (by decide +kernel) ?_ | refine Nd.mk (by decide +kernel) ?_ | refine Nd.mk (by omega) ?_ | (refine Nd.mk ?_ ?_; focus ((repeat' (first | exact trivial | exact wkE_refl _ | refine And.intro ?_ ?_)); done)) | refine RdN.intro _ rfl (by rfl) ?_); (conv => whnf))))
  refine loopS Nat (fun i => i ≤ l.length ∧ mass (l.take i) ≤ 300000000000000) (fun i => mkS Tryd.f4.ntmps 0 [(0, .c (.v (.slice a l.length cap))), (3, .c (.v (.int .i64 (mass (l.take i) : Nat)))), (4, .c (.v (.int .i64 (i : Int))))]) (fun i => l.length - i) rfl (fun _ => rfl) 0 ⟨by omega, by simp [mass]⟩ ?_ fun i ⟨hi, hm0⟩ => ?_
  · (repeat' (first | exact trivial | refine And.intro (by with_reducible rfl) ?_ | (with_reducible exact wkC_refl _) | (with_reducible exact wkCs_refl _) | refine And.intro ?_ ?_))
    all_goals rfl
  ((conv => whnf); (repeat ((first | refine VrN.norm (wrap_i64 (by omega)) ?_ | refine VrN.keep ?_ | refine DrawN.calm (by decide +kernel) ?_ | refine Nd.mk (by decide +kernel) ?_ | refine Nd.mk (by omega) ?_ | (refine Nd.mk ?_ ?_; focus ((repeat' (first | exact trivial | exact wkE_refl _ | refine And.intro ?_ ?_)); done)) | refine RdN.intro _ rfl (by rfl) ?_); (conv => whnf))))
  refine brd_dec (fun h1 => ?_) (fun h1 => ?_)
  · ((conv => whnf); (repeat ((first | refine VrN.norm (wrap_i64 (by omega)) ?_ | refine VrN.keep ?_ | refine DrawN.calm (by decide +kernel) ?_ | refine Nd.mk (by decide +kernel) ?_ | refine Nd.mk (by omega) ?_ | (refine Nd.mk ?_ ?_; focus ((repeat' (first | exact trivial | exact wkE_refl _ | refine And.intro ?_ ?_)); done)) | refine RdN.intro _ rfl (by rfl) ?_); (conv => whnf))))
    refine brd_dec (fun h2 => ?_) (fun h2 => ?_)
    · have hp : ∃ p, l[i]? = some p := ⟨_, List.getElem?_eq_getElem (by omega)⟩
      obtain ⟨p, hp⟩ := hp
      have htp := htl _ (List.mem_of_getElem? hp)
      have hms := mass_snoc hp
      have hsa : a.isSome = true := by
        cases a with
        | none => rw [ha rfl] at hp; cases hp
        | some _ => rfl
      ((conv => whnf); (repeat ((first | refine VrN.norm (wrap_i64 (by omega)) ?_ | refine VrN.keep ?_ | refine DrawN.calm (by decide +kernel) ?_ | refine Nd.mk (by decide +kernel) ?_ | refine Nd.mk (by omega) ?_ | (refine Nd.mk ?_ ?_; focus ((repeat' (first | exact trivial | exact wkE_refl _ | refine And.intro ?_ ?_)); done)) | refine RdN.intro _ rfl (by rfl) ?_); (conv => whnf))))
      refine Nd.mk ⟨hsa, by omega, by omega⟩ ?_
      ((conv => whnf); (repeat ((first | refine VrN.norm (wrap_i64 (by omega)) ?_ | refine VrN.keep ?_ | refine DrawN.calm (by decide +kernel) ?_ | refine Nd.mk (by decide +kernel) ?_ | refine Nd.mk (by omega) ?_ | (refine Nd.mk ?_ ?_; focus ((repeat' (first | exact trivial | exact wkE_refl _ | refine And.intro ?_ ?_)); done)) | refine RdN.intro _ rfl (by rfl) ?_); (conv => whnf))))
      refine LdN.fld (.string (bs p.text)) rfl (fun w hw => hw.1.2) (by rw [Int.toNat_natCast]; exact partsC_get l i 2 (by decide) hp) ?_
      ((conv => whnf); (repeat ((first | refine VrN.norm (wrap_i64 (by omega)) ?_ | refine VrN.keep ?_ | refine DrawN.calm (by decide +kernel) ?_ | refine Nd.mk (by decide +kernel) ?_ | refine Nd.mk (by omega) ?_ | (refine Nd.mk ?_ ?_; focus ((repeat' (first | exact trivial | exact wkE_refl _ | refine And.intro ?_ ?_)); done)) | refine RdN.intro _ rfl (by rfl) ?_); (conv => whnf))))
      refine ⟨i + 1, ⟨by omega, by omega⟩, by omega, ?_, by (repeat' (first | exact trivial | exact wkE_refl _ | refine And.intro ?_ ?_))⟩
      (repeat' (first | exact trivial | refine And.intro (by with_reducible rfl) ?_ | (with_reducible exact wkC_refl _) | (with_reducible exact wkCs_refl _) | refine And.intro ?_ ?_))
      · exact av_int (by rw [bs_size, wrap_i64 (x := ((mass (l.take i) : Nat) : Int) + 1) (by omega), wrap_i64 (by omega)]; omega)
      · exact av_int (by first | omega | (rw [wrap_i64 (by omega)]; omega))
    · ((conv => whnf); (repeat ((first | refine VrN.norm (wrap_i64 (by omega)) ?_ | refine VrN.keep ?_ | refine DrawN.calm (by decide +kernel) ?_ | refine Nd.mk (by decide +kernel) ?_ | refine Nd.mk (by omega) ?_ | (refine Nd.mk ?_ ?_; focus ((repeat' (first | exact trivial | exact wkE_refl _ | refine And.intro ?_ ?_)); done)) | refine RdN.intro _ rfl (by rfl) ?_); (conv => whnf))))
      refine brd_dec (fun _ => ?_) (fun h => absurd h (by omega))
      (((conv => whnf); (repeat ((first | refine VrN.norm (wrap_i64 (by omega)) ?_ | refine VrN.keep ?_ | refine DrawN.calm (by decide +kernel) ?_ | refine Nd.mk (by decide +kernel) ?_ | refine Nd.mk (by omega) ?_ | (refine Nd.mk ?_ ?_; focus ((repeat' (first | exact trivial | exact wkE_refl _ | refine And.intro ?_ ?_)); done)) | refine RdN.intro _ rfl (by rfl) ?_); (conv => whnf)))); first | refine call1 (sane_c _ fun w hw => hw.1.1) ?_ | refine callQ (sane_c _ fun w hw => hw.1.1) ?_)
      ((conv => whnf); (repeat ((first | refine VrN.norm (wrap_i64 (by omega)) ?_ | refine VrN.keep ?_ | refine DrawN.calm (by decide +kernel) ?_ | refine Nd.mk (by decide +kernel) ?_ | refine Nd.mk (by omega) ?_ | (refine Nd.mk ?_ ?_; focus ((repeat' (first | exact trivial | exact wkE_refl _ | refine And.intro ?_ ?_)); done)) | refine RdN.intro _ rfl (by rfl) ?_); (conv => whnf))))
  · have hil : i = l.length := by omega
    subst hil
    rw [List.take_length] at hm0 ⊢
    ((conv => whnf); (repeat ((first | refine VrN.norm (wrap_i64 (by omega)) ?_ | refine VrN.keep ?_ | refine DrawN.calm (by decide +kernel) ?_ | refine Nd.mk (by decide +kernel) ?_ | refine Nd.mk (by omega) ?_ | (refine Nd.mk ?_ ?_; focus ((repeat' (first | exact trivial | exact wkE_refl _ | refine And.intro ?_ ?_)); done)) | refine RdN.intro _ rfl (by rfl) ?_); (conv => whnf))))
    refine brd_dec (fun _ => ?_) (fun h3 => ?_)
    · (((conv => whnf); (repeat ((first | refine VrN.norm (wrap_i64 (by omega)) ?_ | refine VrN.keep ?_ | refine DrawN.calm (by decide +kernel) ?_ | refine Nd.mk (by decide +kernel) ?_ | refine Nd.mk (by omega) ?_ | (refine Nd.mk ?_ ?_; focus ((repeat' (first | exact trivial | exact wkE_refl _ | refine And.intro ?_ ?_)); done)) | refine RdN.intro _ rfl (by rfl) ?_); (conv => whnf)))); first | refine call1 (sane_c _ fun w hw => hw.1.1) ?_ | refine callQ (sane_c _ fun w hw => hw.1.1) ?_)
      ((conv => whnf); (repeat ((first | refine VrN.norm (wrap_i64 (by omega)) ?_ | refine VrN.keep ?_ | refine DrawN.calm (by decide +kernel) ?_ | refine Nd.mk (by decide +kernel) ?_ | refine Nd.mk (by omega) ?_ | (refine Nd.mk ?_ ?_; focus ((repeat' (first | exact trivial | exact wkE_refl _ | refine And.intro ?_ ?_)); done)) | refine RdN.intro _ rfl (by rfl) ?_); (conv => whnf))))
    · have hml : mass l < 4000 := by omega
      have hll := mass_len l
      have htx := text_len l
      (((conv => whnf); (repeat ((first | refine VrN.norm (wrap_i64 (by omega)) ?_ | refine VrN.keep ?_ | refine DrawN.calm (by decide +kernel) ?_ | refine Nd.mk (by decide +kernel) ?_ | refine Nd.mk (by omega) ?_ | (refine Nd.mk ?_ ?_; focus ((repeat' (first | exact trivial | exact wkE_refl _ | refine And.intro ?_ ?_)); done)) | refine RdN.intro _ rfl (by rfl) ?_); (conv => whnf)))); first | refine call1 (writes_c a cap l (by omega) (fun p hp => by have := mass_mem hp; omega) (by omega) ha _ fun w hw => hw.1) ?_ | refine callQ (writes_c a cap l (by omega) (fun p hp => by have := mass_mem hp; omega) (by omega) ha _ fun w hw => hw.1) ?_)
      (((conv => whnf); (repeat ((first | refine VrN.norm (wrap_i64 (by omega)) ?_ | refine VrN.keep ?_ | refine DrawN.calm (by decide +kernel) ?_ | refine Nd.mk (by decide +kernel) ?_ | refine Nd.mk (by omega) ?_ | (refine Nd.mk ?_ ?_; focus ((repeat' (first | exact trivial | exact wkE_refl _ | refine And.intro ?_ ?_)); done)) | refine RdN.intro _ rfl (by rfl) ?_); (conv => whnf)))); first | refine call1 (sane_c _ fun w hw => hw.1.1) ?_ | refine callQ (sane_c _ fun w hw => hw.1.1) ?_)
      ((conv => whnf); (repeat ((first | refine VrN.norm (wrap_i64 (by omega)) ?_ | refine VrN.keep ?_ | refine DrawN.calm (by decide +kernel) ?_ | refine Nd.mk (by decide +kernel) ?_ | refine Nd.mk (by omega) ?_ | (refine Nd.mk ?_ ?_; focus ((repeat' (first | exact trivial | exact wkE_refl _ | refine And.intro ?_ ?_)); done)) | refine RdN.intro _ rfl (by rfl) ?_); (conv => whnf))))
theorem bs_toList (s : ByteArray) : bs s.data.toList = s := rfl
/-- A part as it is read. -/
theorem part_read {H : Type} {enc : TypeId × Value → H} {w : World} : ∀ n cs (y : DataW H × List MemPlace), DataW.trod enc Tryd.prog w 0 (fun _ => true) true n 35 cs = some y → (∀ k ∈ y.1.weights Tryd.prog 35, k ≤ reachBytes) → ∃ x : Part, x.text.length ≤ 200000000000000 ∧ cs = partC x := by
  intro n cs y h hk
  have cI : Tryd.prog.cellsOf 3 = 1 := by kernel_rfl
  have cS : Tryd.prog.cellsOf 9 = 1 := by kernel_rfl
  have cP : Tryd.prog.cellsOf 35 = 3 := by kernel_rfl
  obtain ⟨xs, n', _, hx, hlen, hxl, hf⟩ := DataW.trod_struct Tryd.underlying35 h
  have h0 := hf 0 _ rfl
  have h1 := hf 1 _ rfl
  have h2 := hf 2 _ rfl
  match xs, hxl with
  | [y0, y1, y2], _ =>
    obtain ⟨k, e0, _, _⟩ := DataW.trod_int Tryd.underlying3 h0
    obtain ⟨li, e1, _, _⟩ := DataW.trod_int Tryd.underlying3 h1
    obtain ⟨s, e2, hy2, _⟩ := DataW.trod_string Tryd.underlying9 h2
    rw [cP] at hlen
    match cs, hlen with
    | [c0, c1, c2], _ =>
      have f0 : List.take (Tryd.prog.cellsOf 3) (List.drop 0 [c0, c1, c2]) = [.int .i64 k] := e0
      have f1 : List.take (Tryd.prog.cellsOf 3) (List.drop 1 [c0, c1, c2]) = [.int .i64 li] := e1
      have f2 : List.take (Tryd.prog.cellsOf 9) (List.drop 2 [c0, c1, c2]) = [.string s] := e2
      clear e0 e1 e2
      rw [cI] at f0 f1
      rw [cS] at f2
      simp at f0 f1 f2
      subst f0 f1 f2
      have hr : reachBytes < 200000000000000 := by decide
      have hb : s.data.toList.length ≤ reachBytes := hk _ (by
        rw [hx, hy2]
        simp [DataW.weights, DataW.weightsEach, Tryd.underlying35])
      exact ⟨⟨k, li, s.data.toList⟩, by show s.data.toList.length ≤ _; omega, rfl⟩
end Go.Proofs.YtfcjgklghgpddaaDoor
