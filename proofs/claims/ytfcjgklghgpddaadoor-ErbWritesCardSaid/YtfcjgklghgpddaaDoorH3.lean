/-
  Contract: the document's Parts.
-/
import Derived.Test.YtfcjgklghgpddaaDoorH2
import Derived.Test.YtfcjgklghgpddaaDoorG10
namespace Go.Proofs.YtfcjgklghgpddaaDoor
open Go.AX Go.RowKit Go.Erb
set_option maxRecDepth 20000

structure RqOk (s : List UInt8) (lines : Bool) (R : Except Int (List Part)) (pre rest t fp : List UInt8) (out : List Part) (from_ : Nat) (whole : Bool) : Prop where
  sp : pre ++ rest = s
  eq : rdN lines pre rest t fp out = R
  bg : t ≠ [] → fp = s.take from_ ∧ whole = bol fp
  fl : from_ ≤ s.length
  ol : out.length ≤ 2 * pre.length
  tl : t.length ≤ pre.length
theorem trimQ_nil (w : Bool) : trimQ [] w = [] := by unfold trimQ; split <;> rfl
theorem RqOk.trim {s : List UInt8} {lines : Bool} {R : Except Int (List Part)} {pre rest t fp : List UInt8} {out : List Part} {from_ : Nat} {whole : Bool} (h : RqOk s lines R pre rest t fp out from_ whole) : trimQ t whole = trim t fp := by
  cases t with
  | nil => rw [trimQ_nil, trim_eqQ, trimQ_nil]
  | cons x t => rw [trim_eqQ, (h.bg (by simp)).2]
theorem RqOk.close {s : List UInt8} {lines : Bool} {R : Except Int (List Part)} {pre rest t fp : List UInt8} {out : List Part} {from_ : Nat} {whole : Bool} (h : RqOk s lines R pre rest t fp out from_ whole) (u : List UInt8) (hu : u ≠ [] → t ≠ []) : close u fp out = outC out u (ln (s.take from_)) :=
  close_eq out fun h0 => by rw [(h.bg (hu h0)).1]
theorem trim_ne {t fp : List UInt8} (h : trim t fp ≠ []) : t ≠ [] := fun e => h (by rw [e, trim_eqQ, trimQ_nil])

set_option maxHeartbeats 2000000 in
theorem RParts_c (s : List UInt8) (lines : Bool) (hs : s.length ≤ 1000000000000) : SpecF Tryd.prog 20 [.string (bs s), .bool lines] MaxF (PartsR (parts s lines)) := by
  refine specF hm Tryd.func20 (by kernel_rfl) rfl rfl ?_
  ((conv => whnf); (repeat ((first | refine VrN.norm (wrap_i64 (by omega)) ?_ | refine VrN.keep ?_ | refine DrawN.calm (by decide +kernel) ?_ | refine Nd.mk (by decide +kernel) ?_ | refine Nd.mk (by omega) ?_ | (refine Nd.mk ?_ ?_; focus ((repeat' (first | exact trivial | exact wkE_refl _ | refine And.intro ?_ ?_)); done)) | refine RdN.intro _ rfl (by rfl) ?_); (conv => whnf))))
  rw [bs_size]
  refine brd_dec (fun h => ?_) (fun h => ?_)
  · have hp : parts s lines = ([], 0, 2) := by unfold parts; rw [if_pos (by omega)]
    rw [hp]
    ((conv => whnf); (repeat ((first | refine VrN.norm (wrap_i64 (by omega)) ?_ | refine VrN.keep ?_ | refine DrawN.calm (by decide +kernel) ?_ | refine Nd.mk (by decide +kernel) ?_ | refine Nd.mk (by omega) ?_ | (refine Nd.mk ?_ ?_; focus ((repeat' (first | exact trivial | exact wkE_refl _ | refine And.intro ?_ ?_)); done)) | refine RdN.intro _ rfl (by rfl) ?_); (conv => whnf))))
    exact fin_p (fun w => MaxF w) ⟨none, 0, rfl, fun _ => rfl, fun _ _ => SlAt.nil⟩ (fun w hw => hw.1)
  have hl : s.length ≤ 50000 := by omega
  rw [parts_ok s lines hl]
  generalize hR : rdN lines [] s [] [] [] = R
  ((conv => whnf); (repeat ((first | refine VrN.norm (wrap_i64 (by omega)) ?_ | refine VrN.keep ?_ | refine DrawN.calm (by decide +kernel) ?_ | refine Nd.mk (by decide +kernel) ?_ | refine Nd.mk (by omega) ?_ | (refine Nd.mk ?_ ?_; focus ((repeat' (first | exact trivial | exact wkE_refl _ | refine And.intro ?_ ?_)); done)) | refine RdN.intro _ rfl (by rfl) ?_); (conv => whnf))))
  refine LoopN.intro (List UInt8 × List UInt8 × List UInt8 × List UInt8 × List Part × Nat × Bool × BSt) (fun ⟨pre, rest, t, fp, out, from_, whole, o⟩ => RqOk s lines R pre rest t fp out from_ whole ∧ o.ok out.length) (fun _ => mkS Tryd.f20.ntmps 0 [(0, .c (.v (.string (bs s)))), (1, .c (.v (.bool lines))), (7, .c (.lp 1 0))])
    (fun ⟨pre, _, t, _, out, from_, whole, o⟩ => .fact MaxF :: QH ⟨s, pre.length, t, from_, whole, out⟩ o) (fun ⟨_, rest, _⟩ => rest.length) [.app 0 0 [] none 0 0] rfl
    (fun _ => rfl) (fun _ => rfl) (fun _ _ => okHB_eq rfl) ⟨([], s, [], [], [], 0, false, ⟨none, 0⟩), ⟨⟨rfl, hR, fun h => absurd rfl h, Nat.zero_le _, by simp, by simp⟩, ⟨fun _ => ⟨rfl, rfl⟩, Nat.le_refl _, fun _ => rfl⟩⟩, ?_, ?_⟩ ?_
  · (repeat' (first | exact trivial | refine And.intro (by with_reducible rfl) ?_ | (with_reducible exact wkC_refl _) | (with_reducible exact wkCs_refl _) | refine And.intro ?_ ?_))
    all_goals rfl
  · exact ⟨wkE_refl _, wkH_cons rfl ⟨wkE_nil, wkH_nil _⟩⟩
  rintro ⟨pre, rest, t, fp, out, from_, whole, o⟩ ⟨hi, ok⟩
  have hlen := congrArg List.length hi.sp
  rw [List.length_append] at hlen
  have hol := hi.ol
  have htl := hi.tl
  cases rest with
  | nil =>
    have hR2 : R = .ok (outC out t (ln (s.take from_))) := by rw [← hi.eq, rdN_nil, hi.close t id]
    subst hR2
    have hw : (pre.length : Int) < (s.length : Int) → False := by simp at hlen; omega
    ((conv => whnf); (repeat ((first | refine VrN.norm (wrap_i64 (by omega)) ?_ | refine VrN.keep ?_ | refine DrawN.calm (by decide +kernel) ?_ | refine Nd.mk (by decide +kernel) ?_ | refine Nd.mk (by omega) ?_ | (refine Nd.mk ?_ ?_; focus ((repeat' (first | exact trivial | exact wkE_refl _ | refine And.intro ?_ ?_)); done)) | refine RdN.intro _ rfl (by rfl) ?_); (conv => whnf))))
    rw [bs_size]
    refine brd_dec (fun h => (hw h).elim) (fun _ => ?_)
    ((conv => whnf); (repeat ((first | refine VrN.norm (wrap_i64 (by omega)) ?_ | refine VrN.keep ?_ | refine DrawN.calm (by decide +kernel) ?_ | refine Nd.mk (by decide +kernel) ?_ | refine Nd.mk (by omega) ?_ | (refine Nd.mk ?_ ?_; focus ((repeat' (first | exact trivial | exact wkE_refl _ | refine And.intro ?_ ?_)); done)) | refine RdN.intro _ rfl (by rfl) ?_); (conv => whnf))))
    refine callG (close_c s pre.length t from_ whole out o ok hi.fl (by omega) (by omega)) [1, 2] rfl ⟨rfl, rfl, trivial⟩ rfl fun o1 ok1 => ?_
    ((conv => whnf); (repeat ((first | refine VrN.norm (wrap_i64 (by omega)) ?_ | refine VrN.keep ?_ | refine DrawN.calm (by decide +kernel) ?_ | refine Nd.mk (by decide +kernel) ?_ | refine Nd.mk (by omega) ?_ | (refine Nd.mk ?_ ?_; focus ((repeat' (first | exact trivial | exact wkE_refl _ | refine And.intro ?_ ?_)); done)) | refine RdN.intro _ rfl (by rfl) ?_); (conv => whnf))))
    refine fin_p (fun w => SlAt (at0 o1.ob) ((outC out t (ln (s.take from_))).length * 3) (partsC (outC out t (ln (s.take from_)))) w) ⟨o1.ob, o1.cap, rfl, fun h => ?_, fun _ h => h⟩ (fun w hw => hw.2.1)
    exact List.eq_nil_of_length_eq_zero (ok1.1 h).1
  | cons c r =>
    have heq := hi.eq
    simp only [List.length_cons] at hlen
    rw [rdN_cons] at heq
    have htk : s.take pre.length = pre := by rw [← hi.sp]; exact List.take_left
    have next : ∀ (x q b : List UInt8), pre ++ x ++ q = s → rdN lines (pre ++ x) q (t ++ b) (fpOf t fp pre) out = R → b.length ≤ x.length → RqOk s lines R (pre ++ x) q (t ++ b) (fpOf t fp pre) out (fromQ t pre.length from_) (wholeQ t (bol pre) whole) := fun x q b h1 h2 h3 => by
      refine ⟨h1, h2, fun _ => ?_, ?_, by simp; omega, by simp; omega⟩
      · cases t with
        | nil => exact ⟨htk.symm, rfl⟩
        | cons y t => exact hi.bg (by simp)
      · unfold fromQ; split
        · omega
        · exact hi.fl
    ((conv => whnf); (repeat ((first | refine VrN.norm (wrap_i64 (by omega)) ?_ | refine VrN.keep ?_ | refine DrawN.calm (by decide +kernel) ?_ | refine Nd.mk (by decide +kernel) ?_ | refine Nd.mk (by omega) ?_ | (refine Nd.mk ?_ ?_; focus ((repeat' (first | exact trivial | exact wkE_refl _ | refine And.intro ?_ ?_)); done)) | refine RdN.intro _ rfl (by rfl) ?_); (conv => whnf))))
    rw [bs_size]
    refine brd_dec (fun _ => ?_) (fun h => absurd (show (pre.length : Int) < (s.length : Int) by omega) h)
    ((conv => whnf); (repeat ((first | refine VrN.norm (wrap_i64 (by omega)) ?_ | refine VrN.keep ?_ | refine DrawN.calm (by decide +kernel) ?_ | refine Nd.mk (by decide +kernel) ?_ | refine Nd.mk (by omega) ?_ | (refine Nd.mk ?_ ?_; focus ((repeat' (first | exact trivial | exact wkE_refl _ | refine And.intro ?_ ?_)); done)) | refine RdN.intro _ rfl (by rfl) ?_); (conv => whnf))))
    refine ReadW.sl_at pre (c :: r) hi.sp.symm rfl (by kernel_rfl) rfl rfl rfl ?_
    ((conv => whnf); (repeat ((first | refine VrN.norm (wrap_i64 (by omega)) ?_ | refine VrN.keep ?_ | refine DrawN.calm (by decide +kernel) ?_ | refine Nd.mk (by decide +kernel) ?_ | refine Nd.mk (by omega) ?_ | (refine Nd.mk ?_ ?_; focus ((repeat' (first | exact trivial | exact wkE_refl _ | refine And.intro ?_ ?_)); done)) | refine RdN.intro _ rfl (by rfl) ?_); (conv => whnf))))
    refine brd_intro (fun hl => ?_) (fun hl => ?_)
    · have hl : lines = true := hl
      ((conv => whnf); (repeat ((first | refine VrN.norm (wrap_i64 (by omega)) ?_ | refine VrN.keep ?_ | refine DrawN.calm (by decide +kernel) ?_ | refine Nd.mk (by decide +kernel) ?_ | refine Nd.mk (by omega) ?_ | (refine Nd.mk ?_ ?_; focus ((repeat' (first | exact trivial | exact wkE_refl _ | refine And.intro ?_ ?_)); done)) | refine RdN.intro _ rfl (by rfl) ?_); (conv => whnf))))
      refine callG (begins_c s pre.length t from_ whole out o ok (by omega) (by omega)) [1, 2] rfl ⟨rfl, rfl, trivial⟩ rfl fun o ok => ?_
      rw [htk]
      ((conv => whnf); (repeat ((first | refine VrN.norm (wrap_i64 (by omega)) ?_ | refine VrN.keep ?_ | refine DrawN.calm (by decide +kernel) ?_ | refine Nd.mk (by decide +kernel) ?_ | refine Nd.mk (by omega) ?_ | (refine Nd.mk ?_ ?_; focus ((repeat' (first | exact trivial | exact wkE_refl _ | refine And.intro ?_ ?_)); done)) | refine RdN.intro _ rfl (by rfl) ?_); (conv => whnf))))
      refine brd_intro (fun hb => ?_) (fun hb => ?_)
      · (((conv => whnf); (repeat ((first | refine VrN.norm (wrap_i64 (by omega)) ?_ | refine VrN.keep ?_ | refine DrawN.calm (by decide +kernel) ?_ | refine Nd.mk (by decide +kernel) ?_ | refine Nd.mk (by omega) ?_ | (refine Nd.mk ?_ ?_; focus ((repeat' (first | exact trivial | exact wkE_refl _ | refine And.intro ?_ ?_)); done)) | refine RdN.intro _ rfl (by rfl) ?_); (conv => whnf)))); first | refine call1 (HasPrefix_c (c :: r) [37, 37] _) ?_ | refine callQ (HasPrefix_c (c :: r) [37, 37] _) ?_)
        ((conv => whnf); (repeat ((first | refine VrN.norm (wrap_i64 (by omega)) ?_ | refine VrN.keep ?_ | refine DrawN.calm (by decide +kernel) ?_ | refine Nd.mk (by decide +kernel) ?_ | refine Nd.mk (by omega) ?_ | (refine Nd.mk ?_ ?_; focus ((repeat' (first | exact trivial | exact wkE_refl _ | refine And.intro ?_ ?_)); done)) | refine RdN.intro _ rfl (by rfl) ?_); (conv => whnf))))
        refine brd_intro (fun hp => ?_) (fun hp => ?_)
        · rw [if_pos (by rw [hl, hb, hp]; rfl)] at heq
          obtain ⟨q, hq⟩ := pfx_split hp
          have htk2 : (c :: r).take 2 = [37, 37] := pfx_take hp
          have hdr2 : (c :: r).drop 2 = q := by rw [hq]; rfl
          rw [htk2, hdr2] at heq
          have hq2 := congrArg List.length hq
          simp only [List.length_append, List.length_cons, List.length_nil] at hq2
          ((conv => whnf); (repeat ((first | refine VrN.norm (wrap_i64 (by omega)) ?_ | refine VrN.keep ?_ | refine DrawN.calm (by decide +kernel) ?_ | refine Nd.mk (by decide +kernel) ?_ | refine Nd.mk (by omega) ?_ | (refine Nd.mk ?_ ?_; focus ((repeat' (first | exact trivial | exact wkE_refl _ | refine And.intro ?_ ?_)); done)) | refine RdN.intro _ rfl (by rfl) ?_); (conv => whnf))))
          refine callG (put_c s pre.length t from_ whole out o [37] ok (by omega) (by omega) (by omega) (by simp)) [1, 2] rfl ⟨rfl, rfl, trivial⟩ rfl fun o2 ok2 => ?_
          rw [htk]
          ((conv => whnf); (repeat ((first | refine VrN.norm (wrap_i64 (by omega)) ?_ | refine VrN.keep ?_ | refine DrawN.calm (by decide +kernel) ?_ | refine Nd.mk (by decide +kernel) ?_ | refine Nd.mk (by omega) ?_ | (refine Nd.mk ?_ ?_; focus ((repeat' (first | exact trivial | exact wkE_refl _ | refine And.intro ?_ ?_)); done)) | refine RdN.intro _ rfl (by rfl) ?_); (conv => whnf))))
          refine ⟨(pre ++ [37, 37], q, t ++ [37], fpOf t fp pre, out, fromQ t pre.length from_, wholeQ t (bol pre) whole, o2), ⟨next [37, 37] q [37] (by rw [← hi.sp, hq]; simp) heq (by simp), ok2⟩, by show q.length < (c :: r).length; rw [hq]; simp; omega, ?_, ?_⟩
          · (repeat' (first | exact trivial | refine And.intro (by with_reducible rfl) ?_ | (with_reducible exact wkC_refl _) | (with_reducible exact wkCs_refl _) | refine And.intro ?_ ?_))
            all_goals rfl
          · refine ⟨wkE_refl _, wkH_cons ?_ (wkH_cons rfl (wkH_nil _))⟩
            simp only [rnCs, rnC]
            rw [show IntKind.wrap .i64 ((pre.length : Int) + 2) = ((pre ++ [37, 37]).length : Int) by rw [wrap_i64 (by omega)]; simp]
        rw [if_neg (by simp [hp])] at heq
        ((conv => whnf); (repeat ((first | refine VrN.norm (wrap_i64 (by omega)) ?_ | refine VrN.keep ?_ | refine DrawN.calm (by decide +kernel) ?_ | refine Nd.mk (by decide +kernel) ?_ | refine Nd.mk (by omega) ?_ | (refine Nd.mk ?_ ?_; focus ((repeat' (first | exact trivial | exact wkE_refl _ | refine And.intro ?_ ?_)); done)) | refine RdN.intro _ rfl (by rfl) ?_); (conv => whnf))))
        refine brdT hb ?_
        (((conv => whnf); (repeat ((first | refine VrN.norm (wrap_i64 (by omega)) ?_ | refine VrN.keep ?_ | refine DrawN.calm (by decide +kernel) ?_ | refine Nd.mk (by decide +kernel) ?_ | refine Nd.mk (by omega) ?_ | (refine Nd.mk ?_ ?_; focus ((repeat' (first | exact trivial | exact wkE_refl _ | refine And.intro ?_ ?_)); done)) | refine RdN.intro _ rfl (by rfl) ?_); (conv => whnf)))); first | refine call1 (HasPrefix_c (c :: r) [37] _) ?_ | refine callQ (HasPrefix_c (c :: r) [37] _) ?_)
        ((conv => whnf); (repeat ((first | refine VrN.norm (wrap_i64 (by omega)) ?_ | refine VrN.keep ?_ | refine DrawN.calm (by decide +kernel) ?_ | refine Nd.mk (by decide +kernel) ?_ | refine Nd.mk (by omega) ?_ | (refine Nd.mk ?_ ?_; focus ((repeat' (first | exact trivial | exact wkE_refl _ | refine And.intro ?_ ?_)); done)) | refine RdN.intro _ rfl (by rfl) ?_); (conv => whnf))))
        refine brd_intro (fun hp1 => ?_) (fun hp1 => ?_)
        · have hc : c = 37 := by simp [List.isPrefixOf] at hp1; exact hp1.symm
          rw [if_pos (by rw [hl, hb, hc]; rfl), hi.close t id] at heq
          have hsp := hi.sp
          subst hsp
          have hTl : (r.takeWhile (· != 10)).length ≤ r.length := (List.takeWhile_prefix _).length_le
          have hol2 := outC_len out t (ln ((pre ++ c :: r).take from_))
          ((conv => whnf); (repeat ((first | refine VrN.norm (wrap_i64 (by omega)) ?_ | refine VrN.keep ?_ | refine DrawN.calm (by decide +kernel) ?_ | refine Nd.mk (by decide +kernel) ?_ | refine Nd.mk (by omega) ?_ | (refine Nd.mk ?_ ?_; focus ((repeat' (first | exact trivial | exact wkE_refl _ | refine And.intro ?_ ?_)); done)) | refine RdN.intro _ rfl (by rfl) ?_); (conv => whnf))))
          refine callG (row_c pre c r t from_ whole out o ok hi.fl (by omega) (by omega)) [1, 2, 0] rfl ⟨rfl, rfl, rfl, trivial⟩ rfl fun o2 ok2 => ?_
          ((conv => whnf); (repeat ((first | refine VrN.norm (wrap_i64 (by omega)) ?_ | refine VrN.keep ?_ | refine DrawN.calm (by decide +kernel) ?_ | refine Nd.mk (by decide +kernel) ?_ | refine Nd.mk (by omega) ?_ | (refine Nd.mk ?_ ?_; focus ((repeat' (first | exact trivial | exact wkE_refl _ | refine And.intro ?_ ?_)); done)) | refine RdN.intro _ rfl (by rfl) ?_); (conv => whnf))))
          refine ⟨(_, _, [], fp, _, from_, whole, o2), ⟨⟨?_, heq, fun h => absurd rfl h, hi.fl, ?_, by simp⟩, ok2⟩, ?_, ?_, wkH_refl _⟩
          · rw [List.append_assoc, List.take_append_drop]
          · simp only [List.length_append, List.length_take, List.length_cons, List.length_nil]
            omega
          · show ((c :: r).drop (1 + (r.takeWhile (· != 10)).length + 1)).length < (c :: r).length
            simp
            omega
          · (repeat' (first | exact trivial | refine And.intro (by with_reducible rfl) ?_ | (with_reducible exact wkC_refl _) | (with_reducible exact wkCs_refl _) | refine And.intro ?_ ?_))
            all_goals rfl
        have hc : ¬ c = 37 := fun h => by subst h; simp [List.isPrefixOf] at hp1
        rw [if_neg (by simp [hc])] at heq
        (((conv => whnf); (repeat ((first | refine VrN.norm (wrap_i64 (by omega)) ?_ | refine VrN.keep ?_ | refine DrawN.calm (by decide +kernel) ?_ | refine Nd.mk (by decide +kernel) ?_ | refine Nd.mk (by omega) ?_ | (refine Nd.mk ?_ ?_; focus ((repeat' (first | exact trivial | exact wkE_refl _ | refine And.intro ?_ ?_)); done)) | refine RdN.intro _ rfl (by rfl) ?_); (conv => whnf)))); first | refine call1 (HasPrefix_c (c :: r) [60, 37, 37] _) ?_ | refine callQ (HasPrefix_c (c :: r) [60, 37, 37] _) ?_)
        ((conv => whnf); (repeat ((first | refine VrN.norm (wrap_i64 (by omega)) ?_ | refine VrN.keep ?_ | refine DrawN.calm (by decide +kernel) ?_ | refine Nd.mk (by decide +kernel) ?_ | refine Nd.mk (by omega) ?_ | (refine Nd.mk ?_ ?_; focus ((repeat' (first | exact trivial | exact wkE_refl _ | refine And.intro ?_ ?_)); done)) | refine RdN.intro _ rfl (by rfl) ?_); (conv => whnf))))
        refine brd_intro (fun h1 => ?_) (fun h1 => ?_)
        · rw [if_pos h1] at heq
          obtain ⟨q, hq⟩ := pfx_split h1
          have htk3 : (c :: r).take 3 = [60, 37, 37] := pfx_take h1
          have hdr3 : (c :: r).drop 3 = q := by rw [hq]; rfl
          rw [htk3, hdr3] at heq
          have hq2 := congrArg List.length hq
          simp only [List.length_append, List.length_cons, List.length_nil] at hq2
          ((conv => whnf); (repeat ((first | refine VrN.norm (wrap_i64 (by omega)) ?_ | refine VrN.keep ?_ | refine DrawN.calm (by decide +kernel) ?_ | refine Nd.mk (by decide +kernel) ?_ | refine Nd.mk (by omega) ?_ | (refine Nd.mk ?_ ?_; focus ((repeat' (first | exact trivial | exact wkE_refl _ | refine And.intro ?_ ?_)); done)) | refine RdN.intro _ rfl (by rfl) ?_); (conv => whnf))))
          refine callG (put_c s pre.length t from_ whole out o [60, 37] ok (by omega) (by omega) (by omega) (by simp)) [1, 2] rfl ⟨rfl, rfl, trivial⟩ rfl fun o2 ok2 => ?_
          rw [htk]
          ((conv => whnf); (repeat ((first | refine VrN.norm (wrap_i64 (by omega)) ?_ | refine VrN.keep ?_ | refine DrawN.calm (by decide +kernel) ?_ | refine Nd.mk (by decide +kernel) ?_ | refine Nd.mk (by omega) ?_ | (refine Nd.mk ?_ ?_; focus ((repeat' (first | exact trivial | exact wkE_refl _ | refine And.intro ?_ ?_)); done)) | refine RdN.intro _ rfl (by rfl) ?_); (conv => whnf))))
          refine ⟨(pre ++ [60, 37, 37], q, t ++ [60, 37], fpOf t fp pre, out, fromQ t pre.length from_, wholeQ t (bol pre) whole, o2), ⟨next [60, 37, 37] q [60, 37] (by rw [← hi.sp, hq]; simp) heq (by simp), ok2⟩, by show q.length < (c :: r).length; rw [hq]; simp; omega, ?_, ?_⟩
          · (repeat' (first | exact trivial | refine And.intro (by with_reducible rfl) ?_ | (with_reducible exact wkC_refl _) | (with_reducible exact wkCs_refl _) | refine And.intro ?_ ?_))
            all_goals rfl
          · refine ⟨wkE_refl _, wkH_cons ?_ (wkH_cons rfl (wkH_nil _))⟩
            simp only [rnCs, rnC]
            rw [show IntKind.wrap .i64 ((pre.length : Int) + 3) = ((pre ++ [60, 37, 37]).length : Int) by rw [wrap_i64 (by omega)]; simp]
        rw [if_neg (by simp [h1])] at heq
        (((conv => whnf); (repeat ((first | refine VrN.norm (wrap_i64 (by omega)) ?_ | refine VrN.keep ?_ | refine DrawN.calm (by decide +kernel) ?_ | refine Nd.mk (by decide +kernel) ?_ | refine Nd.mk (by omega) ?_ | (refine Nd.mk ?_ ?_; focus ((repeat' (first | exact trivial | exact wkE_refl _ | refine And.intro ?_ ?_)); done)) | refine RdN.intro _ rfl (by rfl) ?_); (conv => whnf)))); first | refine call1 (HasPrefix_c (c :: r) [60, 37] _) ?_ | refine callQ (HasPrefix_c (c :: r) [60, 37] _) ?_)
        ((conv => whnf); (repeat ((first | refine VrN.norm (wrap_i64 (by omega)) ?_ | refine VrN.keep ?_ | refine DrawN.calm (by decide +kernel) ?_ | refine Nd.mk (by decide +kernel) ?_ | refine Nd.mk (by omega) ?_ | (refine Nd.mk ?_ ?_; focus ((repeat' (first | exact trivial | exact wkE_refl _ | refine And.intro ?_ ?_)); done)) | refine RdN.intro _ rfl (by rfl) ?_); (conv => whnf))))
        refine brd_intro (fun h2 => ?_) (fun h2 => ?_)
        · rw [if_pos h2] at heq
          obtain ⟨q, hq⟩ := pfx_split h2
          have hq : c :: r = 60 :: 37 :: q := hq
          rw [hq] at heq hi ⊢
          have hsp := hi.sp
          subst hsp
          have hq2 := congrArg List.length hq
          simp only [List.length_cons] at hq2
          have hT := rtag_c pre q t from_ whole out o ok hi.fl (by omega) (by omega) (by omega)
          rw [hi.trim] at hT
          rw [show (60 :: 37 :: q).drop 2 = q from rfl, show (60 :: 37 :: q).drop (2 + (opn q).2.2) = q.drop (opn q).2.2 from by rw [Nat.add_comm]; rfl] at heq
          rw [hi.close _ (fun h => by split at h; exact trim_ne h; exact h)] at heq
          ((conv => whnf); (repeat ((first | refine VrN.norm (wrap_i64 (by omega)) ?_ | refine VrN.keep ?_ | refine DrawN.calm (by decide +kernel) ?_ | refine Nd.mk (by decide +kernel) ?_ | refine Nd.mk (by omega) ?_ | (refine Nd.mk ?_ ?_; focus ((repeat' (first | exact trivial | exact wkE_refl _ | refine And.intro ?_ ?_)); done)) | refine RdN.intro _ rfl (by rfl) ?_); (conv => whnf))))
          refine callG hT [1, 2] rfl ⟨rfl, rfl, trivial⟩ rfl fun i h => ?_
          obtain ⟨⟨s', at', t', from', whole', out'⟩, o'⟩ := i
          obtain ⟨ok', hs', ht', hf', hX⟩ := h
          have hs' : s' = pre ++ 60 :: 37 :: q := hs'
          have ht' : t' = [] := ht'
          subst hs'; subst ht'
          cases hXX : tgN (pre ++ (60 :: 37 :: q).take (2 + (opn q).2.2)) (q.drop (opn q).2.2) [] with
          | none =>
            rw [hXX] at heq hX
            have hat : at' = pre.length := hX
            subst hat
            subst heq
            (((conv => whnf); (repeat ((first | refine VrN.norm (wrap_i64 (by omega)) ?_ | refine VrN.keep ?_ | refine DrawN.calm (by decide +kernel) ?_ | refine Nd.mk (by decide +kernel) ?_ | refine Nd.mk (by omega) ?_ | (refine Nd.mk ?_ ?_; focus ((repeat' (first | exact trivial | exact wkE_refl _ | refine And.intro ?_ ?_)); done)) | refine RdN.intro _ rfl (by rfl) ?_); (conv => whnf)))); first | refine call1 (line_c (pre ++ 60 :: 37 :: q) pre.length (by simp) (by omega) _) ?_ | refine callQ (line_c (pre ++ 60 :: 37 :: q) pre.length (by simp) (by omega) _) ?_)
            rw [List.take_left]
            ((conv => whnf); (repeat ((first | refine VrN.norm (wrap_i64 (by omega)) ?_ | refine VrN.keep ?_ | refine DrawN.calm (by decide +kernel) ?_ | refine Nd.mk (by decide +kernel) ?_ | refine Nd.mk (by omega) ?_ | (refine Nd.mk ?_ ?_; focus ((repeat' (first | exact trivial | exact wkE_refl _ | refine And.intro ?_ ?_)); done)) | refine RdN.intro _ rfl (by rfl) ?_); (conv => whnf))))
            exact fin_p (fun w => MaxF w) ⟨none, 0, rfl, fun _ => rfl, fun _ _ => SlAt.nil⟩ (fun w hw => hw.1)
          | some x =>
            obtain ⟨p', r', code⟩ := x
            rw [hXX] at heq hX
            obtain ⟨hat, hout⟩ := hX
            have hat : at' = p'.length := hat
            have hout : out' = outC out (if (opn q).2.1 then trim t fp else t) (ln ((pre ++ 60 :: 37 :: q).take from_)) ++ [⟨(opn q).1, ln pre, code⟩] := hout
            subst hat; subst hout
            have hpr := tgN_len hXX
            have hlt := (tg_out _ _ _ _ _ _ _ hXX).1
            have hpl := congrArg List.length hpr
            simp only [List.length_append, List.length_take, List.length_drop, List.length_cons] at hpl hlt
            have hol2 := outC_len out (if (opn q).2.1 then trim t fp else t) (ln ((pre ++ 60 :: 37 :: q).take from_))
            have hop1 : (opn q).2.2 ≤ q.length := by
              unfold opn
              cases q with
              | nil => simp
              | cons y q =>
                simp only [List.head?_cons, List.length_cons]
                repeat' split
                all_goals (show _ ≤ _; simp only []; omega)
            ((conv => whnf); (repeat ((first | refine VrN.norm (wrap_i64 (by omega)) ?_ | refine VrN.keep ?_ | refine DrawN.calm (by decide +kernel) ?_ | refine Nd.mk (by decide +kernel) ?_ | refine Nd.mk (by omega) ?_ | (refine Nd.mk ?_ ?_; focus ((repeat' (first | exact trivial | exact wkE_refl _ | refine And.intro ?_ ?_)); done)) | refine RdN.intro _ rfl (by rfl) ?_); (conv => whnf))))
            refine ⟨(p', r', [], fp, _, from', whole', o'), ⟨⟨?_, heq, fun h => absurd rfl h, hf', ?_, by simp⟩, ok'⟩, ?_, ?_, wkH_refl _⟩
            · rw [hpr, List.append_assoc, show q.drop (opn q).2.2 = (60 :: 37 :: q).drop (2 + (opn q).2.2) from by rw [Nat.add_comm]; rfl, List.take_append_drop]
            · rw [List.length_append]
              simp only [List.length_cons, List.length_nil]
              omega
            · show r'.length < (60 :: 37 :: q).length
              simp
              omega
            · (repeat' (first | exact trivial | refine And.intro (by with_reducible rfl) ?_ | (with_reducible exact wkC_refl _) | (with_reducible exact wkCs_refl _) | refine And.intro ?_ ?_))
              all_goals rfl
        rw [if_neg (by simp [h2])] at heq
        ((conv => whnf); (repeat ((first | refine VrN.norm (wrap_i64 (by omega)) ?_ | refine VrN.keep ?_ | refine DrawN.calm (by decide +kernel) ?_ | refine Nd.mk (by decide +kernel) ?_ | refine Nd.mk (by omega) ?_ | (refine Nd.mk ?_ ?_; focus ((repeat' (first | exact trivial | exact wkE_refl _ | refine And.intro ?_ ?_)); done)) | refine RdN.intro _ rfl (by rfl) ?_); (conv => whnf))))
        refine ReadW.sl_h 1 rfl (by kernel_rfl) rfl rfl ⟨rfl, by simp⟩ ?_
        rw [show (c :: r).take 1 = [c] from rfl]
        ((conv => whnf); (repeat ((first | refine VrN.norm (wrap_i64 (by omega)) ?_ | refine VrN.keep ?_ | refine DrawN.calm (by decide +kernel) ?_ | refine Nd.mk (by decide +kernel) ?_ | refine Nd.mk (by omega) ?_ | (refine Nd.mk ?_ ?_; focus ((repeat' (first | exact trivial | exact wkE_refl _ | refine And.intro ?_ ?_)); done)) | refine RdN.intro _ rfl (by rfl) ?_); (conv => whnf))))
        refine callG (put_c s pre.length t from_ whole out o [c] ok (by omega) (by omega) (by omega) (by simp)) [1, 2] rfl ⟨rfl, rfl, trivial⟩ rfl fun o2 ok2 => ?_
        rw [htk]
        ((conv => whnf); (repeat ((first | refine VrN.norm (wrap_i64 (by omega)) ?_ | refine VrN.keep ?_ | refine DrawN.calm (by decide +kernel) ?_ | refine Nd.mk (by decide +kernel) ?_ | refine Nd.mk (by omega) ?_ | (refine Nd.mk ?_ ?_; focus ((repeat' (first | exact trivial | exact wkE_refl _ | refine And.intro ?_ ?_)); done)) | refine RdN.intro _ rfl (by rfl) ?_); (conv => whnf))))
        refine ⟨(pre ++ [c], r, t ++ [c], fpOf t fp pre, out, fromQ t pre.length from_, wholeQ t (bol pre) whole, o2), ⟨next [c] r [c] (by rw [← hi.sp]; simp) heq (by simp), ok2⟩, by show r.length < (c :: r).length; simp, ?_, ?_⟩
        · (repeat' (first | exact trivial | refine And.intro (by with_reducible rfl) ?_ | (with_reducible exact wkC_refl _) | (with_reducible exact wkCs_refl _) | refine And.intro ?_ ?_))
          all_goals rfl
        · refine ⟨wkE_refl _, wkH_cons ?_ (wkH_cons rfl (wkH_nil _))⟩
          simp only [rnCs, rnC]
          rw [show IntKind.wrap .i64 ((pre.length : Int) + 1) = ((pre ++ [c]).length : Int) by rw [wrap_i64 (by omega)]; simp]
      · have hb : bol pre = false := hb
        rw [if_neg (by simp [hb]), if_neg (by simp [hb])] at heq
        ((conv => whnf); (repeat ((first | refine VrN.norm (wrap_i64 (by omega)) ?_ | refine VrN.keep ?_ | refine DrawN.calm (by decide +kernel) ?_ | refine Nd.mk (by decide +kernel) ?_ | refine Nd.mk (by omega) ?_ | (refine Nd.mk ?_ ?_; focus ((repeat' (first | exact trivial | exact wkE_refl _ | refine And.intro ?_ ?_)); done)) | refine RdN.intro _ rfl (by rfl) ?_); (conv => whnf))))
        refine brdF hb ?_
        (((conv => whnf); (repeat ((first | refine VrN.norm (wrap_i64 (by omega)) ?_ | refine VrN.keep ?_ | refine DrawN.calm (by decide +kernel) ?_ | refine Nd.mk (by decide +kernel) ?_ | refine Nd.mk (by omega) ?_ | (refine Nd.mk ?_ ?_; focus ((repeat' (first | exact trivial | exact wkE_refl _ | refine And.intro ?_ ?_)); done)) | refine RdN.intro _ rfl (by rfl) ?_); (conv => whnf)))); first | refine call1 (HasPrefix_c (c :: r) [60, 37, 37] _) ?_ | refine callQ (HasPrefix_c (c :: r) [60, 37, 37] _) ?_)
        ((conv => whnf); (repeat ((first | refine VrN.norm (wrap_i64 (by omega)) ?_ | refine VrN.keep ?_ | refine DrawN.calm (by decide +kernel) ?_ | refine Nd.mk (by decide +kernel) ?_ | refine Nd.mk (by omega) ?_ | (refine Nd.mk ?_ ?_; focus ((repeat' (first | exact trivial | exact wkE_refl _ | refine And.intro ?_ ?_)); done)) | refine RdN.intro _ rfl (by rfl) ?_); (conv => whnf))))
        refine brd_intro (fun h1 => ?_) (fun h1 => ?_)
        · rw [if_pos h1] at heq
          obtain ⟨q, hq⟩ := pfx_split h1
          have htk3 : (c :: r).take 3 = [60, 37, 37] := pfx_take h1
          have hdr3 : (c :: r).drop 3 = q := by rw [hq]; rfl
          rw [htk3, hdr3] at heq
          have hq2 := congrArg List.length hq
          simp only [List.length_append, List.length_cons, List.length_nil] at hq2
          ((conv => whnf); (repeat ((first | refine VrN.norm (wrap_i64 (by omega)) ?_ | refine VrN.keep ?_ | refine DrawN.calm (by decide +kernel) ?_ | refine Nd.mk (by decide +kernel) ?_ | refine Nd.mk (by omega) ?_ | (refine Nd.mk ?_ ?_; focus ((repeat' (first | exact trivial | exact wkE_refl _ | refine And.intro ?_ ?_)); done)) | refine RdN.intro _ rfl (by rfl) ?_); (conv => whnf))))
          refine callG (put_c s pre.length t from_ whole out o [60, 37] ok (by omega) (by omega) (by omega) (by simp)) [1, 2] rfl ⟨rfl, rfl, trivial⟩ rfl fun o2 ok2 => ?_
          rw [htk]
          ((conv => whnf); (repeat ((first | refine VrN.norm (wrap_i64 (by omega)) ?_ | refine VrN.keep ?_ | refine DrawN.calm (by decide +kernel) ?_ | refine Nd.mk (by decide +kernel) ?_ | refine Nd.mk (by omega) ?_ | (refine Nd.mk ?_ ?_; focus ((repeat' (first | exact trivial | exact wkE_refl _ | refine And.intro ?_ ?_)); done)) | refine RdN.intro _ rfl (by rfl) ?_); (conv => whnf))))
          refine ⟨(pre ++ [60, 37, 37], q, t ++ [60, 37], fpOf t fp pre, out, fromQ t pre.length from_, wholeQ t (bol pre) whole, o2), ⟨next [60, 37, 37] q [60, 37] (by rw [← hi.sp, hq]; simp) heq (by simp), ok2⟩, by show q.length < (c :: r).length; rw [hq]; simp; omega, ?_, ?_⟩
          · (repeat' (first | exact trivial | refine And.intro (by with_reducible rfl) ?_ | (with_reducible exact wkC_refl _) | (with_reducible exact wkCs_refl _) | refine And.intro ?_ ?_))
            all_goals rfl
          · refine ⟨wkE_refl _, wkH_cons ?_ (wkH_cons rfl (wkH_nil _))⟩
            simp only [rnCs, rnC]
            rw [show IntKind.wrap .i64 ((pre.length : Int) + 3) = ((pre ++ [60, 37, 37]).length : Int) by rw [wrap_i64 (by omega)]; simp]
        rw [if_neg (by simp [h1])] at heq
        (((conv => whnf); (repeat ((first | refine VrN.norm (wrap_i64 (by omega)) ?_ | refine VrN.keep ?_ | refine DrawN.calm (by decide +kernel) ?_ | refine Nd.mk (by decide +kernel) ?_ | refine Nd.mk (by omega) ?_ | (refine Nd.mk ?_ ?_; focus ((repeat' (first | exact trivial | exact wkE_refl _ | refine And.intro ?_ ?_)); done)) | refine RdN.intro _ rfl (by rfl) ?_); (conv => whnf)))); first | refine call1 (HasPrefix_c (c :: r) [60, 37] _) ?_ | refine callQ (HasPrefix_c (c :: r) [60, 37] _) ?_)
        ((conv => whnf); (repeat ((first | refine VrN.norm (wrap_i64 (by omega)) ?_ | refine VrN.keep ?_ | refine DrawN.calm (by decide +kernel) ?_ | refine Nd.mk (by decide +kernel) ?_ | refine Nd.mk (by omega) ?_ | (refine Nd.mk ?_ ?_; focus ((repeat' (first | exact trivial | exact wkE_refl _ | refine And.intro ?_ ?_)); done)) | refine RdN.intro _ rfl (by rfl) ?_); (conv => whnf))))
        refine brd_intro (fun h2 => ?_) (fun h2 => ?_)
        · rw [if_pos h2] at heq
          obtain ⟨q, hq⟩ := pfx_split h2
          have hq : c :: r = 60 :: 37 :: q := hq
          rw [hq] at heq hi ⊢
          have hsp := hi.sp
          subst hsp
          have hq2 := congrArg List.length hq
          simp only [List.length_cons] at hq2
          have hT := rtag_c pre q t from_ whole out o ok hi.fl (by omega) (by omega) (by omega)
          rw [hi.trim] at hT
          rw [show (60 :: 37 :: q).drop 2 = q from rfl, show (60 :: 37 :: q).drop (2 + (opn q).2.2) = q.drop (opn q).2.2 from by rw [Nat.add_comm]; rfl] at heq
          rw [hi.close _ (fun h => by split at h; exact trim_ne h; exact h)] at heq
          ((conv => whnf); (repeat ((first | refine VrN.norm (wrap_i64 (by omega)) ?_ | refine VrN.keep ?_ | refine DrawN.calm (by decide +kernel) ?_ | refine Nd.mk (by decide +kernel) ?_ | refine Nd.mk (by omega) ?_ | (refine Nd.mk ?_ ?_; focus ((repeat' (first | exact trivial | exact wkE_refl _ | refine And.intro ?_ ?_)); done)) | refine RdN.intro _ rfl (by rfl) ?_); (conv => whnf))))
          refine callG hT [1, 2] rfl ⟨rfl, rfl, trivial⟩ rfl fun i h => ?_
          obtain ⟨⟨s', at', t', from', whole', out'⟩, o'⟩ := i
          obtain ⟨ok', hs', ht', hf', hX⟩ := h
          have hs' : s' = pre ++ 60 :: 37 :: q := hs'
          have ht' : t' = [] := ht'
          subst hs'; subst ht'
          cases hXX : tgN (pre ++ (60 :: 37 :: q).take (2 + (opn q).2.2)) (q.drop (opn q).2.2) [] with
          | none =>
            rw [hXX] at heq hX
            have hat : at' = pre.length := hX
            subst hat
            subst heq
            (((conv => whnf); (repeat ((first | refine VrN.norm (wrap_i64 (by omega)) ?_ | refine VrN.keep ?_ | refine DrawN.calm (by decide +kernel) ?_ | refine Nd.mk (by decide +kernel) ?_ | refine Nd.mk (by omega) ?_ | (refine Nd.mk ?_ ?_; focus ((repeat' (first | exact trivial | exact wkE_refl _ | refine And.intro ?_ ?_)); done)) | refine RdN.intro _ rfl (by rfl) ?_); (conv => whnf)))); first | refine call1 (line_c (pre ++ 60 :: 37 :: q) pre.length (by simp) (by omega) _) ?_ | refine callQ (line_c (pre ++ 60 :: 37 :: q) pre.length (by simp) (by omega) _) ?_)
            rw [List.take_left]
            ((conv => whnf); (repeat ((first | refine VrN.norm (wrap_i64 (by omega)) ?_ | refine VrN.keep ?_ | refine DrawN.calm (by decide +kernel) ?_ | refine Nd.mk (by decide +kernel) ?_ | refine Nd.mk (by omega) ?_ | (refine Nd.mk ?_ ?_; focus ((repeat' (first | exact trivial | exact wkE_refl _ | refine And.intro ?_ ?_)); done)) | refine RdN.intro _ rfl (by rfl) ?_); (conv => whnf))))
            exact fin_p (fun w => MaxF w) ⟨none, 0, rfl, fun _ => rfl, fun _ _ => SlAt.nil⟩ (fun w hw => hw.1)
          | some x =>
            obtain ⟨p', r', code⟩ := x
            rw [hXX] at heq hX
            obtain ⟨hat, hout⟩ := hX
            have hat : at' = p'.length := hat
            have hout : out' = outC out (if (opn q).2.1 then trim t fp else t) (ln ((pre ++ 60 :: 37 :: q).take from_)) ++ [⟨(opn q).1, ln pre, code⟩] := hout
            subst hat; subst hout
            have hpr := tgN_len hXX
            have hlt := (tg_out _ _ _ _ _ _ _ hXX).1
            have hpl := congrArg List.length hpr
            simp only [List.length_append, List.length_take, List.length_drop, List.length_cons] at hpl hlt
            have hol2 := outC_len out (if (opn q).2.1 then trim t fp else t) (ln ((pre ++ 60 :: 37 :: q).take from_))
            have hop1 : (opn q).2.2 ≤ q.length := by
              unfold opn
              cases q with
              | nil => simp
              | cons y q =>
                simp only [List.head?_cons, List.length_cons]
                repeat' split
                all_goals (show _ ≤ _; simp only []; omega)
            ((conv => whnf); (repeat ((first | refine VrN.norm (wrap_i64 (by omega)) ?_ | refine VrN.keep ?_ | refine DrawN.calm (by decide +kernel) ?_ | refine Nd.mk (by decide +kernel) ?_ | refine Nd.mk (by omega) ?_ | (refine Nd.mk ?_ ?_; focus ((repeat' (first | exact trivial | exact wkE_refl _ | refine And.intro ?_ ?_)); done)) | refine RdN.intro _ rfl (by rfl) ?_); (conv => whnf))))
            refine ⟨(p', r', [], fp, _, from', whole', o'), ⟨⟨?_, heq, fun h => absurd rfl h, hf', ?_, by simp⟩, ok'⟩, ?_, ?_, wkH_refl _⟩
            · rw [hpr, List.append_assoc, show q.drop (opn q).2.2 = (60 :: 37 :: q).drop (2 + (opn q).2.2) from by rw [Nat.add_comm]; rfl, List.take_append_drop]
            · rw [List.length_append]
              simp only [List.length_cons, List.length_nil]
              omega
            · show r'.length < (60 :: 37 :: q).length
              simp
              omega
            · (repeat' (first | exact trivial | refine And.intro (by with_reducible rfl) ?_ | (with_reducible exact wkC_refl _) | (with_reducible exact wkCs_refl _) | refine And.intro ?_ ?_))
              all_goals rfl
        rw [if_neg (by simp [h2])] at heq
        ((conv => whnf); (repeat ((first | refine VrN.norm (wrap_i64 (by omega)) ?_ | refine VrN.keep ?_ | refine DrawN.calm (by decide +kernel) ?_ | refine Nd.mk (by decide +kernel) ?_ | refine Nd.mk (by omega) ?_ | (refine Nd.mk ?_ ?_; focus ((repeat' (first | exact trivial | exact wkE_refl _ | refine And.intro ?_ ?_)); done)) | refine RdN.intro _ rfl (by rfl) ?_); (conv => whnf))))
        refine ReadW.sl_h 1 rfl (by kernel_rfl) rfl rfl ⟨rfl, by simp⟩ ?_
        rw [show (c :: r).take 1 = [c] from rfl]
        ((conv => whnf); (repeat ((first | refine VrN.norm (wrap_i64 (by omega)) ?_ | refine VrN.keep ?_ | refine DrawN.calm (by decide +kernel) ?_ | refine Nd.mk (by decide +kernel) ?_ | refine Nd.mk (by omega) ?_ | (refine Nd.mk ?_ ?_; focus ((repeat' (first | exact trivial | exact wkE_refl _ | refine And.intro ?_ ?_)); done)) | refine RdN.intro _ rfl (by rfl) ?_); (conv => whnf))))
        refine callG (put_c s pre.length t from_ whole out o [c] ok (by omega) (by omega) (by omega) (by simp)) [1, 2] rfl ⟨rfl, rfl, trivial⟩ rfl fun o2 ok2 => ?_
        rw [htk]
        ((conv => whnf); (repeat ((first | refine VrN.norm (wrap_i64 (by omega)) ?_ | refine VrN.keep ?_ | refine DrawN.calm (by decide +kernel) ?_ | refine Nd.mk (by decide +kernel) ?_ | refine Nd.mk (by omega) ?_ | (refine Nd.mk ?_ ?_; focus ((repeat' (first | exact trivial | exact wkE_refl _ | refine And.intro ?_ ?_)); done)) | refine RdN.intro _ rfl (by rfl) ?_); (conv => whnf))))
        refine ⟨(pre ++ [c], r, t ++ [c], fpOf t fp pre, out, fromQ t pre.length from_, wholeQ t (bol pre) whole, o2), ⟨next [c] r [c] (by rw [← hi.sp]; simp) heq (by simp), ok2⟩, by show r.length < (c :: r).length; simp, ?_, ?_⟩
        · (repeat' (first | exact trivial | refine And.intro (by with_reducible rfl) ?_ | (with_reducible exact wkC_refl _) | (with_reducible exact wkCs_refl _) | refine And.intro ?_ ?_))
          all_goals rfl
        · refine ⟨wkE_refl _, wkH_cons ?_ (wkH_cons rfl (wkH_nil _))⟩
          simp only [rnCs, rnC]
          rw [show IntKind.wrap .i64 ((pre.length : Int) + 1) = ((pre ++ [c]).length : Int) by rw [wrap_i64 (by omega)]; simp]
    · have hl : lines = false := hl
      rw [if_neg (by simp [hl]), if_neg (by simp [hl])] at heq
      (((conv => whnf); (repeat ((first | refine VrN.norm (wrap_i64 (by omega)) ?_ | refine VrN.keep ?_ | refine DrawN.calm (by decide +kernel) ?_ | refine Nd.mk (by decide +kernel) ?_ | refine Nd.mk (by omega) ?_ | (refine Nd.mk ?_ ?_; focus ((repeat' (first | exact trivial | exact wkE_refl _ | refine And.intro ?_ ?_)); done)) | refine RdN.intro _ rfl (by rfl) ?_); (conv => whnf)))); first | refine call1 (HasPrefix_c (c :: r) [60, 37, 37] _) ?_ | refine callQ (HasPrefix_c (c :: r) [60, 37, 37] _) ?_)
      ((conv => whnf); (repeat ((first | refine VrN.norm (wrap_i64 (by omega)) ?_ | refine VrN.keep ?_ | refine DrawN.calm (by decide +kernel) ?_ | refine Nd.mk (by decide +kernel) ?_ | refine Nd.mk (by omega) ?_ | (refine Nd.mk ?_ ?_; focus ((repeat' (first | exact trivial | exact wkE_refl _ | refine And.intro ?_ ?_)); done)) | refine RdN.intro _ rfl (by rfl) ?_); (conv => whnf))))
      refine brd_intro (fun h1 => ?_) (fun h1 => ?_)
      · rw [if_pos h1] at heq
        obtain ⟨q, hq⟩ := pfx_split h1
        have htk3 : (c :: r).take 3 = [60, 37, 37] := pfx_take h1
        have hdr3 : (c :: r).drop 3 = q := by rw [hq]; rfl
        rw [htk3, hdr3] at heq
        have hq2 := congrArg List.length hq
        simp only [List.length_append, List.length_cons, List.length_nil] at hq2
        ((conv => whnf); (repeat ((first | refine VrN.norm (wrap_i64 (by omega)) ?_ | refine VrN.keep ?_ | refine DrawN.calm (by decide +kernel) ?_ | refine Nd.mk (by decide +kernel) ?_ | refine Nd.mk (by omega) ?_ | (refine Nd.mk ?_ ?_; focus ((repeat' (first | exact trivial | exact wkE_refl _ | refine And.intro ?_ ?_)); done)) | refine RdN.intro _ rfl (by rfl) ?_); (conv => whnf))))
        refine callG (put_c s pre.length t from_ whole out o [60, 37] ok (by omega) (by omega) (by omega) (by simp)) [1, 2] rfl ⟨rfl, rfl, trivial⟩ rfl fun o2 ok2 => ?_
        rw [htk]
        ((conv => whnf); (repeat ((first | refine VrN.norm (wrap_i64 (by omega)) ?_ | refine VrN.keep ?_ | refine DrawN.calm (by decide +kernel) ?_ | refine Nd.mk (by decide +kernel) ?_ | refine Nd.mk (by omega) ?_ | (refine Nd.mk ?_ ?_; focus ((repeat' (first | exact trivial | exact wkE_refl _ | refine And.intro ?_ ?_)); done)) | refine RdN.intro _ rfl (by rfl) ?_); (conv => whnf))))
        refine ⟨(pre ++ [60, 37, 37], q, t ++ [60, 37], fpOf t fp pre, out, fromQ t pre.length from_, wholeQ t (bol pre) whole, o2), ⟨next [60, 37, 37] q [60, 37] (by rw [← hi.sp, hq]; simp) heq (by simp), ok2⟩, by show q.length < (c :: r).length; rw [hq]; simp; omega, ?_, ?_⟩
        · (repeat' (first | exact trivial | refine And.intro (by with_reducible rfl) ?_ | (with_reducible exact wkC_refl _) | (with_reducible exact wkCs_refl _) | refine And.intro ?_ ?_))
          all_goals rfl
        · refine ⟨wkE_refl _, wkH_cons ?_ (wkH_cons rfl (wkH_nil _))⟩
          simp only [rnCs, rnC]
          rw [show IntKind.wrap .i64 ((pre.length : Int) + 3) = ((pre ++ [60, 37, 37]).length : Int) by rw [wrap_i64 (by omega)]; simp]
      rw [if_neg (by simp [h1])] at heq
      (((conv => whnf); (repeat ((first | refine VrN.norm (wrap_i64 (by omega)) ?_ | refine VrN.keep ?_ | refine DrawN.calm (by decide +kernel) ?_ | refine Nd.mk (by decide +kernel) ?_ | refine Nd.mk (by omega) ?_ | (refine Nd.mk ?_ ?_; focus ((repeat' (first | exact trivial | exact wkE_refl _ | refine And.intro ?_ ?_)); done)) | refine RdN.intro _ rfl (by rfl) ?_); (conv => whnf)))); first | refine call1 (HasPrefix_c (c :: r) [60, 37] _) ?_ | refine callQ (HasPrefix_c (c :: r) [60, 37] _) ?_)
      ((conv => whnf); (repeat ((first | refine VrN.norm (wrap_i64 (by omega)) ?_ | refine VrN.keep ?_ | refine DrawN.calm (by decide +kernel) ?_ | refine Nd.mk (by decide +kernel) ?_ | refine Nd.mk (by omega) ?_ | (refine Nd.mk ?_ ?_; focus ((repeat' (first | exact trivial | exact wkE_refl _ | refine And.intro ?_ ?_)); done)) | refine RdN.intro _ rfl (by rfl) ?_); (conv => whnf))))
      refine brd_intro (fun h2 => ?_) (fun h2 => ?_)
      · rw [if_pos h2] at heq
        obtain ⟨q, hq⟩ := pfx_split h2
        have hq : c :: r = 60 :: 37 :: q := hq
        rw [hq] at heq hi ⊢
        have hsp := hi.sp
        subst hsp
        have hq2 := congrArg List.length hq
        simp only [List.length_cons] at hq2
        have hT := rtag_c pre q t from_ whole out o ok hi.fl (by omega) (by omega) (by omega)
        rw [hi.trim] at hT
        rw [show (60 :: 37 :: q).drop 2 = q from rfl, show (60 :: 37 :: q).drop (2 + (opn q).2.2) = q.drop (opn q).2.2 from by rw [Nat.add_comm]; rfl] at heq
        rw [hi.close _ (fun h => by split at h; exact trim_ne h; exact h)] at heq
        ((conv => whnf); (repeat ((first | refine VrN.norm (wrap_i64 (by omega)) ?_ | refine VrN.keep ?_ | refine DrawN.calm (by decide +kernel) ?_ | refine Nd.mk (by decide +kernel) ?_ | refine Nd.mk (by omega) ?_ | (refine Nd.mk ?_ ?_; focus ((repeat' (first | exact trivial | exact wkE_refl _ | refine And.intro ?_ ?_)); done)) | refine RdN.intro _ rfl (by rfl) ?_); (conv => whnf))))
        refine callG hT [1, 2] rfl ⟨rfl, rfl, trivial⟩ rfl fun i h => ?_
        obtain ⟨⟨s', at', t', from', whole', out'⟩, o'⟩ := i
        obtain ⟨ok', hs', ht', hf', hX⟩ := h
        have hs' : s' = pre ++ 60 :: 37 :: q := hs'
        have ht' : t' = [] := ht'
        subst hs'; subst ht'
        cases hXX : tgN (pre ++ (60 :: 37 :: q).take (2 + (opn q).2.2)) (q.drop (opn q).2.2) [] with
        | none =>
          rw [hXX] at heq hX
          have hat : at' = pre.length := hX
          subst hat
          subst heq
          (((conv => whnf); (repeat ((first | refine VrN.norm (wrap_i64 (by omega)) ?_ | refine VrN.keep ?_ | refine DrawN.calm (by decide +kernel) ?_ | refine Nd.mk (by decide +kernel) ?_ | refine Nd.mk (by omega) ?_ | (refine Nd.mk ?_ ?_; focus ((repeat' (first | exact trivial | exact wkE_refl _ | refine And.intro ?_ ?_)); done)) | refine RdN.intro _ rfl (by rfl) ?_); (conv => whnf)))); first | refine call1 (line_c (pre ++ 60 :: 37 :: q) pre.length (by simp) (by omega) _) ?_ | refine callQ (line_c (pre ++ 60 :: 37 :: q) pre.length (by simp) (by omega) _) ?_)
          rw [List.take_left]
          ((conv => whnf); (repeat ((first | refine VrN.norm (wrap_i64 (by omega)) ?_ | refine VrN.keep ?_ | refine DrawN.calm (by decide +kernel) ?_ | refine Nd.mk (by decide +kernel) ?_ | refine Nd.mk (by omega) ?_ | (refine Nd.mk ?_ ?_; focus ((repeat' (first | exact trivial | exact wkE_refl _ | refine And.intro ?_ ?_)); done)) | refine RdN.intro _ rfl (by rfl) ?_); (conv => whnf))))
          exact fin_p (fun w => MaxF w) ⟨none, 0, rfl, fun _ => rfl, fun _ _ => SlAt.nil⟩ (fun w hw => hw.1)
        | some x =>
          obtain ⟨p', r', code⟩ := x
          rw [hXX] at heq hX
          obtain ⟨hat, hout⟩ := hX
          have hat : at' = p'.length := hat
          have hout : out' = outC out (if (opn q).2.1 then trim t fp else t) (ln ((pre ++ 60 :: 37 :: q).take from_)) ++ [⟨(opn q).1, ln pre, code⟩] := hout
          subst hat; subst hout
          have hpr := tgN_len hXX
          have hlt := (tg_out _ _ _ _ _ _ _ hXX).1
          have hpl := congrArg List.length hpr
          simp only [List.length_append, List.length_take, List.length_drop, List.length_cons] at hpl hlt
          have hol2 := outC_len out (if (opn q).2.1 then trim t fp else t) (ln ((pre ++ 60 :: 37 :: q).take from_))
          have hop1 : (opn q).2.2 ≤ q.length := by
            unfold opn
            cases q with
            | nil => simp
            | cons y q =>
              simp only [List.head?_cons, List.length_cons]
              repeat' split
              all_goals (show _ ≤ _; simp only []; omega)
          ((conv => whnf); (repeat ((first | refine VrN.norm (wrap_i64 (by omega)) ?_ | refine VrN.keep ?_ | refine DrawN.calm (by decide +kernel) ?_ | refine Nd.mk (by decide +kernel) ?_ | refine Nd.mk (by omega) ?_ | (refine Nd.mk ?_ ?_; focus ((repeat' (first | exact trivial | exact wkE_refl _ | refine And.intro ?_ ?_)); done)) | refine RdN.intro _ rfl (by rfl) ?_); (conv => whnf))))
          refine ⟨(p', r', [], fp, _, from', whole', o'), ⟨⟨?_, heq, fun h => absurd rfl h, hf', ?_, by simp⟩, ok'⟩, ?_, ?_, wkH_refl _⟩
          · rw [hpr, List.append_assoc, show q.drop (opn q).2.2 = (60 :: 37 :: q).drop (2 + (opn q).2.2) from by rw [Nat.add_comm]; rfl, List.take_append_drop]
          · rw [List.length_append]
            simp only [List.length_cons, List.length_nil]
            omega
          · show r'.length < (60 :: 37 :: q).length
            simp
            omega
          · (repeat' (first | exact trivial | refine And.intro (by with_reducible rfl) ?_ | (with_reducible exact wkC_refl _) | (with_reducible exact wkCs_refl _) | refine And.intro ?_ ?_))
            all_goals rfl
      rw [if_neg (by simp [h2])] at heq
      ((conv => whnf); (repeat ((first | refine VrN.norm (wrap_i64 (by omega)) ?_ | refine VrN.keep ?_ | refine DrawN.calm (by decide +kernel) ?_ | refine Nd.mk (by decide +kernel) ?_ | refine Nd.mk (by omega) ?_ | (refine Nd.mk ?_ ?_; focus ((repeat' (first | exact trivial | exact wkE_refl _ | refine And.intro ?_ ?_)); done)) | refine RdN.intro _ rfl (by rfl) ?_); (conv => whnf))))
      refine ReadW.sl_h 1 rfl (by kernel_rfl) rfl rfl ⟨rfl, by simp⟩ ?_
      rw [show (c :: r).take 1 = [c] from rfl]
      ((conv => whnf); (repeat ((first | refine VrN.norm (wrap_i64 (by omega)) ?_ | refine VrN.keep ?_ | refine DrawN.calm (by decide +kernel) ?_ | refine Nd.mk (by decide +kernel) ?_ | refine Nd.mk (by omega) ?_ | (refine Nd.mk ?_ ?_; focus ((repeat' (first | exact trivial | exact wkE_refl _ | refine And.intro ?_ ?_)); done)) | refine RdN.intro _ rfl (by rfl) ?_); (conv => whnf))))
      refine callG (put_c s pre.length t from_ whole out o [c] ok (by omega) (by omega) (by omega) (by simp)) [1, 2] rfl ⟨rfl, rfl, trivial⟩ rfl fun o2 ok2 => ?_
      rw [htk]
      ((conv => whnf); (repeat ((first | refine VrN.norm (wrap_i64 (by omega)) ?_ | refine VrN.keep ?_ | refine DrawN.calm (by decide +kernel) ?_ | refine Nd.mk (by decide +kernel) ?_ | refine Nd.mk (by omega) ?_ | (refine Nd.mk ?_ ?_; focus ((repeat' (first | exact trivial | exact wkE_refl _ | refine And.intro ?_ ?_)); done)) | refine RdN.intro _ rfl (by rfl) ?_); (conv => whnf))))
      refine ⟨(pre ++ [c], r, t ++ [c], fpOf t fp pre, out, fromQ t pre.length from_, wholeQ t (bol pre) whole, o2), ⟨next [c] r [c] (by rw [← hi.sp]; simp) heq (by simp), ok2⟩, by show r.length < (c :: r).length; simp, ?_, ?_⟩
      · (repeat' (first | exact trivial | refine And.intro (by with_reducible rfl) ?_ | (with_reducible exact wkC_refl _) | (with_reducible exact wkCs_refl _) | refine And.intro ?_ ?_))
        all_goals rfl
      · refine ⟨wkE_refl _, wkH_cons ?_ (wkH_cons rfl (wkH_nil _))⟩
        simp only [rnCs, rnC]
        rw [show IntKind.wrap .i64 ((pre.length : Int) + 1) = ((pre ++ [c]).length : Int) by rw [wrap_i64 (by omega)]; simp]
end Go.Proofs.YtfcjgklghgpddaaDoor
