/-
  Lemmas (H2 G10 H3).
-/
import Derived.Test.YtfcjgklghgpddaaGreatDoorPm7
/-
  Contract: the document's reader of templates: a tag.
-/
namespace Go.Proofs.YtfcjgklghgpddaaGreatDoor
open Go.AX Go.RowKit Go.Erb
set_option maxRecDepth 20000

/-- What a tag leaves of the reader. -/
def QP (s : List UInt8) (n0 : Nat) (k l0 : Int) (out1 : List Part) (X : Option (List UInt8 × List UInt8 × List UInt8)) (r' : QS) : Prop :=
  r'.s = s ∧ r'.text = [] ∧ r'.from_ ≤ s.length ∧ match X with
    | none => r'.at_ = n0
    | some (p', _, c) => r'.at_ = p'.length ∧ r'.out = out1 ++ [⟨k, l0, c⟩]

theorem av_str {a b : ByteArray} (h : a = b) : AV.c (.v (.string a)) = AV.c (.v (.string b)) := by rw [h]
set_option maxHeartbeats 2000000 in
theorem rtag_c (pre r : List UInt8) (text : List UInt8) (from_ : Nat) (whole : Bool) (out : List Part) (o : BSt) (ok : o.ok out.length) (hf : from_ ≤ (pre ++ 60 :: 37 :: r).length) (hs : (pre ++ 60 :: 37 :: r).length ≤ 100000) (ho : out.length ≤ 900000) (hp : text.length ≤ 900000) :
    SpecH Tryz.prog 43 [.c (.lp 0 0)] (QH ⟨pre ++ 60 :: 37 :: r, pre.length, text, from_, whole, out⟩ o)
    (RetG (ι := QS × BSt) (fun i => i.2.ok i.1.out.length ∧ QP (pre ++ 60 :: 37 :: r) pre.length (opn r).1 (ln pre) (outC out (if (opn r).2.1 then trimQ text whole else text) (ln ((pre ++ 60 :: 37 :: r).take from_))) (tgN (pre ++ (60 :: 37 :: r).take (2 + (opn r).2.2)) (r.drop (opn r).2.2) []) i.1)
      (fun _ => .bool (tgN (pre ++ (60 :: 37 :: r).take (2 + (opn r).2.2)) (r.drop (opn r).2.2) []).isSome) (fun i => QH i.1 i.2)) := by
  refine ownC hm Tryz.func43 (by kernel_rfl) rfl rfl (fun _ _ => QH_ok _ _) (fun _ _ => Nat.le_refl _) ?_
  have hpl : (pre ++ 60 :: 37 :: r).length = pre.length + r.length + 2 := by simp; omega
  have hL := line_c (pre ++ 60 :: 37 :: r) pre.length (by omega) (by omega)
  rw [show (pre ++ 60 :: 37 :: r).take pre.length = pre from List.take_left] at hL
  have hw1 : IntKind.wrap .i64 ((pre.length : Int) + 2) = ((pre.length + 2 : Nat) : Int) := by rw [wrap_i64 (by omega)]; omega
  have hw2 : IntKind.wrap .i64 (((pre.length + 2 : Nat) : Int) + 1) = ((pre.length + 3 : Nat) : Int) := by rw [wrap_i64 (by omega)]; omega
  have hm1 : minI ((pre.length + 2 : Nat) : Int) ((pre ++ 60 :: 37 :: r).length : Int) = ((pre.length + 2 : Nat) : Int) := by unfold minI; rw [if_neg (by omega)]
  have hm2 : minI ((pre.length + 3 : Nat) : Int) ((pre ++ 60 :: 37 :: r).length : Int) = ((min (pre.length + 3) (pre ++ 60 :: 37 :: r).length : Nat) : Int) := by unfold minI; split <;> omega
  have hsl : ((pre ++ 60 :: 37 :: r).take (min (pre.length + 3) (pre ++ 60 :: 37 :: r).length)).drop (pre.length + 2) = r.take 1 := by
    rw [← List.take_eq_take_min, show pre.length + 3 = (pre.length + 2) + 1 from rfl, ← List.take_drop]
    simp
  ((conv => whnf); (repeat ((first | refine BoxN.own ?_ | refine VrN.norm (wrap_i64 (by omega)) ?_ | refine VrN.keep ?_ | refine DrawN.calm (by decide +kernel) ?_ | refine Nd.mk (by decide +kernel) ?_ | refine Nd.mk (by omega) ?_ | (refine Nd.mk ?_ ?_; focus ((repeat' (first | exact trivial | exact wkE_refl _ | refine And.intro ?_ ?_)); done)) | refine RdN.intro _ rfl (by rfl) ?_); (conv => whnf))))
  rw [hw1, hw2, bs_size, hm1, hm2]
  refine ReadW.sl_lh (pre.length + 2) (min (pre.length + 3) (pre ++ 60 :: 37 :: r).length) rfl (by kernel_rfl) rfl rfl rfl ⟨rfl, rfl, by omega, by show min (pre.length + 3) (pre ++ 60 :: 37 :: r).length ≤ (pre ++ 60 :: 37 :: r).length; omega⟩ ?_
  rw [hsl]
  have htr : (trimQ text whole).length ≤ text.length := by
    unfold trimQ
    split
    · unfold trimR
      rw [List.length_reverse]
      exact Nat.le_trans (List.dropWhile_suffix _).length_le (by simp)
    · exact Nat.le_refl _
  have hcase : (∃ q, r = 45 :: q) ∨ (∃ q, r = 61 :: q) ∨ (∃ q, r = 35 :: q) ∨ ((r.take 1 == [45]) = false ∧ (r.take 1 == [61]) = false ∧ (r.take 1 == [35]) = false ∧ opn r = (1, false, 0)) := by
    cases r with
    | nil => exact .inr (.inr (.inr ⟨rfl, rfl, rfl, rfl⟩))
    | cons c q =>
      by_cases h1 : c = 45
      · exact .inl ⟨q, by rw [h1]⟩
      by_cases h2 : c = 61
      · exact .inr (.inl ⟨q, by rw [h2]⟩)
      by_cases h3 : c = 35
      · exact .inr (.inr (.inl ⟨q, by rw [h3]⟩))
      exact .inr (.inr (.inr ⟨by simp [h1], by simp [h2], by simp [h3], by simp [opn, h1, h2, h3]⟩))
  rcases hcase with ⟨q, hq⟩ | ⟨q, hq⟩ | ⟨q, hq⟩ | ⟨e1, e2, e3, hop⟩
  · have hop : opn r = (1, true, 1) := by rw [hq]; rfl
    have e1 : (r.take 1 == [45]) = true := by rw [hq]; rfl
    have hat : ((pre.length + 3 : Nat) : Int) = ((pre ++ (60 :: 37 :: r).take (2 + 1)).length : Int) := by rw [hq]; simp
    rw [hop]
    simp only [if_true]
    ((conv => whnf); (repeat ((first | refine BoxN.own ?_ | refine VrN.norm (wrap_i64 (by omega)) ?_ | refine VrN.keep ?_ | refine DrawN.calm (by decide +kernel) ?_ | refine Nd.mk (by decide +kernel) ?_ | refine Nd.mk (by omega) ?_ | (refine Nd.mk ?_ ?_; focus ((repeat' (first | exact trivial | exact wkE_refl _ | refine And.intro ?_ ?_)); done)) | refine RdN.intro _ rfl (by rfl) ?_); (conv => whnf))))
    rw [bs_list]
    refine brdT e1 ?_
    ((conv => whnf); (repeat ((first | refine BoxN.own ?_ | refine VrN.norm (wrap_i64 (by omega)) ?_ | refine VrN.keep ?_ | refine DrawN.calm (by decide +kernel) ?_ | refine Nd.mk (by decide +kernel) ?_ | refine Nd.mk (by omega) ?_ | (refine Nd.mk ?_ ?_; focus ((repeat' (first | exact trivial | exact wkE_refl _ | refine And.intro ?_ ?_)); done)) | refine RdN.intro _ rfl (by rfl) ?_); (conv => whnf))))
    refine callG (trimQ_c (pre ++ 60 :: 37 :: r) (pre.length + 2) text from_ whole out o ok (by omega)) [0, 1] rfl ⟨rfl, rfl, trivial⟩ rfl fun o1 ok1 => ?_
    ((conv => whnf); (repeat ((first | refine BoxN.own ?_ | refine VrN.norm (wrap_i64 (by omega)) ?_ | refine VrN.keep ?_ | refine DrawN.calm (by decide +kernel) ?_ | refine Nd.mk (by decide +kernel) ?_ | refine Nd.mk (by omega) ?_ | (refine Nd.mk ?_ ?_; focus ((repeat' (first | exact trivial | exact wkE_refl _ | refine And.intro ?_ ?_)); done)) | refine RdN.intro _ rfl (by rfl) ?_); (conv => whnf))))
    rw [hw2, hat]
    -- 1: bytes behind '<%' · 1: the kind · (trimQ text whole): the text
    generalize hXd : tgN (pre ++ (60 :: 37 :: r).take (2 + 1)) (r.drop 1) [] = X
    have hol := outC_len out (trimQ text whole) (ln ((pre ++ 60 :: 37 :: r).take from_))
    refine callG (close_c (pre ++ 60 :: 37 :: r) (pre ++ (60 :: 37 :: r).take (2 + 1)).length (trimQ text whole) from_ whole out o1 ok1 hf (by omega) (by omega)) [0, 1] rfl ⟨rfl, rfl, trivial⟩ rfl fun o2 ok2 => ?_
    generalize outC out (trimQ text whole) (ln ((pre ++ 60 :: 37 :: r).take from_)) = out1 at *
    obtain ⟨ob, oc⟩ := o2
    ((conv => whnf); (repeat ((first | refine BoxN.own ?_ | refine VrN.norm (wrap_i64 (by omega)) ?_ | refine VrN.keep ?_ | refine DrawN.calm (by decide +kernel) ?_ | refine Nd.mk (by decide +kernel) ?_ | refine Nd.mk (by omega) ?_ | (refine Nd.mk ?_ ?_; focus ((repeat' (first | exact trivial | exact wkE_refl _ | refine And.intro ?_ ?_)); done)) | refine RdN.intro _ rfl (by rfl) ?_); (conv => whnf))))
    refine LoopN.intro (List UInt8 × List UInt8 × List UInt8) (fun ⟨p2, r2, acc⟩ => p2 ++ r2 = pre ++ 60 :: 37 :: r ∧ tgN p2 r2 acc = X ∧ acc.length ≤ p2.length) (fun ⟨_, _, acc⟩ => mkS Tryz.f43.ntmps 0 [(0, .c (.lp 0 0)), (2, .c (.v (.bool false))), (3, .c (.v (.int .i64 (pre.length : Int)))), (4, .c (.v (.int .i64 1))), (5, .c (.v (.string (bs acc))))])
      (fun ⟨p2, _, _⟩ => QH ⟨pre ++ 60 :: 37 :: r, p2.length, [], from_, whole, out1⟩ ⟨ob, oc⟩)
      (fun ⟨_, r2, _⟩ => r2.length) [] rfl
      (fun _ => rfl) (fun _ => rfl) (fun _ _ => QH_ok _ _) ⟨⟨pre ++ (60 :: 37 :: r).take (2 + 1), r.drop 1, []⟩, ⟨by rw [List.append_assoc, show r.drop 1 = (60 :: 37 :: r).drop (2 + 1) from rfl, List.take_append_drop], hXd, by simp⟩, ?_, wkH_refl _⟩ ?_
    · (repeat' (first | exact trivial | refine And.intro (by with_reducible rfl) ?_ | (with_reducible exact wkC_refl _) | (with_reducible exact wkCs_refl _) | refine And.intro ?_ ?_))
      all_goals rfl
    rintro ⟨p2, r2, acc⟩ ⟨hsp, hX, hal⟩
    have hlen := congrArg List.length hsp
    simp only [List.length_append, List.length_cons] at hlen
    cases r2 with
    | nil =>
      have hX : X = none := by rw [← hX]; rfl
      subst hX
      have hw : (p2.length : Int) < ((pre ++ 60 :: 37 :: r).length : Int) → False := by rw [← hsp]; simp
      ((conv => whnf); (repeat ((first | refine BoxN.own ?_ | refine VrN.norm (wrap_i64 (by omega)) ?_ | refine VrN.keep ?_ | refine DrawN.calm (by decide +kernel) ?_ | refine Nd.mk (by decide +kernel) ?_ | refine Nd.mk (by omega) ?_ | (refine Nd.mk ?_ ?_; focus ((repeat' (first | exact trivial | exact wkE_refl _ | refine And.intro ?_ ?_)); done)) | refine RdN.intro _ rfl (by rfl) ?_); (conv => whnf))))
      rw [bs_size]
      refine brd_dec (fun h => (hw h).elim) (fun _ => ?_)
      ((conv => whnf); (repeat ((first | refine BoxN.own ?_ | refine VrN.norm (wrap_i64 (by omega)) ?_ | refine VrN.keep ?_ | refine DrawN.calm (by decide +kernel) ?_ | refine Nd.mk (by decide +kernel) ?_ | refine Nd.mk (by omega) ?_ | (refine Nd.mk ?_ ?_; focus ((repeat' (first | exact trivial | exact wkE_refl _ | refine And.intro ?_ ?_)); done)) | refine RdN.intro _ rfl (by rfl) ?_); (conv => whnf))))
      exact ⟨(⟨pre ++ 60 :: 37 :: r, pre.length, [], from_, whole, out1⟩, ⟨ob, oc⟩), ⟨ok2, rfl, rfl, hf, rfl⟩, rfl, wkH_refl _⟩
    | cons c r3 =>
      simp only [List.length_cons] at hlen
      rw [tgN_cons] at hX
      have hw : (p2.length : Int) < ((pre ++ 60 :: 37 :: r).length : Int) := by rw [← hsp]; simp; omega
      have hac : (bs acc).size ≤ 1000000 := by rw [bs_size]; omega
      have hb0 : byteAt (bs (c :: r3)) 0 = (c.toNat : Int) := byteAt_get rfl
      ((conv => whnf); (repeat ((first | refine BoxN.own ?_ | refine VrN.norm (wrap_i64 (by omega)) ?_ | refine VrN.keep ?_ | refine DrawN.calm (by decide +kernel) ?_ | refine Nd.mk (by decide +kernel) ?_ | refine Nd.mk (by omega) ?_ | (refine Nd.mk ?_ ?_; focus ((repeat' (first | exact trivial | exact wkE_refl _ | refine And.intro ?_ ?_)); done)) | refine RdN.intro _ rfl (by rfl) ?_); (conv => whnf))))
      rw [bs_size]
      refine brd_dec (fun _ => ?_) (fun h => absurd hw h)
      ((conv => whnf); (repeat ((first | refine BoxN.own ?_ | refine VrN.norm (wrap_i64 (by omega)) ?_ | refine VrN.keep ?_ | refine DrawN.calm (by decide +kernel) ?_ | refine Nd.mk (by decide +kernel) ?_ | refine Nd.mk (by omega) ?_ | (refine Nd.mk ?_ ?_; focus ((repeat' (first | exact trivial | exact wkE_refl _ | refine And.intro ?_ ?_)); done)) | refine RdN.intro _ rfl (by rfl) ?_); (conv => whnf))))
      refine ReadW.sl_at p2 (c :: r3) hsp.symm rfl (by kernel_rfl) rfl rfl rfl ?_
      (((conv => whnf); (repeat ((first | refine BoxN.own ?_ | refine VrN.norm (wrap_i64 (by omega)) ?_ | refine VrN.keep ?_ | refine DrawN.calm (by decide +kernel) ?_ | refine Nd.mk (by decide +kernel) ?_ | refine Nd.mk (by omega) ?_ | (refine Nd.mk ?_ ?_; focus ((repeat' (first | exact trivial | exact wkE_refl _ | refine And.intro ?_ ?_)); done)) | refine RdN.intro _ rfl (by rfl) ?_); (conv => whnf)))); first | refine call1 (HasPrefix_c (c :: r3) [37, 37, 62] _) ?_ | refine callQ (HasPrefix_c (c :: r3) [37, 37, 62] _) ?_)
      ((conv => whnf); (repeat ((first | refine BoxN.own ?_ | refine VrN.norm (wrap_i64 (by omega)) ?_ | refine VrN.keep ?_ | refine DrawN.calm (by decide +kernel) ?_ | refine Nd.mk (by decide +kernel) ?_ | refine Nd.mk (by omega) ?_ | (refine Nd.mk ?_ ?_; focus ((repeat' (first | exact trivial | exact wkE_refl _ | refine And.intro ?_ ?_)); done)) | refine RdN.intro _ rfl (by rfl) ?_); (conv => whnf))))
      refine brd_intro (fun h1 => ?_) (fun h1 => ?_)
      · rw [if_pos h1] at hX
        obtain ⟨q, hq⟩ := pfx_split h1
        have htk : (c :: r3).take 3 = [37, 37, 62] := pfx_take h1
        have hdr : (c :: r3).drop 3 = q := by rw [hq]; rfl
        rw [htk, hdr] at hX
        have hq3 := congrArg List.length hq
        simp only [List.length_append, List.length_cons, List.length_nil] at hq3
        have ha : IntKind.wrap .i64 ((p2.length : Int) + 3) = ((p2 ++ [37, 37, 62]).length : Int) := by rw [wrap_i64 (by omega)]; simp
        ((conv => whnf); (repeat ((first | refine BoxN.own ?_ | refine VrN.norm (wrap_i64 (by omega)) ?_ | refine VrN.keep ?_ | refine DrawN.calm (by decide +kernel) ?_ | refine Nd.mk (by decide +kernel) ?_ | refine Nd.mk (by omega) ?_ | (refine Nd.mk ?_ ?_; focus ((repeat' (first | exact trivial | exact wkE_refl _ | refine And.intro ?_ ?_)); done)) | refine RdN.intro _ rfl (by rfl) ?_); (conv => whnf))))
        refine Nd.mk (by show (bs acc).size + 2 < _; omega) ?_
        ((conv => whnf); (repeat ((first | refine BoxN.own ?_ | refine VrN.norm (wrap_i64 (by omega)) ?_ | refine VrN.keep ?_ | refine DrawN.calm (by decide +kernel) ?_ | refine Nd.mk (by decide +kernel) ?_ | refine Nd.mk (by omega) ?_ | (refine Nd.mk ?_ ?_; focus ((repeat' (first | exact trivial | exact wkE_refl _ | refine And.intro ?_ ?_)); done)) | refine RdN.intro _ rfl (by rfl) ?_); (conv => whnf))))
        refine ⟨⟨p2 ++ [37, 37, 62], q, acc ++ [37, 62]⟩, ⟨by rw [← hsp, hq]; simp, hX, by simp; omega⟩, by show q.length < (c :: r3).length; rw [hq]; simp; omega, ?_, ?_⟩
        · (repeat' (first | exact trivial | refine And.intro (by with_reducible rfl) ?_ | (with_reducible exact wkC_refl _) | (with_reducible exact wkCs_refl _) | refine And.intro ?_ ?_))
          exact av_str (bs_app acc [37, 62])
        · refine wkH_cons ?_ (wkH_cons rfl (wkH_nil _))
          rw [ha]
      rw [if_neg (by simp [h1])] at hX
      (((conv => whnf); (repeat ((first | refine BoxN.own ?_ | refine VrN.norm (wrap_i64 (by omega)) ?_ | refine VrN.keep ?_ | refine DrawN.calm (by decide +kernel) ?_ | refine Nd.mk (by decide +kernel) ?_ | refine Nd.mk (by omega) ?_ | (refine Nd.mk ?_ ?_; focus ((repeat' (first | exact trivial | exact wkE_refl _ | refine And.intro ?_ ?_)); done)) | refine RdN.intro _ rfl (by rfl) ?_); (conv => whnf)))); first | refine call1 (HasPrefix_c (c :: r3) [37, 62] _) ?_ | refine callQ (HasPrefix_c (c :: r3) [37, 62] _) ?_)
      ((conv => whnf); (repeat ((first | refine BoxN.own ?_ | refine VrN.norm (wrap_i64 (by omega)) ?_ | refine VrN.keep ?_ | refine DrawN.calm (by decide +kernel) ?_ | refine Nd.mk (by decide +kernel) ?_ | refine Nd.mk (by omega) ?_ | (refine Nd.mk ?_ ?_; focus ((repeat' (first | exact trivial | exact wkE_refl _ | refine And.intro ?_ ?_)); done)) | refine RdN.intro _ rfl (by rfl) ?_); (conv => whnf))))
      refine brd_intro (fun h3 => ?_) (fun h3 => ?_)
      · have hc : c = 37 := by simp [List.isPrefixOf] at h3; exact h3.1.symm
        have h2 : [45, 37, 62].isPrefixOf (c :: r3) = false := by subst hc; rfl
        rw [if_neg (by simp [h2]), if_pos h3] at hX
        have htk : (c :: r3).take 2 = [37, 62] := pfx_take h3
        rw [htk] at hX
        have ha : IntKind.wrap .i64 ((p2.length : Int) + 2) = ((p2 ++ [37, 62]).length : Int) := by rw [wrap_i64 (by omega)]; simp
        ((conv => whnf); (repeat ((first | refine BoxN.own ?_ | refine VrN.norm (wrap_i64 (by omega)) ?_ | refine VrN.keep ?_ | refine DrawN.calm (by decide +kernel) ?_ | refine Nd.mk (by decide +kernel) ?_ | refine Nd.mk (by omega) ?_ | (refine Nd.mk ?_ ?_; focus ((repeat' (first | exact trivial | exact wkE_refl _ | refine And.intro ?_ ?_)); done)) | refine RdN.intro _ rfl (by rfl) ?_); (conv => whnf))))
        refine Nd.mk ⟨by omega, by rw [bs_size]; simp⟩ ?_
        rw [show ((0 : Int).toNat) = 0 from rfl, hb0]
        ((conv => whnf); (repeat ((first | refine BoxN.own ?_ | refine VrN.norm (wrap_i64 (by omega)) ?_ | refine VrN.keep ?_ | refine DrawN.calm (by decide +kernel) ?_ | refine Nd.mk (by decide +kernel) ?_ | refine Nd.mk (by omega) ?_ | (refine Nd.mk ?_ ?_; focus ((repeat' (first | exact trivial | exact wkE_refl _ | refine And.intro ?_ ?_)); done)) | refine RdN.intro _ rfl (by rfl) ?_); (conv => whnf))))
        refine brd_eq (fun h4 => absurd h4 (by rw [hc]; decide)) (fun _ => ?_)
        -- 1: the kind · (p2 ++ [37, 62]): the prefix behind the tag · ha: its place
        ((conv => whnf); (repeat ((first | refine BoxN.own ?_ | refine VrN.norm (wrap_i64 (by omega)) ?_ | refine VrN.keep ?_ | refine DrawN.calm (by decide +kernel) ?_ | refine Nd.mk (by decide +kernel) ?_ | refine Nd.mk (by omega) ?_ | (refine Nd.mk ?_ ?_; focus ((repeat' (first | exact trivial | exact wkE_refl _ | refine And.intro ?_ ?_)); done)) | refine RdN.intro _ rfl (by rfl) ?_); (conv => whnf))))
        refine DrawN.plan [0, 1, 5, 6, 10, 12] [(2, 1), (3, 1), (4, 1), (7, 1), (8, 1), (9, 1), (11, 0), (13, 1), (14, 0)] [(15, 0), (16, 0), (17, 0), (18, 0)] (by decide +kernel) ?_
        (((conv => whnf); (repeat ((first | refine BoxN.own ?_ | refine VrN.norm (wrap_i64 (by omega)) ?_ | refine VrN.keep ?_ | refine DrawN.calm (by decide +kernel) ?_ | refine Nd.mk (by decide +kernel) ?_ | refine Nd.mk (by omega) ?_ | (refine Nd.mk ?_ ?_; focus ((repeat' (first | exact trivial | exact wkE_refl _ | refine And.intro ?_ ?_)); done)) | refine RdN.intro _ rfl (by rfl) ?_); (conv => whnf)))); first | refine call1 (hL _) ?_ | refine callQ (hL _) ?_)
        ((conv => whnf); (repeat ((first | refine BoxN.own ?_ | refine VrN.norm (wrap_i64 (by omega)) ?_ | refine VrN.keep ?_ | refine DrawN.calm (by decide +kernel) ?_ | refine Nd.mk (by decide +kernel) ?_ | refine Nd.mk (by omega) ?_ | (refine Nd.mk ?_ ?_; focus ((repeat' (first | exact trivial | exact wkE_refl _ | refine And.intro ?_ ?_)); done)) | refine RdN.intro _ rfl (by rfl) ?_); (conv => whnf))))
        refine Nd.mk ⟨by omega, rfl, rfl⟩ ?_
        (conv => whnf)
        refine AppN.grow 1 (partsC out1) _ rfl rfl ⟨by omega, ⟨by show (out1.length + 1) * 32 ≤ _; omega, by show out1.length + 1 < _; omega⟩, by decide⟩ fun b' cap' h3 h4 => ?_
        ((conv => whnf); (repeat ((first | refine BoxN.own ?_ | refine VrN.norm (wrap_i64 (by omega)) ?_ | refine VrN.keep ?_ | refine DrawN.calm (by decide +kernel) ?_ | refine Nd.mk (by decide +kernel) ?_ | refine Nd.mk (by omega) ?_ | (refine Nd.mk ?_ ?_; focus ((repeat' (first | exact trivial | exact wkE_refl _ | refine And.intro ?_ ?_)); done)) | refine RdN.intro _ rfl (by rfl) ?_); (conv => whnf))))
        refine ⟨(⟨pre ++ 60 :: 37 :: r, ((p2 ++ [37, 62])).length, [], from_, whole, out1 ++ [⟨1, ln pre, acc⟩]⟩, ⟨some b', cap'⟩), ⟨⟨(fun h => by cases h), by rw [List.length_append]; exact h3, fun h => by have h : cap' = 0 := h; omega⟩, rfl, rfl, hf, by rw [← hX]; exact ⟨rfl, rfl⟩⟩, by rw [← hX]; rfl, ?_⟩
        refine wkH_cons ?_ (wkH_cons ?_ (wkH_nil _))
        · rw [ha]
          simp [at0, bs]
        · simp [at0, partsC_app]
          exact ⟨rfl, rfl⟩
      (((conv => whnf); (repeat ((first | refine BoxN.own ?_ | refine VrN.norm (wrap_i64 (by omega)) ?_ | refine VrN.keep ?_ | refine DrawN.calm (by decide +kernel) ?_ | refine Nd.mk (by decide +kernel) ?_ | refine Nd.mk (by omega) ?_ | (refine Nd.mk ?_ ?_; focus ((repeat' (first | exact trivial | exact wkE_refl _ | refine And.intro ?_ ?_)); done)) | refine RdN.intro _ rfl (by rfl) ?_); (conv => whnf)))); first | refine call1 (HasPrefix_c (c :: r3) [45, 37, 62] _) ?_ | refine callQ (HasPrefix_c (c :: r3) [45, 37, 62] _) ?_)
      ((conv => whnf); (repeat ((first | refine BoxN.own ?_ | refine VrN.norm (wrap_i64 (by omega)) ?_ | refine VrN.keep ?_ | refine DrawN.calm (by decide +kernel) ?_ | refine Nd.mk (by decide +kernel) ?_ | refine Nd.mk (by omega) ?_ | (refine Nd.mk ?_ ?_; focus ((repeat' (first | exact trivial | exact wkE_refl _ | refine And.intro ?_ ?_)); done)) | refine RdN.intro _ rfl (by rfl) ?_); (conv => whnf))))
      refine brd_intro (fun h2 => ?_) (fun h2 => ?_)
      · have hc : c = 45 := by simp [List.isPrefixOf] at h2; exact h2.1.symm
        rw [if_pos h2] at hX
        obtain ⟨q, hq⟩ := pfx_split h2
        have htk : (c :: r3).take 3 = [45, 37, 62] := pfx_take h2
        have hdr : (c :: r3).drop 3 = q := by rw [hq]; rfl
        have hq3 := congrArg List.length hq
        simp only [List.length_append, List.length_cons, List.length_nil] at hq3
        have ha : IntKind.wrap .i64 (IntKind.wrap .i64 ((p2.length : Int) + 2) + 1) = ((p2 ++ [45, 37, 62]).length : Int) := by rw [wrap_i64 (x := (p2.length : Int) + 2) (by omega), wrap_i64 (by omega)]; simp; omega
        rw [hdr] at hX
        ((conv => whnf); (repeat ((first | refine BoxN.own ?_ | refine VrN.norm (wrap_i64 (by omega)) ?_ | refine VrN.keep ?_ | refine DrawN.calm (by decide +kernel) ?_ | refine Nd.mk (by decide +kernel) ?_ | refine Nd.mk (by omega) ?_ | (refine Nd.mk ?_ ?_; focus ((repeat' (first | exact trivial | exact wkE_refl _ | refine And.intro ?_ ?_)); done)) | refine RdN.intro _ rfl (by rfl) ?_); (conv => whnf))))
        refine Nd.mk ⟨by omega, by rw [bs_size]; simp⟩ ?_
        rw [show ((0 : Int).toNat) = 0 from rfl, hb0]
        ((conv => whnf); (repeat ((first | refine BoxN.own ?_ | refine VrN.norm (wrap_i64 (by omega)) ?_ | refine VrN.keep ?_ | refine DrawN.calm (by decide +kernel) ?_ | refine Nd.mk (by decide +kernel) ?_ | refine Nd.mk (by omega) ?_ | (refine Nd.mk ?_ ?_; focus ((repeat' (first | exact trivial | exact wkE_refl _ | refine And.intro ?_ ?_)); done)) | refine RdN.intro _ rfl (by rfl) ?_); (conv => whnf))))
        refine brd_eq (fun _ => ?_) (fun h4 => absurd (by rw [hc]; rfl) h4)
        ((conv => whnf); (repeat ((first | refine BoxN.own ?_ | refine VrN.norm (wrap_i64 (by omega)) ?_ | refine VrN.keep ?_ | refine DrawN.calm (by decide +kernel) ?_ | refine Nd.mk (by decide +kernel) ?_ | refine Nd.mk (by omega) ?_ | (refine Nd.mk ?_ ?_; focus ((repeat' (first | exact trivial | exact wkE_refl _ | refine And.intro ?_ ?_)); done)) | refine RdN.intro _ rfl (by rfl) ?_); (conv => whnf))))
        refine ReadW.sl_l 3 rfl (by kernel_rfl) rfl rfl ⟨rfl, by simp; omega⟩ ?_
        rw [hdr]
        (((conv => whnf); (repeat ((first | refine BoxN.own ?_ | refine VrN.norm (wrap_i64 (by omega)) ?_ | refine VrN.keep ?_ | refine DrawN.calm (by decide +kernel) ?_ | refine Nd.mk (by decide +kernel) ?_ | refine Nd.mk (by omega) ?_ | (refine Nd.mk ?_ ?_; focus ((repeat' (first | exact trivial | exact wkE_refl _ | refine And.intro ?_ ?_)); done)) | refine RdN.intro _ rfl (by rfl) ?_); (conv => whnf)))); first | refine call1 (HasPrefix_c q [10] _) ?_ | refine callQ (HasPrefix_c q [10] _) ?_)
        ((conv => whnf); (repeat ((first | refine BoxN.own ?_ | refine VrN.norm (wrap_i64 (by omega)) ?_ | refine VrN.keep ?_ | refine DrawN.calm (by decide +kernel) ?_ | refine Nd.mk (by decide +kernel) ?_ | refine Nd.mk (by omega) ?_ | (refine Nd.mk ?_ ?_; focus ((repeat' (first | exact trivial | exact wkE_refl _ | refine And.intro ?_ ?_)); done)) | refine RdN.intro _ rfl (by rfl) ?_); (conv => whnf))))
        refine brd_intro (fun h3 => ?_) (fun h3 => ?_)
        · rw [if_pos h3] at hX
          obtain ⟨q', hq'⟩ := pfx_split h3
          have htk4 : (c :: r3).take 4 = [45, 37, 62, 10] := by rw [hq, hq']; rfl
          rw [htk4] at hX
          have ha4 : IntKind.wrap .i64 (IntKind.wrap .i64 (IntKind.wrap .i64 ((p2.length : Int) + 2) + 1) + 1) = ((p2 ++ [45, 37, 62, 10]).length : Int) := by rw [ha, wrap_i64 (by simp; omega)]; simp; omega
          -- 1: the kind · (p2 ++ [45, 37, 62, 10]): the prefix behind the tag · ha4: its place
          ((conv => whnf); (repeat ((first | refine BoxN.own ?_ | refine VrN.norm (wrap_i64 (by omega)) ?_ | refine VrN.keep ?_ | refine DrawN.calm (by decide +kernel) ?_ | refine Nd.mk (by decide +kernel) ?_ | refine Nd.mk (by omega) ?_ | (refine Nd.mk ?_ ?_; focus ((repeat' (first | exact trivial | exact wkE_refl _ | refine And.intro ?_ ?_)); done)) | refine RdN.intro _ rfl (by rfl) ?_); (conv => whnf))))
          refine DrawN.plan [0, 1, 5, 6, 10, 12] [(2, 1), (3, 1), (4, 1), (7, 1), (8, 1), (9, 1), (11, 0), (13, 1), (14, 0)] [(15, 0), (16, 0), (17, 0), (18, 0)] (by decide +kernel) ?_
          (((conv => whnf); (repeat ((first | refine BoxN.own ?_ | refine VrN.norm (wrap_i64 (by omega)) ?_ | refine VrN.keep ?_ | refine DrawN.calm (by decide +kernel) ?_ | refine Nd.mk (by decide +kernel) ?_ | refine Nd.mk (by omega) ?_ | (refine Nd.mk ?_ ?_; focus ((repeat' (first | exact trivial | exact wkE_refl _ | refine And.intro ?_ ?_)); done)) | refine RdN.intro _ rfl (by rfl) ?_); (conv => whnf)))); first | refine call1 (hL _) ?_ | refine callQ (hL _) ?_)
          ((conv => whnf); (repeat ((first | refine BoxN.own ?_ | refine VrN.norm (wrap_i64 (by omega)) ?_ | refine VrN.keep ?_ | refine DrawN.calm (by decide +kernel) ?_ | refine Nd.mk (by decide +kernel) ?_ | refine Nd.mk (by omega) ?_ | (refine Nd.mk ?_ ?_; focus ((repeat' (first | exact trivial | exact wkE_refl _ | refine And.intro ?_ ?_)); done)) | refine RdN.intro _ rfl (by rfl) ?_); (conv => whnf))))
          refine Nd.mk ⟨by omega, rfl, rfl⟩ ?_
          (conv => whnf)
          refine AppN.grow 1 (partsC out1) _ rfl rfl ⟨by omega, ⟨by show (out1.length + 1) * 32 ≤ _; omega, by show out1.length + 1 < _; omega⟩, by decide⟩ fun b' cap' h3 h4 => ?_
          ((conv => whnf); (repeat ((first | refine BoxN.own ?_ | refine VrN.norm (wrap_i64 (by omega)) ?_ | refine VrN.keep ?_ | refine DrawN.calm (by decide +kernel) ?_ | refine Nd.mk (by decide +kernel) ?_ | refine Nd.mk (by omega) ?_ | (refine Nd.mk ?_ ?_; focus ((repeat' (first | exact trivial | exact wkE_refl _ | refine And.intro ?_ ?_)); done)) | refine RdN.intro _ rfl (by rfl) ?_); (conv => whnf))))
          refine ⟨(⟨pre ++ 60 :: 37 :: r, ((p2 ++ [45, 37, 62, 10])).length, [], from_, whole, out1 ++ [⟨1, ln pre, acc⟩]⟩, ⟨some b', cap'⟩), ⟨⟨(fun h => by cases h), by rw [List.length_append]; exact h3, fun h => by have h : cap' = 0 := h; omega⟩, rfl, rfl, hf, by rw [← hX]; exact ⟨rfl, rfl⟩⟩, by rw [← hX]; rfl, ?_⟩
          refine wkH_cons ?_ (wkH_cons ?_ (wkH_nil _))
          · rw [ha4]
            simp [at0, bs]
          · simp [at0, partsC_app]
            exact ⟨rfl, rfl⟩
        · rw [if_neg (by simp [h3]), htk] at hX
          -- 1: the kind · (p2 ++ [45, 37, 62]): the prefix behind the tag · ha: its place
          ((conv => whnf); (repeat ((first | refine BoxN.own ?_ | refine VrN.norm (wrap_i64 (by omega)) ?_ | refine VrN.keep ?_ | refine DrawN.calm (by decide +kernel) ?_ | refine Nd.mk (by decide +kernel) ?_ | refine Nd.mk (by omega) ?_ | (refine Nd.mk ?_ ?_; focus ((repeat' (first | exact trivial | exact wkE_refl _ | refine And.intro ?_ ?_)); done)) | refine RdN.intro _ rfl (by rfl) ?_); (conv => whnf))))
          refine DrawN.plan [0, 1, 5, 6, 10, 12] [(2, 1), (3, 1), (4, 1), (7, 1), (8, 1), (9, 1), (11, 0), (13, 1), (14, 0)] [(15, 0), (16, 0), (17, 0), (18, 0)] (by decide +kernel) ?_
          (((conv => whnf); (repeat ((first | refine BoxN.own ?_ | refine VrN.norm (wrap_i64 (by omega)) ?_ | refine VrN.keep ?_ | refine DrawN.calm (by decide +kernel) ?_ | refine Nd.mk (by decide +kernel) ?_ | refine Nd.mk (by omega) ?_ | (refine Nd.mk ?_ ?_; focus ((repeat' (first | exact trivial | exact wkE_refl _ | refine And.intro ?_ ?_)); done)) | refine RdN.intro _ rfl (by rfl) ?_); (conv => whnf)))); first | refine call1 (hL _) ?_ | refine callQ (hL _) ?_)
          ((conv => whnf); (repeat ((first | refine BoxN.own ?_ | refine VrN.norm (wrap_i64 (by omega)) ?_ | refine VrN.keep ?_ | refine DrawN.calm (by decide +kernel) ?_ | refine Nd.mk (by decide +kernel) ?_ | refine Nd.mk (by omega) ?_ | (refine Nd.mk ?_ ?_; focus ((repeat' (first | exact trivial | exact wkE_refl _ | refine And.intro ?_ ?_)); done)) | refine RdN.intro _ rfl (by rfl) ?_); (conv => whnf))))
          refine Nd.mk ⟨by omega, rfl, rfl⟩ ?_
          (conv => whnf)
          refine AppN.grow 1 (partsC out1) _ rfl rfl ⟨by omega, ⟨by show (out1.length + 1) * 32 ≤ _; omega, by show out1.length + 1 < _; omega⟩, by decide⟩ fun b' cap' h3 h4 => ?_
          ((conv => whnf); (repeat ((first | refine BoxN.own ?_ | refine VrN.norm (wrap_i64 (by omega)) ?_ | refine VrN.keep ?_ | refine DrawN.calm (by decide +kernel) ?_ | refine Nd.mk (by decide +kernel) ?_ | refine Nd.mk (by omega) ?_ | (refine Nd.mk ?_ ?_; focus ((repeat' (first | exact trivial | exact wkE_refl _ | refine And.intro ?_ ?_)); done)) | refine RdN.intro _ rfl (by rfl) ?_); (conv => whnf))))
          refine ⟨(⟨pre ++ 60 :: 37 :: r, ((p2 ++ [45, 37, 62])).length, [], from_, whole, out1 ++ [⟨1, ln pre, acc⟩]⟩, ⟨some b', cap'⟩), ⟨⟨(fun h => by cases h), by rw [List.length_append]; exact h3, fun h => by have h : cap' = 0 := h; omega⟩, rfl, rfl, hf, by rw [← hX]; exact ⟨rfl, rfl⟩⟩, by rw [← hX]; rfl, ?_⟩
          refine wkH_cons ?_ (wkH_cons ?_ (wkH_nil _))
          · rw [ha]
            simp [at0, bs]
          · simp [at0, partsC_app]
            exact ⟨rfl, rfl⟩
      rw [if_neg (by simp [h2]), if_neg (by simp [h3])] at hX
      have ha : IntKind.wrap .i64 ((p2.length : Int) + 1) = ((p2 ++ [c]).length : Int) := by rw [wrap_i64 (by omega)]; simp
      ((conv => whnf); (repeat ((first | refine BoxN.own ?_ | refine VrN.norm (wrap_i64 (by omega)) ?_ | refine VrN.keep ?_ | refine DrawN.calm (by decide +kernel) ?_ | refine Nd.mk (by decide +kernel) ?_ | refine Nd.mk (by omega) ?_ | (refine Nd.mk ?_ ?_; focus ((repeat' (first | exact trivial | exact wkE_refl _ | refine And.intro ?_ ?_)); done)) | refine RdN.intro _ rfl (by rfl) ?_); (conv => whnf))))
      refine ReadW.sl_h 1 rfl (by kernel_rfl) rfl rfl ⟨rfl, by simp⟩ ?_
      rw [show (c :: r3).take 1 = [c] from rfl]
      ((conv => whnf); (repeat ((first | refine BoxN.own ?_ | refine VrN.norm (wrap_i64 (by omega)) ?_ | refine VrN.keep ?_ | refine DrawN.calm (by decide +kernel) ?_ | refine Nd.mk (by decide +kernel) ?_ | refine Nd.mk (by omega) ?_ | (refine Nd.mk ?_ ?_; focus ((repeat' (first | exact trivial | exact wkE_refl _ | refine And.intro ?_ ?_)); done)) | refine RdN.intro _ rfl (by rfl) ?_); (conv => whnf))))
      refine Nd.mk (by show (bs acc).size + 1 < _; omega) ?_
      ((conv => whnf); (repeat ((first | refine BoxN.own ?_ | refine VrN.norm (wrap_i64 (by omega)) ?_ | refine VrN.keep ?_ | refine DrawN.calm (by decide +kernel) ?_ | refine Nd.mk (by decide +kernel) ?_ | refine Nd.mk (by omega) ?_ | (refine Nd.mk ?_ ?_; focus ((repeat' (first | exact trivial | exact wkE_refl _ | refine And.intro ?_ ?_)); done)) | refine RdN.intro _ rfl (by rfl) ?_); (conv => whnf))))
      refine ⟨⟨p2 ++ [c], r3, acc ++ [c]⟩, ⟨by rw [← hsp]; simp, hX, by simp; omega⟩, by show r3.length < (c :: r3).length; simp, ?_, ?_⟩
      · (repeat' (first | exact trivial | refine And.intro (by with_reducible rfl) ?_ | (with_reducible exact wkC_refl _) | (with_reducible exact wkCs_refl _) | refine And.intro ?_ ?_))
        exact av_str (bs_app acc [c])
      · refine wkH_cons ?_ (wkH_cons rfl (wkH_nil _))
        rw [ha]
  · have hop : opn r = (2, false, 1) := by rw [hq]; rfl
    have e1 : (r.take 1 == [45]) = false := by rw [hq]; rfl
    have e2 : (r.take 1 == [61]) = true := by rw [hq]; rfl
    have hat : ((pre.length + 3 : Nat) : Int) = ((pre ++ (60 :: 37 :: r).take (2 + 1)).length : Int) := by rw [hq]; simp
    rw [hop]
    simp only [Bool.false_eq_true, if_false]
    ((conv => whnf); (repeat ((first | refine BoxN.own ?_ | refine VrN.norm (wrap_i64 (by omega)) ?_ | refine VrN.keep ?_ | refine DrawN.calm (by decide +kernel) ?_ | refine Nd.mk (by decide +kernel) ?_ | refine Nd.mk (by omega) ?_ | (refine Nd.mk ?_ ?_; focus ((repeat' (first | exact trivial | exact wkE_refl _ | refine And.intro ?_ ?_)); done)) | refine RdN.intro _ rfl (by rfl) ?_); (conv => whnf))))
    rw [bs_list]
    refine brdF e1 ?_
    ((conv => whnf); (repeat ((first | refine BoxN.own ?_ | refine VrN.norm (wrap_i64 (by omega)) ?_ | refine VrN.keep ?_ | refine DrawN.calm (by decide +kernel) ?_ | refine Nd.mk (by decide +kernel) ?_ | refine Nd.mk (by omega) ?_ | (refine Nd.mk ?_ ?_; focus ((repeat' (first | exact trivial | exact wkE_refl _ | refine And.intro ?_ ?_)); done)) | refine RdN.intro _ rfl (by rfl) ?_); (conv => whnf))))
    rw [bs_list]
    refine brdT e2 ?_
    have ok1 := ok
    generalize o = o1 at ok1
    ((conv => whnf); (repeat ((first | refine BoxN.own ?_ | refine VrN.norm (wrap_i64 (by omega)) ?_ | refine VrN.keep ?_ | refine DrawN.calm (by decide +kernel) ?_ | refine Nd.mk (by decide +kernel) ?_ | refine Nd.mk (by omega) ?_ | (refine Nd.mk ?_ ?_; focus ((repeat' (first | exact trivial | exact wkE_refl _ | refine And.intro ?_ ?_)); done)) | refine RdN.intro _ rfl (by rfl) ?_); (conv => whnf))))
    rw [hw2, hat]
    -- 1: bytes behind '<%' · 2: the kind · text: the text
    generalize hXd : tgN (pre ++ (60 :: 37 :: r).take (2 + 1)) (r.drop 1) [] = X
    have hol := outC_len out text (ln ((pre ++ 60 :: 37 :: r).take from_))
    refine callG (close_c (pre ++ 60 :: 37 :: r) (pre ++ (60 :: 37 :: r).take (2 + 1)).length text from_ whole out o1 ok1 hf (by omega) (by omega)) [0, 1] rfl ⟨rfl, rfl, trivial⟩ rfl fun o2 ok2 => ?_
    generalize outC out text (ln ((pre ++ 60 :: 37 :: r).take from_)) = out1 at *
    obtain ⟨ob, oc⟩ := o2
    ((conv => whnf); (repeat ((first | refine BoxN.own ?_ | refine VrN.norm (wrap_i64 (by omega)) ?_ | refine VrN.keep ?_ | refine DrawN.calm (by decide +kernel) ?_ | refine Nd.mk (by decide +kernel) ?_ | refine Nd.mk (by omega) ?_ | (refine Nd.mk ?_ ?_; focus ((repeat' (first | exact trivial | exact wkE_refl _ | refine And.intro ?_ ?_)); done)) | refine RdN.intro _ rfl (by rfl) ?_); (conv => whnf))))
    refine LoopN.intro (List UInt8 × List UInt8 × List UInt8) (fun ⟨p2, r2, acc⟩ => p2 ++ r2 = pre ++ 60 :: 37 :: r ∧ tgN p2 r2 acc = X ∧ acc.length ≤ p2.length) (fun ⟨_, _, acc⟩ => mkS Tryz.f43.ntmps 0 [(0, .c (.lp 0 0)), (2, .c (.v (.bool false))), (3, .c (.v (.int .i64 (pre.length : Int)))), (4, .c (.v (.int .i64 2))), (5, .c (.v (.string (bs acc))))])
      (fun ⟨p2, _, _⟩ => QH ⟨pre ++ 60 :: 37 :: r, p2.length, [], from_, whole, out1⟩ ⟨ob, oc⟩)
      (fun ⟨_, r2, _⟩ => r2.length) [] rfl
      (fun _ => rfl) (fun _ => rfl) (fun _ _ => QH_ok _ _) ⟨⟨pre ++ (60 :: 37 :: r).take (2 + 1), r.drop 1, []⟩, ⟨by rw [List.append_assoc, show r.drop 1 = (60 :: 37 :: r).drop (2 + 1) from rfl, List.take_append_drop], hXd, by simp⟩, ?_, wkH_refl _⟩ ?_
    · (repeat' (first | exact trivial | refine And.intro (by with_reducible rfl) ?_ | (with_reducible exact wkC_refl _) | (with_reducible exact wkCs_refl _) | refine And.intro ?_ ?_))
      all_goals rfl
    rintro ⟨p2, r2, acc⟩ ⟨hsp, hX, hal⟩
    have hlen := congrArg List.length hsp
    simp only [List.length_append, List.length_cons] at hlen
    cases r2 with
    | nil =>
      have hX : X = none := by rw [← hX]; rfl
      subst hX
      have hw : (p2.length : Int) < ((pre ++ 60 :: 37 :: r).length : Int) → False := by rw [← hsp]; simp
      ((conv => whnf); (repeat ((first | refine BoxN.own ?_ | refine VrN.norm (wrap_i64 (by omega)) ?_ | refine VrN.keep ?_ | refine DrawN.calm (by decide +kernel) ?_ | refine Nd.mk (by decide +kernel) ?_ | refine Nd.mk (by omega) ?_ | (refine Nd.mk ?_ ?_; focus ((repeat' (first | exact trivial | exact wkE_refl _ | refine And.intro ?_ ?_)); done)) | refine RdN.intro _ rfl (by rfl) ?_); (conv => whnf))))
      rw [bs_size]
      refine brd_dec (fun h => (hw h).elim) (fun _ => ?_)
      ((conv => whnf); (repeat ((first | refine BoxN.own ?_ | refine VrN.norm (wrap_i64 (by omega)) ?_ | refine VrN.keep ?_ | refine DrawN.calm (by decide +kernel) ?_ | refine Nd.mk (by decide +kernel) ?_ | refine Nd.mk (by omega) ?_ | (refine Nd.mk ?_ ?_; focus ((repeat' (first | exact trivial | exact wkE_refl _ | refine And.intro ?_ ?_)); done)) | refine RdN.intro _ rfl (by rfl) ?_); (conv => whnf))))
      exact ⟨(⟨pre ++ 60 :: 37 :: r, pre.length, [], from_, whole, out1⟩, ⟨ob, oc⟩), ⟨ok2, rfl, rfl, hf, rfl⟩, rfl, wkH_refl _⟩
    | cons c r3 =>
      simp only [List.length_cons] at hlen
      rw [tgN_cons] at hX
      have hw : (p2.length : Int) < ((pre ++ 60 :: 37 :: r).length : Int) := by rw [← hsp]; simp; omega
      have hac : (bs acc).size ≤ 1000000 := by rw [bs_size]; omega
      have hb0 : byteAt (bs (c :: r3)) 0 = (c.toNat : Int) := byteAt_get rfl
      ((conv => whnf); (repeat ((first | refine BoxN.own ?_ | refine VrN.norm (wrap_i64 (by omega)) ?_ | refine VrN.keep ?_ | refine DrawN.calm (by decide +kernel) ?_ | refine Nd.mk (by decide +kernel) ?_ | refine Nd.mk (by omega) ?_ | (refine Nd.mk ?_ ?_; focus ((repeat' (first | exact trivial | exact wkE_refl _ | refine And.intro ?_ ?_)); done)) | refine RdN.intro _ rfl (by rfl) ?_); (conv => whnf))))
      rw [bs_size]
      refine brd_dec (fun _ => ?_) (fun h => absurd hw h)
      ((conv => whnf); (repeat ((first | refine BoxN.own ?_ | refine VrN.norm (wrap_i64 (by omega)) ?_ | refine VrN.keep ?_ | refine DrawN.calm (by decide +kernel) ?_ | refine Nd.mk (by decide +kernel) ?_ | refine Nd.mk (by omega) ?_ | (refine Nd.mk ?_ ?_; focus ((repeat' (first | exact trivial | exact wkE_refl _ | refine And.intro ?_ ?_)); done)) | refine RdN.intro _ rfl (by rfl) ?_); (conv => whnf))))
      refine ReadW.sl_at p2 (c :: r3) hsp.symm rfl (by kernel_rfl) rfl rfl rfl ?_
      (((conv => whnf); (repeat ((first | refine BoxN.own ?_ | refine VrN.norm (wrap_i64 (by omega)) ?_ | refine VrN.keep ?_ | refine DrawN.calm (by decide +kernel) ?_ | refine Nd.mk (by decide +kernel) ?_ | refine Nd.mk (by omega) ?_ | (refine Nd.mk ?_ ?_; focus ((repeat' (first | exact trivial | exact wkE_refl _ | refine And.intro ?_ ?_)); done)) | refine RdN.intro _ rfl (by rfl) ?_); (conv => whnf)))); first | refine call1 (HasPrefix_c (c :: r3) [37, 37, 62] _) ?_ | refine callQ (HasPrefix_c (c :: r3) [37, 37, 62] _) ?_)
      ((conv => whnf); (repeat ((first | refine BoxN.own ?_ | refine VrN.norm (wrap_i64 (by omega)) ?_ | refine VrN.keep ?_ | refine DrawN.calm (by decide +kernel) ?_ | refine Nd.mk (by decide +kernel) ?_ | refine Nd.mk (by omega) ?_ | (refine Nd.mk ?_ ?_; focus ((repeat' (first | exact trivial | exact wkE_refl _ | refine And.intro ?_ ?_)); done)) | refine RdN.intro _ rfl (by rfl) ?_); (conv => whnf))))
      refine brd_intro (fun h1 => ?_) (fun h1 => ?_)
      · rw [if_pos h1] at hX
        obtain ⟨q, hq⟩ := pfx_split h1
        have htk : (c :: r3).take 3 = [37, 37, 62] := pfx_take h1
        have hdr : (c :: r3).drop 3 = q := by rw [hq]; rfl
        rw [htk, hdr] at hX
        have hq3 := congrArg List.length hq
        simp only [List.length_append, List.length_cons, List.length_nil] at hq3
        have ha : IntKind.wrap .i64 ((p2.length : Int) + 3) = ((p2 ++ [37, 37, 62]).length : Int) := by rw [wrap_i64 (by omega)]; simp
        ((conv => whnf); (repeat ((first | refine BoxN.own ?_ | refine VrN.norm (wrap_i64 (by omega)) ?_ | refine VrN.keep ?_ | refine DrawN.calm (by decide +kernel) ?_ | refine Nd.mk (by decide +kernel) ?_ | refine Nd.mk (by omega) ?_ | (refine Nd.mk ?_ ?_; focus ((repeat' (first | exact trivial | exact wkE_refl _ | refine And.intro ?_ ?_)); done)) | refine RdN.intro _ rfl (by rfl) ?_); (conv => whnf))))
        refine Nd.mk (by show (bs acc).size + 2 < _; omega) ?_
        ((conv => whnf); (repeat ((first | refine BoxN.own ?_ | refine VrN.norm (wrap_i64 (by omega)) ?_ | refine VrN.keep ?_ | refine DrawN.calm (by decide +kernel) ?_ | refine Nd.mk (by decide +kernel) ?_ | refine Nd.mk (by omega) ?_ | (refine Nd.mk ?_ ?_; focus ((repeat' (first | exact trivial | exact wkE_refl _ | refine And.intro ?_ ?_)); done)) | refine RdN.intro _ rfl (by rfl) ?_); (conv => whnf))))
        refine ⟨⟨p2 ++ [37, 37, 62], q, acc ++ [37, 62]⟩, ⟨by rw [← hsp, hq]; simp, hX, by simp; omega⟩, by show q.length < (c :: r3).length; rw [hq]; simp; omega, ?_, ?_⟩
        · (repeat' (first | exact trivial | refine And.intro (by with_reducible rfl) ?_ | (with_reducible exact wkC_refl _) | (with_reducible exact wkCs_refl _) | refine And.intro ?_ ?_))
          exact av_str (bs_app acc [37, 62])
        · refine wkH_cons ?_ (wkH_cons rfl (wkH_nil _))
          rw [ha]
      rw [if_neg (by simp [h1])] at hX
      (((conv => whnf); (repeat ((first | refine BoxN.own ?_ | refine VrN.norm (wrap_i64 (by omega)) ?_ | refine VrN.keep ?_ | refine DrawN.calm (by decide +kernel) ?_ | refine Nd.mk (by decide +kernel) ?_ | refine Nd.mk (by omega) ?_ | (refine Nd.mk ?_ ?_; focus ((repeat' (first | exact trivial | exact wkE_refl _ | refine And.intro ?_ ?_)); done)) | refine RdN.intro _ rfl (by rfl) ?_); (conv => whnf)))); first | refine call1 (HasPrefix_c (c :: r3) [37, 62] _) ?_ | refine callQ (HasPrefix_c (c :: r3) [37, 62] _) ?_)
      ((conv => whnf); (repeat ((first | refine BoxN.own ?_ | refine VrN.norm (wrap_i64 (by omega)) ?_ | refine VrN.keep ?_ | refine DrawN.calm (by decide +kernel) ?_ | refine Nd.mk (by decide +kernel) ?_ | refine Nd.mk (by omega) ?_ | (refine Nd.mk ?_ ?_; focus ((repeat' (first | exact trivial | exact wkE_refl _ | refine And.intro ?_ ?_)); done)) | refine RdN.intro _ rfl (by rfl) ?_); (conv => whnf))))
      refine brd_intro (fun h3 => ?_) (fun h3 => ?_)
      · have hc : c = 37 := by simp [List.isPrefixOf] at h3; exact h3.1.symm
        have h2 : [45, 37, 62].isPrefixOf (c :: r3) = false := by subst hc; rfl
        rw [if_neg (by simp [h2]), if_pos h3] at hX
        have htk : (c :: r3).take 2 = [37, 62] := pfx_take h3
        rw [htk] at hX
        have ha : IntKind.wrap .i64 ((p2.length : Int) + 2) = ((p2 ++ [37, 62]).length : Int) := by rw [wrap_i64 (by omega)]; simp
        ((conv => whnf); (repeat ((first | refine BoxN.own ?_ | refine VrN.norm (wrap_i64 (by omega)) ?_ | refine VrN.keep ?_ | refine DrawN.calm (by decide +kernel) ?_ | refine Nd.mk (by decide +kernel) ?_ | refine Nd.mk (by omega) ?_ | (refine Nd.mk ?_ ?_; focus ((repeat' (first | exact trivial | exact wkE_refl _ | refine And.intro ?_ ?_)); done)) | refine RdN.intro _ rfl (by rfl) ?_); (conv => whnf))))
        refine Nd.mk ⟨by omega, by rw [bs_size]; simp⟩ ?_
        rw [show ((0 : Int).toNat) = 0 from rfl, hb0]
        ((conv => whnf); (repeat ((first | refine BoxN.own ?_ | refine VrN.norm (wrap_i64 (by omega)) ?_ | refine VrN.keep ?_ | refine DrawN.calm (by decide +kernel) ?_ | refine Nd.mk (by decide +kernel) ?_ | refine Nd.mk (by omega) ?_ | (refine Nd.mk ?_ ?_; focus ((repeat' (first | exact trivial | exact wkE_refl _ | refine And.intro ?_ ?_)); done)) | refine RdN.intro _ rfl (by rfl) ?_); (conv => whnf))))
        refine brd_eq (fun h4 => absurd h4 (by rw [hc]; decide)) (fun _ => ?_)
        -- 2: the kind · (p2 ++ [37, 62]): the prefix behind the tag · ha: its place
        ((conv => whnf); (repeat ((first | refine BoxN.own ?_ | refine VrN.norm (wrap_i64 (by omega)) ?_ | refine VrN.keep ?_ | refine DrawN.calm (by decide +kernel) ?_ | refine Nd.mk (by decide +kernel) ?_ | refine Nd.mk (by omega) ?_ | (refine Nd.mk ?_ ?_; focus ((repeat' (first | exact trivial | exact wkE_refl _ | refine And.intro ?_ ?_)); done)) | refine RdN.intro _ rfl (by rfl) ?_); (conv => whnf))))
        refine DrawN.plan [0, 1, 5, 6, 10, 12] [(2, 1), (3, 1), (4, 1), (7, 1), (8, 1), (9, 1), (11, 0), (13, 1), (14, 0)] [(15, 0), (16, 0), (17, 0), (18, 0)] (by decide +kernel) ?_
        (((conv => whnf); (repeat ((first | refine BoxN.own ?_ | refine VrN.norm (wrap_i64 (by omega)) ?_ | refine VrN.keep ?_ | refine DrawN.calm (by decide +kernel) ?_ | refine Nd.mk (by decide +kernel) ?_ | refine Nd.mk (by omega) ?_ | (refine Nd.mk ?_ ?_; focus ((repeat' (first | exact trivial | exact wkE_refl _ | refine And.intro ?_ ?_)); done)) | refine RdN.intro _ rfl (by rfl) ?_); (conv => whnf)))); first | refine call1 (hL _) ?_ | refine callQ (hL _) ?_)
        ((conv => whnf); (repeat ((first | refine BoxN.own ?_ | refine VrN.norm (wrap_i64 (by omega)) ?_ | refine VrN.keep ?_ | refine DrawN.calm (by decide +kernel) ?_ | refine Nd.mk (by decide +kernel) ?_ | refine Nd.mk (by omega) ?_ | (refine Nd.mk ?_ ?_; focus ((repeat' (first | exact trivial | exact wkE_refl _ | refine And.intro ?_ ?_)); done)) | refine RdN.intro _ rfl (by rfl) ?_); (conv => whnf))))
        refine Nd.mk ⟨by omega, rfl, rfl⟩ ?_
        (conv => whnf)
        refine AppN.grow 1 (partsC out1) _ rfl rfl ⟨by omega, ⟨by show (out1.length + 1) * 32 ≤ _; omega, by show out1.length + 1 < _; omega⟩, by decide⟩ fun b' cap' h3 h4 => ?_
        ((conv => whnf); (repeat ((first | refine BoxN.own ?_ | refine VrN.norm (wrap_i64 (by omega)) ?_ | refine VrN.keep ?_ | refine DrawN.calm (by decide +kernel) ?_ | refine Nd.mk (by decide +kernel) ?_ | refine Nd.mk (by omega) ?_ | (refine Nd.mk ?_ ?_; focus ((repeat' (first | exact trivial | exact wkE_refl _ | refine And.intro ?_ ?_)); done)) | refine RdN.intro _ rfl (by rfl) ?_); (conv => whnf))))
        refine ⟨(⟨pre ++ 60 :: 37 :: r, ((p2 ++ [37, 62])).length, [], from_, whole, out1 ++ [⟨2, ln pre, acc⟩]⟩, ⟨some b', cap'⟩), ⟨⟨(fun h => by cases h), by rw [List.length_append]; exact h3, fun h => by have h : cap' = 0 := h; omega⟩, rfl, rfl, hf, by rw [← hX]; exact ⟨rfl, rfl⟩⟩, by rw [← hX]; rfl, ?_⟩
        refine wkH_cons ?_ (wkH_cons ?_ (wkH_nil _))
        · rw [ha]
          simp [at0, bs]
        · simp [at0, partsC_app]
          exact ⟨rfl, rfl⟩
      (((conv => whnf); (repeat ((first | refine BoxN.own ?_ | refine VrN.norm (wrap_i64 (by omega)) ?_ | refine VrN.keep ?_ | refine DrawN.calm (by decide +kernel) ?_ | refine Nd.mk (by decide +kernel) ?_ | refine Nd.mk (by omega) ?_ | (refine Nd.mk ?_ ?_; focus ((repeat' (first | exact trivial | exact wkE_refl _ | refine And.intro ?_ ?_)); done)) | refine RdN.intro _ rfl (by rfl) ?_); (conv => whnf)))); first | refine call1 (HasPrefix_c (c :: r3) [45, 37, 62] _) ?_ | refine callQ (HasPrefix_c (c :: r3) [45, 37, 62] _) ?_)
      ((conv => whnf); (repeat ((first | refine BoxN.own ?_ | refine VrN.norm (wrap_i64 (by omega)) ?_ | refine VrN.keep ?_ | refine DrawN.calm (by decide +kernel) ?_ | refine Nd.mk (by decide +kernel) ?_ | refine Nd.mk (by omega) ?_ | (refine Nd.mk ?_ ?_; focus ((repeat' (first | exact trivial | exact wkE_refl _ | refine And.intro ?_ ?_)); done)) | refine RdN.intro _ rfl (by rfl) ?_); (conv => whnf))))
      refine brd_intro (fun h2 => ?_) (fun h2 => ?_)
      · have hc : c = 45 := by simp [List.isPrefixOf] at h2; exact h2.1.symm
        rw [if_pos h2] at hX
        obtain ⟨q, hq⟩ := pfx_split h2
        have htk : (c :: r3).take 3 = [45, 37, 62] := pfx_take h2
        have hdr : (c :: r3).drop 3 = q := by rw [hq]; rfl
        have hq3 := congrArg List.length hq
        simp only [List.length_append, List.length_cons, List.length_nil] at hq3
        have ha : IntKind.wrap .i64 (IntKind.wrap .i64 ((p2.length : Int) + 2) + 1) = ((p2 ++ [45, 37, 62]).length : Int) := by rw [wrap_i64 (x := (p2.length : Int) + 2) (by omega), wrap_i64 (by omega)]; simp; omega
        rw [hdr] at hX
        ((conv => whnf); (repeat ((first | refine BoxN.own ?_ | refine VrN.norm (wrap_i64 (by omega)) ?_ | refine VrN.keep ?_ | refine DrawN.calm (by decide +kernel) ?_ | refine Nd.mk (by decide +kernel) ?_ | refine Nd.mk (by omega) ?_ | (refine Nd.mk ?_ ?_; focus ((repeat' (first | exact trivial | exact wkE_refl _ | refine And.intro ?_ ?_)); done)) | refine RdN.intro _ rfl (by rfl) ?_); (conv => whnf))))
        refine Nd.mk ⟨by omega, by rw [bs_size]; simp⟩ ?_
        rw [show ((0 : Int).toNat) = 0 from rfl, hb0]
        ((conv => whnf); (repeat ((first | refine BoxN.own ?_ | refine VrN.norm (wrap_i64 (by omega)) ?_ | refine VrN.keep ?_ | refine DrawN.calm (by decide +kernel) ?_ | refine Nd.mk (by decide +kernel) ?_ | refine Nd.mk (by omega) ?_ | (refine Nd.mk ?_ ?_; focus ((repeat' (first | exact trivial | exact wkE_refl _ | refine And.intro ?_ ?_)); done)) | refine RdN.intro _ rfl (by rfl) ?_); (conv => whnf))))
        refine brd_eq (fun _ => ?_) (fun h4 => absurd (by rw [hc]; rfl) h4)
        ((conv => whnf); (repeat ((first | refine BoxN.own ?_ | refine VrN.norm (wrap_i64 (by omega)) ?_ | refine VrN.keep ?_ | refine DrawN.calm (by decide +kernel) ?_ | refine Nd.mk (by decide +kernel) ?_ | refine Nd.mk (by omega) ?_ | (refine Nd.mk ?_ ?_; focus ((repeat' (first | exact trivial | exact wkE_refl _ | refine And.intro ?_ ?_)); done)) | refine RdN.intro _ rfl (by rfl) ?_); (conv => whnf))))
        refine ReadW.sl_l 3 rfl (by kernel_rfl) rfl rfl ⟨rfl, by simp; omega⟩ ?_
        rw [hdr]
        (((conv => whnf); (repeat ((first | refine BoxN.own ?_ | refine VrN.norm (wrap_i64 (by omega)) ?_ | refine VrN.keep ?_ | refine DrawN.calm (by decide +kernel) ?_ | refine Nd.mk (by decide +kernel) ?_ | refine Nd.mk (by omega) ?_ | (refine Nd.mk ?_ ?_; focus ((repeat' (first | exact trivial | exact wkE_refl _ | refine And.intro ?_ ?_)); done)) | refine RdN.intro _ rfl (by rfl) ?_); (conv => whnf)))); first | refine call1 (HasPrefix_c q [10] _) ?_ | refine callQ (HasPrefix_c q [10] _) ?_)
        ((conv => whnf); (repeat ((first | refine BoxN.own ?_ | refine VrN.norm (wrap_i64 (by omega)) ?_ | refine VrN.keep ?_ | refine DrawN.calm (by decide +kernel) ?_ | refine Nd.mk (by decide +kernel) ?_ | refine Nd.mk (by omega) ?_ | (refine Nd.mk ?_ ?_; focus ((repeat' (first | exact trivial | exact wkE_refl _ | refine And.intro ?_ ?_)); done)) | refine RdN.intro _ rfl (by rfl) ?_); (conv => whnf))))
        refine brd_intro (fun h3 => ?_) (fun h3 => ?_)
        · rw [if_pos h3] at hX
          obtain ⟨q', hq'⟩ := pfx_split h3
          have htk4 : (c :: r3).take 4 = [45, 37, 62, 10] := by rw [hq, hq']; rfl
          rw [htk4] at hX
          have ha4 : IntKind.wrap .i64 (IntKind.wrap .i64 (IntKind.wrap .i64 ((p2.length : Int) + 2) + 1) + 1) = ((p2 ++ [45, 37, 62, 10]).length : Int) := by rw [ha, wrap_i64 (by simp; omega)]; simp; omega
          -- 2: the kind · (p2 ++ [45, 37, 62, 10]): the prefix behind the tag · ha4: its place
          ((conv => whnf); (repeat ((first | refine BoxN.own ?_ | refine VrN.norm (wrap_i64 (by omega)) ?_ | refine VrN.keep ?_ | refine DrawN.calm (by decide +kernel) ?_ | refine Nd.mk (by decide +kernel) ?_ | refine Nd.mk (by omega) ?_ | (refine Nd.mk ?_ ?_; focus ((repeat' (first | exact trivial | exact wkE_refl _ | refine And.intro ?_ ?_)); done)) | refine RdN.intro _ rfl (by rfl) ?_); (conv => whnf))))
          refine DrawN.plan [0, 1, 5, 6, 10, 12] [(2, 1), (3, 1), (4, 1), (7, 1), (8, 1), (9, 1), (11, 0), (13, 1), (14, 0)] [(15, 0), (16, 0), (17, 0), (18, 0)] (by decide +kernel) ?_
          (((conv => whnf); (repeat ((first | refine BoxN.own ?_ | refine VrN.norm (wrap_i64 (by omega)) ?_ | refine VrN.keep ?_ | refine DrawN.calm (by decide +kernel) ?_ | refine Nd.mk (by decide +kernel) ?_ | refine Nd.mk (by omega) ?_ | (refine Nd.mk ?_ ?_; focus ((repeat' (first | exact trivial | exact wkE_refl _ | refine And.intro ?_ ?_)); done)) | refine RdN.intro _ rfl (by rfl) ?_); (conv => whnf)))); first | refine call1 (hL _) ?_ | refine callQ (hL _) ?_)
          ((conv => whnf); (repeat ((first | refine BoxN.own ?_ | refine VrN.norm (wrap_i64 (by omega)) ?_ | refine VrN.keep ?_ | refine DrawN.calm (by decide +kernel) ?_ | refine Nd.mk (by decide +kernel) ?_ | refine Nd.mk (by omega) ?_ | (refine Nd.mk ?_ ?_; focus ((repeat' (first | exact trivial | exact wkE_refl _ | refine And.intro ?_ ?_)); done)) | refine RdN.intro _ rfl (by rfl) ?_); (conv => whnf))))
          refine Nd.mk ⟨by omega, rfl, rfl⟩ ?_
          (conv => whnf)
          refine AppN.grow 1 (partsC out1) _ rfl rfl ⟨by omega, ⟨by show (out1.length + 1) * 32 ≤ _; omega, by show out1.length + 1 < _; omega⟩, by decide⟩ fun b' cap' h3 h4 => ?_
          ((conv => whnf); (repeat ((first | refine BoxN.own ?_ | refine VrN.norm (wrap_i64 (by omega)) ?_ | refine VrN.keep ?_ | refine DrawN.calm (by decide +kernel) ?_ | refine Nd.mk (by decide +kernel) ?_ | refine Nd.mk (by omega) ?_ | (refine Nd.mk ?_ ?_; focus ((repeat' (first | exact trivial | exact wkE_refl _ | refine And.intro ?_ ?_)); done)) | refine RdN.intro _ rfl (by rfl) ?_); (conv => whnf))))
          refine ⟨(⟨pre ++ 60 :: 37 :: r, ((p2 ++ [45, 37, 62, 10])).length, [], from_, whole, out1 ++ [⟨2, ln pre, acc⟩]⟩, ⟨some b', cap'⟩), ⟨⟨(fun h => by cases h), by rw [List.length_append]; exact h3, fun h => by have h : cap' = 0 := h; omega⟩, rfl, rfl, hf, by rw [← hX]; exact ⟨rfl, rfl⟩⟩, by rw [← hX]; rfl, ?_⟩
          refine wkH_cons ?_ (wkH_cons ?_ (wkH_nil _))
          · rw [ha4]
            simp [at0, bs]
          · simp [at0, partsC_app]
            exact ⟨rfl, rfl⟩
        · rw [if_neg (by simp [h3]), htk] at hX
          -- 2: the kind · (p2 ++ [45, 37, 62]): the prefix behind the tag · ha: its place
          ((conv => whnf); (repeat ((first | refine BoxN.own ?_ | refine VrN.norm (wrap_i64 (by omega)) ?_ | refine VrN.keep ?_ | refine DrawN.calm (by decide +kernel) ?_ | refine Nd.mk (by decide +kernel) ?_ | refine Nd.mk (by omega) ?_ | (refine Nd.mk ?_ ?_; focus ((repeat' (first | exact trivial | exact wkE_refl _ | refine And.intro ?_ ?_)); done)) | refine RdN.intro _ rfl (by rfl) ?_); (conv => whnf))))
          refine DrawN.plan [0, 1, 5, 6, 10, 12] [(2, 1), (3, 1), (4, 1), (7, 1), (8, 1), (9, 1), (11, 0), (13, 1), (14, 0)] [(15, 0), (16, 0), (17, 0), (18, 0)] (by decide +kernel) ?_
          (((conv => whnf); (repeat ((first | refine BoxN.own ?_ | refine VrN.norm (wrap_i64 (by omega)) ?_ | refine VrN.keep ?_ | refine DrawN.calm (by decide +kernel) ?_ | refine Nd.mk (by decide +kernel) ?_ | refine Nd.mk (by omega) ?_ | (refine Nd.mk ?_ ?_; focus ((repeat' (first | exact trivial | exact wkE_refl _ | refine And.intro ?_ ?_)); done)) | refine RdN.intro _ rfl (by rfl) ?_); (conv => whnf)))); first | refine call1 (hL _) ?_ | refine callQ (hL _) ?_)
          ((conv => whnf); (repeat ((first | refine BoxN.own ?_ | refine VrN.norm (wrap_i64 (by omega)) ?_ | refine VrN.keep ?_ | refine DrawN.calm (by decide +kernel) ?_ | refine Nd.mk (by decide +kernel) ?_ | refine Nd.mk (by omega) ?_ | (refine Nd.mk ?_ ?_; focus ((repeat' (first | exact trivial | exact wkE_refl _ | refine And.intro ?_ ?_)); done)) | refine RdN.intro _ rfl (by rfl) ?_); (conv => whnf))))
          refine Nd.mk ⟨by omega, rfl, rfl⟩ ?_
          (conv => whnf)
          refine AppN.grow 1 (partsC out1) _ rfl rfl ⟨by omega, ⟨by show (out1.length + 1) * 32 ≤ _; omega, by show out1.length + 1 < _; omega⟩, by decide⟩ fun b' cap' h3 h4 => ?_
          ((conv => whnf); (repeat ((first | refine BoxN.own ?_ | refine VrN.norm (wrap_i64 (by omega)) ?_ | refine VrN.keep ?_ | refine DrawN.calm (by decide +kernel) ?_ | refine Nd.mk (by decide +kernel) ?_ | refine Nd.mk (by omega) ?_ | (refine Nd.mk ?_ ?_; focus ((repeat' (first | exact trivial | exact wkE_refl _ | refine And.intro ?_ ?_)); done)) | refine RdN.intro _ rfl (by rfl) ?_); (conv => whnf))))
          refine ⟨(⟨pre ++ 60 :: 37 :: r, ((p2 ++ [45, 37, 62])).length, [], from_, whole, out1 ++ [⟨2, ln pre, acc⟩]⟩, ⟨some b', cap'⟩), ⟨⟨(fun h => by cases h), by rw [List.length_append]; exact h3, fun h => by have h : cap' = 0 := h; omega⟩, rfl, rfl, hf, by rw [← hX]; exact ⟨rfl, rfl⟩⟩, by rw [← hX]; rfl, ?_⟩
          refine wkH_cons ?_ (wkH_cons ?_ (wkH_nil _))
          · rw [ha]
            simp [at0, bs]
          · simp [at0, partsC_app]
            exact ⟨rfl, rfl⟩
      rw [if_neg (by simp [h2]), if_neg (by simp [h3])] at hX
      have ha : IntKind.wrap .i64 ((p2.length : Int) + 1) = ((p2 ++ [c]).length : Int) := by rw [wrap_i64 (by omega)]; simp
      ((conv => whnf); (repeat ((first | refine BoxN.own ?_ | refine VrN.norm (wrap_i64 (by omega)) ?_ | refine VrN.keep ?_ | refine DrawN.calm (by decide +kernel) ?_ | refine Nd.mk (by decide +kernel) ?_ | refine Nd.mk (by omega) ?_ | (refine Nd.mk ?_ ?_; focus ((repeat' (first | exact trivial | exact wkE_refl _ | refine And.intro ?_ ?_)); done)) | refine RdN.intro _ rfl (by rfl) ?_); (conv => whnf))))
      refine ReadW.sl_h 1 rfl (by kernel_rfl) rfl rfl ⟨rfl, by simp⟩ ?_
      rw [show (c :: r3).take 1 = [c] from rfl]
      ((conv => whnf); (repeat ((first | refine BoxN.own ?_ | refine VrN.norm (wrap_i64 (by omega)) ?_ | refine VrN.keep ?_ | refine DrawN.calm (by decide +kernel) ?_ | refine Nd.mk (by decide +kernel) ?_ | refine Nd.mk (by omega) ?_ | (refine Nd.mk ?_ ?_; focus ((repeat' (first | exact trivial | exact wkE_refl _ | refine And.intro ?_ ?_)); done)) | refine RdN.intro _ rfl (by rfl) ?_); (conv => whnf))))
      refine Nd.mk (by show (bs acc).size + 1 < _; omega) ?_
      ((conv => whnf); (repeat ((first | refine BoxN.own ?_ | refine VrN.norm (wrap_i64 (by omega)) ?_ | refine VrN.keep ?_ | refine DrawN.calm (by decide +kernel) ?_ | refine Nd.mk (by decide +kernel) ?_ | refine Nd.mk (by omega) ?_ | (refine Nd.mk ?_ ?_; focus ((repeat' (first | exact trivial | exact wkE_refl _ | refine And.intro ?_ ?_)); done)) | refine RdN.intro _ rfl (by rfl) ?_); (conv => whnf))))
      refine ⟨⟨p2 ++ [c], r3, acc ++ [c]⟩, ⟨by rw [← hsp]; simp, hX, by simp; omega⟩, by show r3.length < (c :: r3).length; simp, ?_, ?_⟩
      · (repeat' (first | exact trivial | refine And.intro (by with_reducible rfl) ?_ | (with_reducible exact wkC_refl _) | (with_reducible exact wkCs_refl _) | refine And.intro ?_ ?_))
        exact av_str (bs_app acc [c])
      · refine wkH_cons ?_ (wkH_cons rfl (wkH_nil _))
        rw [ha]
  · have hop : opn r = (3, false, 1) := by rw [hq]; rfl
    have e1 : (r.take 1 == [45]) = false := by rw [hq]; rfl
    have e2 : (r.take 1 == [61]) = false := by rw [hq]; rfl
    have e3 : (r.take 1 == [35]) = true := by rw [hq]; rfl
    have hat : ((pre.length + 3 : Nat) : Int) = ((pre ++ (60 :: 37 :: r).take (2 + 1)).length : Int) := by rw [hq]; simp
    rw [hop]
    simp only [Bool.false_eq_true, if_false]
    ((conv => whnf); (repeat ((first | refine BoxN.own ?_ | refine VrN.norm (wrap_i64 (by omega)) ?_ | refine VrN.keep ?_ | refine DrawN.calm (by decide +kernel) ?_ | refine Nd.mk (by decide +kernel) ?_ | refine Nd.mk (by omega) ?_ | (refine Nd.mk ?_ ?_; focus ((repeat' (first | exact trivial | exact wkE_refl _ | refine And.intro ?_ ?_)); done)) | refine RdN.intro _ rfl (by rfl) ?_); (conv => whnf))))
    rw [bs_list]
    refine brdF e1 ?_
    ((conv => whnf); (repeat ((first | refine BoxN.own ?_ | refine VrN.norm (wrap_i64 (by omega)) ?_ | refine VrN.keep ?_ | refine DrawN.calm (by decide +kernel) ?_ | refine Nd.mk (by decide +kernel) ?_ | refine Nd.mk (by omega) ?_ | (refine Nd.mk ?_ ?_; focus ((repeat' (first | exact trivial | exact wkE_refl _ | refine And.intro ?_ ?_)); done)) | refine RdN.intro _ rfl (by rfl) ?_); (conv => whnf))))
    rw [bs_list]
    refine brdF e2 ?_
    ((conv => whnf); (repeat ((first | refine BoxN.own ?_ | refine VrN.norm (wrap_i64 (by omega)) ?_ | refine VrN.keep ?_ | refine DrawN.calm (by decide +kernel) ?_ | refine Nd.mk (by decide +kernel) ?_ | refine Nd.mk (by omega) ?_ | (refine Nd.mk ?_ ?_; focus ((repeat' (first | exact trivial | exact wkE_refl _ | refine And.intro ?_ ?_)); done)) | refine RdN.intro _ rfl (by rfl) ?_); (conv => whnf))))
    rw [bs_list]
    refine brdT e3 ?_
    have ok1 := ok
    generalize o = o1 at ok1
    ((conv => whnf); (repeat ((first | refine BoxN.own ?_ | refine VrN.norm (wrap_i64 (by omega)) ?_ | refine VrN.keep ?_ | refine DrawN.calm (by decide +kernel) ?_ | refine Nd.mk (by decide +kernel) ?_ | refine Nd.mk (by omega) ?_ | (refine Nd.mk ?_ ?_; focus ((repeat' (first | exact trivial | exact wkE_refl _ | refine And.intro ?_ ?_)); done)) | refine RdN.intro _ rfl (by rfl) ?_); (conv => whnf))))
    rw [hw2, hat]
    -- 1: bytes behind '<%' · 3: the kind · text: the text
    generalize hXd : tgN (pre ++ (60 :: 37 :: r).take (2 + 1)) (r.drop 1) [] = X
    have hol := outC_len out text (ln ((pre ++ 60 :: 37 :: r).take from_))
    refine callG (close_c (pre ++ 60 :: 37 :: r) (pre ++ (60 :: 37 :: r).take (2 + 1)).length text from_ whole out o1 ok1 hf (by omega) (by omega)) [0, 1] rfl ⟨rfl, rfl, trivial⟩ rfl fun o2 ok2 => ?_
    generalize outC out text (ln ((pre ++ 60 :: 37 :: r).take from_)) = out1 at *
    obtain ⟨ob, oc⟩ := o2
    ((conv => whnf); (repeat ((first | refine BoxN.own ?_ | refine VrN.norm (wrap_i64 (by omega)) ?_ | refine VrN.keep ?_ | refine DrawN.calm (by decide +kernel) ?_ | refine Nd.mk (by decide +kernel) ?_ | refine Nd.mk (by omega) ?_ | (refine Nd.mk ?_ ?_; focus ((repeat' (first | exact trivial | exact wkE_refl _ | refine And.intro ?_ ?_)); done)) | refine RdN.intro _ rfl (by rfl) ?_); (conv => whnf))))
    refine LoopN.intro (List UInt8 × List UInt8 × List UInt8) (fun ⟨p2, r2, acc⟩ => p2 ++ r2 = pre ++ 60 :: 37 :: r ∧ tgN p2 r2 acc = X ∧ acc.length ≤ p2.length) (fun ⟨_, _, acc⟩ => mkS Tryz.f43.ntmps 0 [(0, .c (.lp 0 0)), (2, .c (.v (.bool false))), (3, .c (.v (.int .i64 (pre.length : Int)))), (4, .c (.v (.int .i64 3))), (5, .c (.v (.string (bs acc))))])
      (fun ⟨p2, _, _⟩ => QH ⟨pre ++ 60 :: 37 :: r, p2.length, [], from_, whole, out1⟩ ⟨ob, oc⟩)
      (fun ⟨_, r2, _⟩ => r2.length) [] rfl
      (fun _ => rfl) (fun _ => rfl) (fun _ _ => QH_ok _ _) ⟨⟨pre ++ (60 :: 37 :: r).take (2 + 1), r.drop 1, []⟩, ⟨by rw [List.append_assoc, show r.drop 1 = (60 :: 37 :: r).drop (2 + 1) from rfl, List.take_append_drop], hXd, by simp⟩, ?_, wkH_refl _⟩ ?_
    · (repeat' (first | exact trivial | refine And.intro (by with_reducible rfl) ?_ | (with_reducible exact wkC_refl _) | (with_reducible exact wkCs_refl _) | refine And.intro ?_ ?_))
      all_goals rfl
    rintro ⟨p2, r2, acc⟩ ⟨hsp, hX, hal⟩
    have hlen := congrArg List.length hsp
    simp only [List.length_append, List.length_cons] at hlen
    cases r2 with
    | nil =>
      have hX : X = none := by rw [← hX]; rfl
      subst hX
      have hw : (p2.length : Int) < ((pre ++ 60 :: 37 :: r).length : Int) → False := by rw [← hsp]; simp
      ((conv => whnf); (repeat ((first | refine BoxN.own ?_ | refine VrN.norm (wrap_i64 (by omega)) ?_ | refine VrN.keep ?_ | refine DrawN.calm (by decide +kernel) ?_ | refine Nd.mk (by decide +kernel) ?_ | refine Nd.mk (by omega) ?_ | (refine Nd.mk ?_ ?_; focus ((repeat' (first | exact trivial | exact wkE_refl _ | refine And.intro ?_ ?_)); done)) | refine RdN.intro _ rfl (by rfl) ?_); (conv => whnf))))
      rw [bs_size]
      refine brd_dec (fun h => (hw h).elim) (fun _ => ?_)
      ((conv => whnf); (repeat ((first | refine BoxN.own ?_ | refine VrN.norm (wrap_i64 (by omega)) ?_ | refine VrN.keep ?_ | refine DrawN.calm (by decide +kernel) ?_ | refine Nd.mk (by decide +kernel) ?_ | refine Nd.mk (by omega) ?_ | (refine Nd.mk ?_ ?_; focus ((repeat' (first | exact trivial | exact wkE_refl _ | refine And.intro ?_ ?_)); done)) | refine RdN.intro _ rfl (by rfl) ?_); (conv => whnf))))
      exact ⟨(⟨pre ++ 60 :: 37 :: r, pre.length, [], from_, whole, out1⟩, ⟨ob, oc⟩), ⟨ok2, rfl, rfl, hf, rfl⟩, rfl, wkH_refl _⟩
    | cons c r3 =>
      simp only [List.length_cons] at hlen
      rw [tgN_cons] at hX
      have hw : (p2.length : Int) < ((pre ++ 60 :: 37 :: r).length : Int) := by rw [← hsp]; simp; omega
      have hac : (bs acc).size ≤ 1000000 := by rw [bs_size]; omega
      have hb0 : byteAt (bs (c :: r3)) 0 = (c.toNat : Int) := byteAt_get rfl
      ((conv => whnf); (repeat ((first | refine BoxN.own ?_ | refine VrN.norm (wrap_i64 (by omega)) ?_ | refine VrN.keep ?_ | refine DrawN.calm (by decide +kernel) ?_ | refine Nd.mk (by decide +kernel) ?_ | refine Nd.mk (by omega) ?_ | (refine Nd.mk ?_ ?_; focus ((repeat' (first | exact trivial | exact wkE_refl _ | refine And.intro ?_ ?_)); done)) | refine RdN.intro _ rfl (by rfl) ?_); (conv => whnf))))
      rw [bs_size]
      refine brd_dec (fun _ => ?_) (fun h => absurd hw h)
      ((conv => whnf); (repeat ((first | refine BoxN.own ?_ | refine VrN.norm (wrap_i64 (by omega)) ?_ | refine VrN.keep ?_ | refine DrawN.calm (by decide +kernel) ?_ | refine Nd.mk (by decide +kernel) ?_ | refine Nd.mk (by omega) ?_ | (refine Nd.mk ?_ ?_; focus ((repeat' (first | exact trivial | exact wkE_refl _ | refine And.intro ?_ ?_)); done)) | refine RdN.intro _ rfl (by rfl) ?_); (conv => whnf))))
      refine ReadW.sl_at p2 (c :: r3) hsp.symm rfl (by kernel_rfl) rfl rfl rfl ?_
      (((conv => whnf); (repeat ((first | refine BoxN.own ?_ | refine VrN.norm (wrap_i64 (by omega)) ?_ | refine VrN.keep ?_ | refine DrawN.calm (by decide +kernel) ?_ | refine Nd.mk (by decide +kernel) ?_ | refine Nd.mk (by omega) ?_ | (refine Nd.mk ?_ ?_; focus ((repeat' (first | exact trivial | exact wkE_refl _ | refine And.intro ?_ ?_)); done)) | refine RdN.intro _ rfl (by rfl) ?_); (conv => whnf)))); first | refine call1 (HasPrefix_c (c :: r3) [37, 37, 62] _) ?_ | refine callQ (HasPrefix_c (c :: r3) [37, 37, 62] _) ?_)
      ((conv => whnf); (repeat ((first | refine BoxN.own ?_ | refine VrN.norm (wrap_i64 (by omega)) ?_ | refine VrN.keep ?_ | refine DrawN.calm (by decide +kernel) ?_ | refine Nd.mk (by decide +kernel) ?_ | refine Nd.mk (by omega) ?_ | (refine Nd.mk ?_ ?_; focus ((repeat' (first | exact trivial | exact wkE_refl _ | refine And.intro ?_ ?_)); done)) | refine RdN.intro _ rfl (by rfl) ?_); (conv => whnf))))
      refine brd_intro (fun h1 => ?_) (fun h1 => ?_)
      · rw [if_pos h1] at hX
        obtain ⟨q, hq⟩ := pfx_split h1
        have htk : (c :: r3).take 3 = [37, 37, 62] := pfx_take h1
        have hdr : (c :: r3).drop 3 = q := by rw [hq]; rfl
        rw [htk, hdr] at hX
        have hq3 := congrArg List.length hq
        simp only [List.length_append, List.length_cons, List.length_nil] at hq3
        have ha : IntKind.wrap .i64 ((p2.length : Int) + 3) = ((p2 ++ [37, 37, 62]).length : Int) := by rw [wrap_i64 (by omega)]; simp
        ((conv => whnf); (repeat ((first | refine BoxN.own ?_ | refine VrN.norm (wrap_i64 (by omega)) ?_ | refine VrN.keep ?_ | refine DrawN.calm (by decide +kernel) ?_ | refine Nd.mk (by decide +kernel) ?_ | refine Nd.mk (by omega) ?_ | (refine Nd.mk ?_ ?_; focus ((repeat' (first | exact trivial | exact wkE_refl _ | refine And.intro ?_ ?_)); done)) | refine RdN.intro _ rfl (by rfl) ?_); (conv => whnf))))
        refine Nd.mk (by show (bs acc).size + 2 < _; omega) ?_
        ((conv => whnf); (repeat ((first | refine BoxN.own ?_ | refine VrN.norm (wrap_i64 (by omega)) ?_ | refine VrN.keep ?_ | refine DrawN.calm (by decide +kernel) ?_ | refine Nd.mk (by decide +kernel) ?_ | refine Nd.mk (by omega) ?_ | (refine Nd.mk ?_ ?_; focus ((repeat' (first | exact trivial | exact wkE_refl _ | refine And.intro ?_ ?_)); done)) | refine RdN.intro _ rfl (by rfl) ?_); (conv => whnf))))
        refine ⟨⟨p2 ++ [37, 37, 62], q, acc ++ [37, 62]⟩, ⟨by rw [← hsp, hq]; simp, hX, by simp; omega⟩, by show q.length < (c :: r3).length; rw [hq]; simp; omega, ?_, ?_⟩
        · (repeat' (first | exact trivial | refine And.intro (by with_reducible rfl) ?_ | (with_reducible exact wkC_refl _) | (with_reducible exact wkCs_refl _) | refine And.intro ?_ ?_))
          exact av_str (bs_app acc [37, 62])
        · refine wkH_cons ?_ (wkH_cons rfl (wkH_nil _))
          rw [ha]
      rw [if_neg (by simp [h1])] at hX
      (((conv => whnf); (repeat ((first | refine BoxN.own ?_ | refine VrN.norm (wrap_i64 (by omega)) ?_ | refine VrN.keep ?_ | refine DrawN.calm (by decide +kernel) ?_ | refine Nd.mk (by decide +kernel) ?_ | refine Nd.mk (by omega) ?_ | (refine Nd.mk ?_ ?_; focus ((repeat' (first | exact trivial | exact wkE_refl _ | refine And.intro ?_ ?_)); done)) | refine RdN.intro _ rfl (by rfl) ?_); (conv => whnf)))); first | refine call1 (HasPrefix_c (c :: r3) [37, 62] _) ?_ | refine callQ (HasPrefix_c (c :: r3) [37, 62] _) ?_)
      ((conv => whnf); (repeat ((first | refine BoxN.own ?_ | refine VrN.norm (wrap_i64 (by omega)) ?_ | refine VrN.keep ?_ | refine DrawN.calm (by decide +kernel) ?_ | refine Nd.mk (by decide +kernel) ?_ | refine Nd.mk (by omega) ?_ | (refine Nd.mk ?_ ?_; focus ((repeat' (first | exact trivial | exact wkE_refl _ | refine And.intro ?_ ?_)); done)) | refine RdN.intro _ rfl (by rfl) ?_); (conv => whnf))))
      refine brd_intro (fun h3 => ?_) (fun h3 => ?_)
      · have hc : c = 37 := by simp [List.isPrefixOf] at h3; exact h3.1.symm
        have h2 : [45, 37, 62].isPrefixOf (c :: r3) = false := by subst hc; rfl
        rw [if_neg (by simp [h2]), if_pos h3] at hX
        have htk : (c :: r3).take 2 = [37, 62] := pfx_take h3
        rw [htk] at hX
        have ha : IntKind.wrap .i64 ((p2.length : Int) + 2) = ((p2 ++ [37, 62]).length : Int) := by rw [wrap_i64 (by omega)]; simp
        ((conv => whnf); (repeat ((first | refine BoxN.own ?_ | refine VrN.norm (wrap_i64 (by omega)) ?_ | refine VrN.keep ?_ | refine DrawN.calm (by decide +kernel) ?_ | refine Nd.mk (by decide +kernel) ?_ | refine Nd.mk (by omega) ?_ | (refine Nd.mk ?_ ?_; focus ((repeat' (first | exact trivial | exact wkE_refl _ | refine And.intro ?_ ?_)); done)) | refine RdN.intro _ rfl (by rfl) ?_); (conv => whnf))))
        refine Nd.mk ⟨by omega, by rw [bs_size]; simp⟩ ?_
        rw [show ((0 : Int).toNat) = 0 from rfl, hb0]
        ((conv => whnf); (repeat ((first | refine BoxN.own ?_ | refine VrN.norm (wrap_i64 (by omega)) ?_ | refine VrN.keep ?_ | refine DrawN.calm (by decide +kernel) ?_ | refine Nd.mk (by decide +kernel) ?_ | refine Nd.mk (by omega) ?_ | (refine Nd.mk ?_ ?_; focus ((repeat' (first | exact trivial | exact wkE_refl _ | refine And.intro ?_ ?_)); done)) | refine RdN.intro _ rfl (by rfl) ?_); (conv => whnf))))
        refine brd_eq (fun h4 => absurd h4 (by rw [hc]; decide)) (fun _ => ?_)
        -- 3: the kind · (p2 ++ [37, 62]): the prefix behind the tag · ha: its place
        ((conv => whnf); (repeat ((first | refine BoxN.own ?_ | refine VrN.norm (wrap_i64 (by omega)) ?_ | refine VrN.keep ?_ | refine DrawN.calm (by decide +kernel) ?_ | refine Nd.mk (by decide +kernel) ?_ | refine Nd.mk (by omega) ?_ | (refine Nd.mk ?_ ?_; focus ((repeat' (first | exact trivial | exact wkE_refl _ | refine And.intro ?_ ?_)); done)) | refine RdN.intro _ rfl (by rfl) ?_); (conv => whnf))))
        refine DrawN.plan [0, 1, 5, 6, 10, 12] [(2, 1), (3, 1), (4, 1), (7, 1), (8, 1), (9, 1), (11, 0), (13, 1), (14, 0)] [(15, 0), (16, 0), (17, 0), (18, 0)] (by decide +kernel) ?_
        (((conv => whnf); (repeat ((first | refine BoxN.own ?_ | refine VrN.norm (wrap_i64 (by omega)) ?_ | refine VrN.keep ?_ | refine DrawN.calm (by decide +kernel) ?_ | refine Nd.mk (by decide +kernel) ?_ | refine Nd.mk (by omega) ?_ | (refine Nd.mk ?_ ?_; focus ((repeat' (first | exact trivial | exact wkE_refl _ | refine And.intro ?_ ?_)); done)) | refine RdN.intro _ rfl (by rfl) ?_); (conv => whnf)))); first | refine call1 (hL _) ?_ | refine callQ (hL _) ?_)
        ((conv => whnf); (repeat ((first | refine BoxN.own ?_ | refine VrN.norm (wrap_i64 (by omega)) ?_ | refine VrN.keep ?_ | refine DrawN.calm (by decide +kernel) ?_ | refine Nd.mk (by decide +kernel) ?_ | refine Nd.mk (by omega) ?_ | (refine Nd.mk ?_ ?_; focus ((repeat' (first | exact trivial | exact wkE_refl _ | refine And.intro ?_ ?_)); done)) | refine RdN.intro _ rfl (by rfl) ?_); (conv => whnf))))
        refine Nd.mk ⟨by omega, rfl, rfl⟩ ?_
        (conv => whnf)
        refine AppN.grow 1 (partsC out1) _ rfl rfl ⟨by omega, ⟨by show (out1.length + 1) * 32 ≤ _; omega, by show out1.length + 1 < _; omega⟩, by decide⟩ fun b' cap' h3 h4 => ?_
        ((conv => whnf); (repeat ((first | refine BoxN.own ?_ | refine VrN.norm (wrap_i64 (by omega)) ?_ | refine VrN.keep ?_ | refine DrawN.calm (by decide +kernel) ?_ | refine Nd.mk (by decide +kernel) ?_ | refine Nd.mk (by omega) ?_ | (refine Nd.mk ?_ ?_; focus ((repeat' (first | exact trivial | exact wkE_refl _ | refine And.intro ?_ ?_)); done)) | refine RdN.intro _ rfl (by rfl) ?_); (conv => whnf))))
        refine ⟨(⟨pre ++ 60 :: 37 :: r, ((p2 ++ [37, 62])).length, [], from_, whole, out1 ++ [⟨3, ln pre, acc⟩]⟩, ⟨some b', cap'⟩), ⟨⟨(fun h => by cases h), by rw [List.length_append]; exact h3, fun h => by have h : cap' = 0 := h; omega⟩, rfl, rfl, hf, by rw [← hX]; exact ⟨rfl, rfl⟩⟩, by rw [← hX]; rfl, ?_⟩
        refine wkH_cons ?_ (wkH_cons ?_ (wkH_nil _))
        · rw [ha]
          simp [at0, bs]
        · simp [at0, partsC_app]
          exact ⟨rfl, rfl⟩
      (((conv => whnf); (repeat ((first | refine BoxN.own ?_ | refine VrN.norm (wrap_i64 (by omega)) ?_ | refine VrN.keep ?_ | refine DrawN.calm (by decide +kernel) ?_ | refine Nd.mk (by decide +kernel) ?_ | refine Nd.mk (by omega) ?_ | (refine Nd.mk ?_ ?_; focus ((repeat' (first | exact trivial | exact wkE_refl _ | refine And.intro ?_ ?_)); done)) | refine RdN.intro _ rfl (by rfl) ?_); (conv => whnf)))); first | refine call1 (HasPrefix_c (c :: r3) [45, 37, 62] _) ?_ | refine callQ (HasPrefix_c (c :: r3) [45, 37, 62] _) ?_)
      ((conv => whnf); (repeat ((first | refine BoxN.own ?_ | refine VrN.norm (wrap_i64 (by omega)) ?_ | refine VrN.keep ?_ | refine DrawN.calm (by decide +kernel) ?_ | refine Nd.mk (by decide +kernel) ?_ | refine Nd.mk (by omega) ?_ | (refine Nd.mk ?_ ?_; focus ((repeat' (first | exact trivial | exact wkE_refl _ | refine And.intro ?_ ?_)); done)) | refine RdN.intro _ rfl (by rfl) ?_); (conv => whnf))))
      refine brd_intro (fun h2 => ?_) (fun h2 => ?_)
      · have hc : c = 45 := by simp [List.isPrefixOf] at h2; exact h2.1.symm
        rw [if_pos h2] at hX
        obtain ⟨q, hq⟩ := pfx_split h2
        have htk : (c :: r3).take 3 = [45, 37, 62] := pfx_take h2
        have hdr : (c :: r3).drop 3 = q := by rw [hq]; rfl
        have hq3 := congrArg List.length hq
        simp only [List.length_append, List.length_cons, List.length_nil] at hq3
        have ha : IntKind.wrap .i64 (IntKind.wrap .i64 ((p2.length : Int) + 2) + 1) = ((p2 ++ [45, 37, 62]).length : Int) := by rw [wrap_i64 (x := (p2.length : Int) + 2) (by omega), wrap_i64 (by omega)]; simp; omega
        rw [hdr] at hX
        ((conv => whnf); (repeat ((first | refine BoxN.own ?_ | refine VrN.norm (wrap_i64 (by omega)) ?_ | refine VrN.keep ?_ | refine DrawN.calm (by decide +kernel) ?_ | refine Nd.mk (by decide +kernel) ?_ | refine Nd.mk (by omega) ?_ | (refine Nd.mk ?_ ?_; focus ((repeat' (first | exact trivial | exact wkE_refl _ | refine And.intro ?_ ?_)); done)) | refine RdN.intro _ rfl (by rfl) ?_); (conv => whnf))))
        refine Nd.mk ⟨by omega, by rw [bs_size]; simp⟩ ?_
        rw [show ((0 : Int).toNat) = 0 from rfl, hb0]
        ((conv => whnf); (repeat ((first | refine BoxN.own ?_ | refine VrN.norm (wrap_i64 (by omega)) ?_ | refine VrN.keep ?_ | refine DrawN.calm (by decide +kernel) ?_ | refine Nd.mk (by decide +kernel) ?_ | refine Nd.mk (by omega) ?_ | (refine Nd.mk ?_ ?_; focus ((repeat' (first | exact trivial | exact wkE_refl _ | refine And.intro ?_ ?_)); done)) | refine RdN.intro _ rfl (by rfl) ?_); (conv => whnf))))
        refine brd_eq (fun _ => ?_) (fun h4 => absurd (by rw [hc]; rfl) h4)
        ((conv => whnf); (repeat ((first | refine BoxN.own ?_ | refine VrN.norm (wrap_i64 (by omega)) ?_ | refine VrN.keep ?_ | refine DrawN.calm (by decide +kernel) ?_ | refine Nd.mk (by decide +kernel) ?_ | refine Nd.mk (by omega) ?_ | (refine Nd.mk ?_ ?_; focus ((repeat' (first | exact trivial | exact wkE_refl _ | refine And.intro ?_ ?_)); done)) | refine RdN.intro _ rfl (by rfl) ?_); (conv => whnf))))
        refine ReadW.sl_l 3 rfl (by kernel_rfl) rfl rfl ⟨rfl, by simp; omega⟩ ?_
        rw [hdr]
        (((conv => whnf); (repeat ((first | refine BoxN.own ?_ | refine VrN.norm (wrap_i64 (by omega)) ?_ | refine VrN.keep ?_ | refine DrawN.calm (by decide +kernel) ?_ | refine Nd.mk (by decide +kernel) ?_ | refine Nd.mk (by omega) ?_ | (refine Nd.mk ?_ ?_; focus ((repeat' (first | exact trivial | exact wkE_refl _ | refine And.intro ?_ ?_)); done)) | refine RdN.intro _ rfl (by rfl) ?_); (conv => whnf)))); first | refine call1 (HasPrefix_c q [10] _) ?_ | refine callQ (HasPrefix_c q [10] _) ?_)
        ((conv => whnf); (repeat ((first | refine BoxN.own ?_ | refine VrN.norm (wrap_i64 (by omega)) ?_ | refine VrN.keep ?_ | refine DrawN.calm (by decide +kernel) ?_ | refine Nd.mk (by decide +kernel) ?_ | refine Nd.mk (by omega) ?_ | (refine Nd.mk ?_ ?_; focus ((repeat' (first | exact trivial | exact wkE_refl _ | refine And.intro ?_ ?_)); done)) | refine RdN.intro _ rfl (by rfl) ?_); (conv => whnf))))
        refine brd_intro (fun h3 => ?_) (fun h3 => ?_)
        · rw [if_pos h3] at hX
          obtain ⟨q', hq'⟩ := pfx_split h3
          have htk4 : (c :: r3).take 4 = [45, 37, 62, 10] := by rw [hq, hq']; rfl
          rw [htk4] at hX
          have ha4 : IntKind.wrap .i64 (IntKind.wrap .i64 (IntKind.wrap .i64 ((p2.length : Int) + 2) + 1) + 1) = ((p2 ++ [45, 37, 62, 10]).length : Int) := by rw [ha, wrap_i64 (by simp; omega)]; simp; omega
          -- 3: the kind · (p2 ++ [45, 37, 62, 10]): the prefix behind the tag · ha4: its place
          ((conv => whnf); (repeat ((first | refine BoxN.own ?_ | refine VrN.norm (wrap_i64 (by omega)) ?_ | refine VrN.keep ?_ | refine DrawN.calm (by decide +kernel) ?_ | refine Nd.mk (by decide +kernel) ?_ | refine Nd.mk (by omega) ?_ | (refine Nd.mk ?_ ?_; focus ((repeat' (first | exact trivial | exact wkE_refl _ | refine And.intro ?_ ?_)); done)) | refine RdN.intro _ rfl (by rfl) ?_); (conv => whnf))))
          refine DrawN.plan [0, 1, 5, 6, 10, 12] [(2, 1), (3, 1), (4, 1), (7, 1), (8, 1), (9, 1), (11, 0), (13, 1), (14, 0)] [(15, 0), (16, 0), (17, 0), (18, 0)] (by decide +kernel) ?_
          (((conv => whnf); (repeat ((first | refine BoxN.own ?_ | refine VrN.norm (wrap_i64 (by omega)) ?_ | refine VrN.keep ?_ | refine DrawN.calm (by decide +kernel) ?_ | refine Nd.mk (by decide +kernel) ?_ | refine Nd.mk (by omega) ?_ | (refine Nd.mk ?_ ?_; focus ((repeat' (first | exact trivial | exact wkE_refl _ | refine And.intro ?_ ?_)); done)) | refine RdN.intro _ rfl (by rfl) ?_); (conv => whnf)))); first | refine call1 (hL _) ?_ | refine callQ (hL _) ?_)
          ((conv => whnf); (repeat ((first | refine BoxN.own ?_ | refine VrN.norm (wrap_i64 (by omega)) ?_ | refine VrN.keep ?_ | refine DrawN.calm (by decide +kernel) ?_ | refine Nd.mk (by decide +kernel) ?_ | refine Nd.mk (by omega) ?_ | (refine Nd.mk ?_ ?_; focus ((repeat' (first | exact trivial | exact wkE_refl _ | refine And.intro ?_ ?_)); done)) | refine RdN.intro _ rfl (by rfl) ?_); (conv => whnf))))
          refine Nd.mk ⟨by omega, rfl, rfl⟩ ?_
          (conv => whnf)
          refine AppN.grow 1 (partsC out1) _ rfl rfl ⟨by omega, ⟨by show (out1.length + 1) * 32 ≤ _; omega, by show out1.length + 1 < _; omega⟩, by decide⟩ fun b' cap' h3 h4 => ?_
          ((conv => whnf); (repeat ((first | refine BoxN.own ?_ | refine VrN.norm (wrap_i64 (by omega)) ?_ | refine VrN.keep ?_ | refine DrawN.calm (by decide +kernel) ?_ | refine Nd.mk (by decide +kernel) ?_ | refine Nd.mk (by omega) ?_ | (refine Nd.mk ?_ ?_; focus ((repeat' (first | exact trivial | exact wkE_refl _ | refine And.intro ?_ ?_)); done)) | refine RdN.intro _ rfl (by rfl) ?_); (conv => whnf))))
          refine ⟨(⟨pre ++ 60 :: 37 :: r, ((p2 ++ [45, 37, 62, 10])).length, [], from_, whole, out1 ++ [⟨3, ln pre, acc⟩]⟩, ⟨some b', cap'⟩), ⟨⟨(fun h => by cases h), by rw [List.length_append]; exact h3, fun h => by have h : cap' = 0 := h; omega⟩, rfl, rfl, hf, by rw [← hX]; exact ⟨rfl, rfl⟩⟩, by rw [← hX]; rfl, ?_⟩
          refine wkH_cons ?_ (wkH_cons ?_ (wkH_nil _))
          · rw [ha4]
            simp [at0, bs]
          · simp [at0, partsC_app]
            exact ⟨rfl, rfl⟩
        · rw [if_neg (by simp [h3]), htk] at hX
          -- 3: the kind · (p2 ++ [45, 37, 62]): the prefix behind the tag · ha: its place
          ((conv => whnf); (repeat ((first | refine BoxN.own ?_ | refine VrN.norm (wrap_i64 (by omega)) ?_ | refine VrN.keep ?_ | refine DrawN.calm (by decide +kernel) ?_ | refine Nd.mk (by decide +kernel) ?_ | refine Nd.mk (by omega) ?_ | (refine Nd.mk ?_ ?_; focus ((repeat' (first | exact trivial | exact wkE_refl _ | refine And.intro ?_ ?_)); done)) | refine RdN.intro _ rfl (by rfl) ?_); (conv => whnf))))
          refine DrawN.plan [0, 1, 5, 6, 10, 12] [(2, 1), (3, 1), (4, 1), (7, 1), (8, 1), (9, 1), (11, 0), (13, 1), (14, 0)] [(15, 0), (16, 0), (17, 0), (18, 0)] (by decide +kernel) ?_
          (((conv => whnf); (repeat ((first | refine BoxN.own ?_ | refine VrN.norm (wrap_i64 (by omega)) ?_ | refine VrN.keep ?_ | refine DrawN.calm (by decide +kernel) ?_ | refine Nd.mk (by decide +kernel) ?_ | refine Nd.mk (by omega) ?_ | (refine Nd.mk ?_ ?_; focus ((repeat' (first | exact trivial | exact wkE_refl _ | refine And.intro ?_ ?_)); done)) | refine RdN.intro _ rfl (by rfl) ?_); (conv => whnf)))); first | refine call1 (hL _) ?_ | refine callQ (hL _) ?_)
          ((conv => whnf); (repeat ((first | refine BoxN.own ?_ | refine VrN.norm (wrap_i64 (by omega)) ?_ | refine VrN.keep ?_ | refine DrawN.calm (by decide +kernel) ?_ | refine Nd.mk (by decide +kernel) ?_ | refine Nd.mk (by omega) ?_ | (refine Nd.mk ?_ ?_; focus ((repeat' (first | exact trivial | exact wkE_refl _ | refine And.intro ?_ ?_)); done)) | refine RdN.intro _ rfl (by rfl) ?_); (conv => whnf))))
          refine Nd.mk ⟨by omega, rfl, rfl⟩ ?_
          (conv => whnf)
          refine AppN.grow 1 (partsC out1) _ rfl rfl ⟨by omega, ⟨by show (out1.length + 1) * 32 ≤ _; omega, by show out1.length + 1 < _; omega⟩, by decide⟩ fun b' cap' h3 h4 => ?_
          ((conv => whnf); (repeat ((first | refine BoxN.own ?_ | refine VrN.norm (wrap_i64 (by omega)) ?_ | refine VrN.keep ?_ | refine DrawN.calm (by decide +kernel) ?_ | refine Nd.mk (by decide +kernel) ?_ | refine Nd.mk (by omega) ?_ | (refine Nd.mk ?_ ?_; focus ((repeat' (first | exact trivial | exact wkE_refl _ | refine And.intro ?_ ?_)); done)) | refine RdN.intro _ rfl (by rfl) ?_); (conv => whnf))))
          refine ⟨(⟨pre ++ 60 :: 37 :: r, ((p2 ++ [45, 37, 62])).length, [], from_, whole, out1 ++ [⟨3, ln pre, acc⟩]⟩, ⟨some b', cap'⟩), ⟨⟨(fun h => by cases h), by rw [List.length_append]; exact h3, fun h => by have h : cap' = 0 := h; omega⟩, rfl, rfl, hf, by rw [← hX]; exact ⟨rfl, rfl⟩⟩, by rw [← hX]; rfl, ?_⟩
          refine wkH_cons ?_ (wkH_cons ?_ (wkH_nil _))
          · rw [ha]
            simp [at0, bs]
          · simp [at0, partsC_app]
            exact ⟨rfl, rfl⟩
      rw [if_neg (by simp [h2]), if_neg (by simp [h3])] at hX
      have ha : IntKind.wrap .i64 ((p2.length : Int) + 1) = ((p2 ++ [c]).length : Int) := by rw [wrap_i64 (by omega)]; simp
      ((conv => whnf); (repeat ((first | refine BoxN.own ?_ | refine VrN.norm (wrap_i64 (by omega)) ?_ | refine VrN.keep ?_ | refine DrawN.calm (by decide +kernel) ?_ | refine Nd.mk (by decide +kernel) ?_ | refine Nd.mk (by omega) ?_ | (refine Nd.mk ?_ ?_; focus ((repeat' (first | exact trivial | exact wkE_refl _ | refine And.intro ?_ ?_)); done)) | refine RdN.intro _ rfl (by rfl) ?_); (conv => whnf))))
      refine ReadW.sl_h 1 rfl (by kernel_rfl) rfl rfl ⟨rfl, by simp⟩ ?_
      rw [show (c :: r3).take 1 = [c] from rfl]
      ((conv => whnf); (repeat ((first | refine BoxN.own ?_ | refine VrN.norm (wrap_i64 (by omega)) ?_ | refine VrN.keep ?_ | refine DrawN.calm (by decide +kernel) ?_ | refine Nd.mk (by decide +kernel) ?_ | refine Nd.mk (by omega) ?_ | (refine Nd.mk ?_ ?_; focus ((repeat' (first | exact trivial | exact wkE_refl _ | refine And.intro ?_ ?_)); done)) | refine RdN.intro _ rfl (by rfl) ?_); (conv => whnf))))
      refine Nd.mk (by show (bs acc).size + 1 < _; omega) ?_
      ((conv => whnf); (repeat ((first | refine BoxN.own ?_ | refine VrN.norm (wrap_i64 (by omega)) ?_ | refine VrN.keep ?_ | refine DrawN.calm (by decide +kernel) ?_ | refine Nd.mk (by decide +kernel) ?_ | refine Nd.mk (by omega) ?_ | (refine Nd.mk ?_ ?_; focus ((repeat' (first | exact trivial | exact wkE_refl _ | refine And.intro ?_ ?_)); done)) | refine RdN.intro _ rfl (by rfl) ?_); (conv => whnf))))
      refine ⟨⟨p2 ++ [c], r3, acc ++ [c]⟩, ⟨by rw [← hsp]; simp, hX, by simp; omega⟩, by show r3.length < (c :: r3).length; simp, ?_, ?_⟩
      · (repeat' (first | exact trivial | refine And.intro (by with_reducible rfl) ?_ | (with_reducible exact wkC_refl _) | (with_reducible exact wkCs_refl _) | refine And.intro ?_ ?_))
        exact av_str (bs_app acc [c])
      · refine wkH_cons ?_ (wkH_cons rfl (wkH_nil _))
        rw [ha]
  · have hat : ((pre.length + 2 : Nat) : Int) = ((pre ++ (60 :: 37 :: r).take (2 + 0)).length : Int) := by simp
    rw [hop]
    simp only [Bool.false_eq_true, if_false]
    ((conv => whnf); (repeat ((first | refine BoxN.own ?_ | refine VrN.norm (wrap_i64 (by omega)) ?_ | refine VrN.keep ?_ | refine DrawN.calm (by decide +kernel) ?_ | refine Nd.mk (by decide +kernel) ?_ | refine Nd.mk (by omega) ?_ | (refine Nd.mk ?_ ?_; focus ((repeat' (first | exact trivial | exact wkE_refl _ | refine And.intro ?_ ?_)); done)) | refine RdN.intro _ rfl (by rfl) ?_); (conv => whnf))))
    rw [bs_list]
    refine brdF e1 ?_
    ((conv => whnf); (repeat ((first | refine BoxN.own ?_ | refine VrN.norm (wrap_i64 (by omega)) ?_ | refine VrN.keep ?_ | refine DrawN.calm (by decide +kernel) ?_ | refine Nd.mk (by decide +kernel) ?_ | refine Nd.mk (by omega) ?_ | (refine Nd.mk ?_ ?_; focus ((repeat' (first | exact trivial | exact wkE_refl _ | refine And.intro ?_ ?_)); done)) | refine RdN.intro _ rfl (by rfl) ?_); (conv => whnf))))
    rw [bs_list]
    refine brdF e2 ?_
    ((conv => whnf); (repeat ((first | refine BoxN.own ?_ | refine VrN.norm (wrap_i64 (by omega)) ?_ | refine VrN.keep ?_ | refine DrawN.calm (by decide +kernel) ?_ | refine Nd.mk (by decide +kernel) ?_ | refine Nd.mk (by omega) ?_ | (refine Nd.mk ?_ ?_; focus ((repeat' (first | exact trivial | exact wkE_refl _ | refine And.intro ?_ ?_)); done)) | refine RdN.intro _ rfl (by rfl) ?_); (conv => whnf))))
    rw [bs_list]
    refine brdF e3 ?_
    have ok1 := ok
    generalize o = o1 at ok1
    ((conv => whnf); (repeat ((first | refine BoxN.own ?_ | refine VrN.norm (wrap_i64 (by omega)) ?_ | refine VrN.keep ?_ | refine DrawN.calm (by decide +kernel) ?_ | refine Nd.mk (by decide +kernel) ?_ | refine Nd.mk (by omega) ?_ | (refine Nd.mk ?_ ?_; focus ((repeat' (first | exact trivial | exact wkE_refl _ | refine And.intro ?_ ?_)); done)) | refine RdN.intro _ rfl (by rfl) ?_); (conv => whnf))))
    rw [hat]
    -- 0: bytes behind '<%' · 1: the kind · text: the text
    generalize hXd : tgN (pre ++ (60 :: 37 :: r).take (2 + 0)) (r.drop 0) [] = X
    have hol := outC_len out text (ln ((pre ++ 60 :: 37 :: r).take from_))
    refine callG (close_c (pre ++ 60 :: 37 :: r) (pre ++ (60 :: 37 :: r).take (2 + 0)).length text from_ whole out o1 ok1 hf (by omega) (by omega)) [0, 1] rfl ⟨rfl, rfl, trivial⟩ rfl fun o2 ok2 => ?_
    generalize outC out text (ln ((pre ++ 60 :: 37 :: r).take from_)) = out1 at *
    obtain ⟨ob, oc⟩ := o2
    ((conv => whnf); (repeat ((first | refine BoxN.own ?_ | refine VrN.norm (wrap_i64 (by omega)) ?_ | refine VrN.keep ?_ | refine DrawN.calm (by decide +kernel) ?_ | refine Nd.mk (by decide +kernel) ?_ | refine Nd.mk (by omega) ?_ | (refine Nd.mk ?_ ?_; focus ((repeat' (first | exact trivial | exact wkE_refl _ | refine And.intro ?_ ?_)); done)) | refine RdN.intro _ rfl (by rfl) ?_); (conv => whnf))))
    refine LoopN.intro (List UInt8 × List UInt8 × List UInt8) (fun ⟨p2, r2, acc⟩ => p2 ++ r2 = pre ++ 60 :: 37 :: r ∧ tgN p2 r2 acc = X ∧ acc.length ≤ p2.length) (fun ⟨_, _, acc⟩ => mkS Tryz.f43.ntmps 0 [(0, .c (.lp 0 0)), (2, .c (.v (.bool false))), (3, .c (.v (.int .i64 (pre.length : Int)))), (4, .c (.v (.int .i64 1))), (5, .c (.v (.string (bs acc))))])
      (fun ⟨p2, _, _⟩ => QH ⟨pre ++ 60 :: 37 :: r, p2.length, [], from_, whole, out1⟩ ⟨ob, oc⟩)
      (fun ⟨_, r2, _⟩ => r2.length) [] rfl
      (fun _ => rfl) (fun _ => rfl) (fun _ _ => QH_ok _ _) ⟨⟨pre ++ (60 :: 37 :: r).take (2 + 0), r.drop 0, []⟩, ⟨by rw [List.append_assoc, show r.drop 0 = (60 :: 37 :: r).drop (2 + 0) from rfl, List.take_append_drop], hXd, by simp⟩, ?_, wkH_refl _⟩ ?_
    · (repeat' (first | exact trivial | refine And.intro (by with_reducible rfl) ?_ | (with_reducible exact wkC_refl _) | (with_reducible exact wkCs_refl _) | refine And.intro ?_ ?_))
      all_goals rfl
    rintro ⟨p2, r2, acc⟩ ⟨hsp, hX, hal⟩
    have hlen := congrArg List.length hsp
    simp only [List.length_append, List.length_cons] at hlen
    cases r2 with
    | nil =>
      have hX : X = none := by rw [← hX]; rfl
      subst hX
      have hw : (p2.length : Int) < ((pre ++ 60 :: 37 :: r).length : Int) → False := by rw [← hsp]; simp
      ((conv => whnf); (repeat ((first | refine BoxN.own ?_ | refine VrN.norm (wrap_i64 (by omega)) ?_ | refine VrN.keep ?_ | refine DrawN.calm (by decide +kernel) ?_ | refine Nd.mk (by decide +kernel) ?_ | refine Nd.mk (by omega) ?_ | (refine Nd.mk ?_ ?_; focus ((repeat' (first | exact trivial | exact wkE_refl _ | refine And.intro ?_ ?_)); done)) | refine RdN.intro _ rfl (by rfl) ?_); (conv => whnf))))
      rw [bs_size]
      refine brd_dec (fun h => (hw h).elim) (fun _ => ?_)
      ((conv => whnf); (repeat ((first | refine BoxN.own ?_ | refine VrN.norm (wrap_i64 (by omega)) ?_ | refine VrN.keep ?_ | refine DrawN.calm (by decide +kernel) ?_ | refine Nd.mk (by decide +kernel) ?_ | refine Nd.mk (by omega) ?_ | (refine Nd.mk ?_ ?_; focus ((repeat' (first | exact trivial | exact wkE_refl _ | refine And.intro ?_ ?_)); done)) | refine RdN.intro _ rfl (by rfl) ?_); (conv => whnf))))
      exact ⟨(⟨pre ++ 60 :: 37 :: r, pre.length, [], from_, whole, out1⟩, ⟨ob, oc⟩), ⟨ok2, rfl, rfl, hf, rfl⟩, rfl, wkH_refl _⟩
    | cons c r3 =>
      simp only [List.length_cons] at hlen
      rw [tgN_cons] at hX
      have hw : (p2.length : Int) < ((pre ++ 60 :: 37 :: r).length : Int) := by rw [← hsp]; simp; omega
      have hac : (bs acc).size ≤ 1000000 := by rw [bs_size]; omega
      have hb0 : byteAt (bs (c :: r3)) 0 = (c.toNat : Int) := byteAt_get rfl
      ((conv => whnf); (repeat ((first | refine BoxN.own ?_ | refine VrN.norm (wrap_i64 (by omega)) ?_ | refine VrN.keep ?_ | refine DrawN.calm (by decide +kernel) ?_ | refine Nd.mk (by decide +kernel) ?_ | refine Nd.mk (by omega) ?_ | (refine Nd.mk ?_ ?_; focus ((repeat' (first | exact trivial | exact wkE_refl _ | refine And.intro ?_ ?_)); done)) | refine RdN.intro _ rfl (by rfl) ?_); (conv => whnf))))
      rw [bs_size]
      refine brd_dec (fun _ => ?_) (fun h => absurd hw h)
      ((conv => whnf); (repeat ((first | refine BoxN.own ?_ | refine VrN.norm (wrap_i64 (by omega)) ?_ | refine VrN.keep ?_ | refine DrawN.calm (by decide +kernel) ?_ | refine Nd.mk (by decide +kernel) ?_ | refine Nd.mk (by omega) ?_ | (refine Nd.mk ?_ ?_; focus ((repeat' (first | exact trivial | exact wkE_refl _ | refine And.intro ?_ ?_)); done)) | refine RdN.intro _ rfl (by rfl) ?_); (conv => whnf))))
      refine ReadW.sl_at p2 (c :: r3) hsp.symm rfl (by kernel_rfl) rfl rfl rfl ?_
      (((conv => whnf); (repeat ((first | refine BoxN.own ?_ | refine VrN.norm (wrap_i64 (by omega)) ?_ | refine VrN.keep ?_ | refine DrawN.calm (by decide +kernel) ?_ | refine Nd.mk (by decide +kernel) ?_ | refine Nd.mk (by omega) ?_ | (refine Nd.mk ?_ ?_; focus ((repeat' (first | exact trivial | exact wkE_refl _ | refine And.intro ?_ ?_)); done)) | refine RdN.intro _ rfl (by rfl) ?_); (conv => whnf)))); first | refine call1 (HasPrefix_c (c :: r3) [37, 37, 62] _) ?_ | refine callQ (HasPrefix_c (c :: r3) [37, 37, 62] _) ?_)
      ((conv => whnf); (repeat ((first | refine BoxN.own ?_ | refine VrN.norm (wrap_i64 (by omega)) ?_ | refine VrN.keep ?_ | refine DrawN.calm (by decide +kernel) ?_ | refine Nd.mk (by decide +kernel) ?_ | refine Nd.mk (by omega) ?_ | (refine Nd.mk ?_ ?_; focus ((repeat' (first | exact trivial | exact wkE_refl _ | refine And.intro ?_ ?_)); done)) | refine RdN.intro _ rfl (by rfl) ?_); (conv => whnf))))
      refine brd_intro (fun h1 => ?_) (fun h1 => ?_)
      · rw [if_pos h1] at hX
        obtain ⟨q, hq⟩ := pfx_split h1
        have htk : (c :: r3).take 3 = [37, 37, 62] := pfx_take h1
        have hdr : (c :: r3).drop 3 = q := by rw [hq]; rfl
        rw [htk, hdr] at hX
        have hq3 := congrArg List.length hq
        simp only [List.length_append, List.length_cons, List.length_nil] at hq3
        have ha : IntKind.wrap .i64 ((p2.length : Int) + 3) = ((p2 ++ [37, 37, 62]).length : Int) := by rw [wrap_i64 (by omega)]; simp
        ((conv => whnf); (repeat ((first | refine BoxN.own ?_ | refine VrN.norm (wrap_i64 (by omega)) ?_ | refine VrN.keep ?_ | refine DrawN.calm (by decide +kernel) ?_ | refine Nd.mk (by decide +kernel) ?_ | refine Nd.mk (by omega) ?_ | (refine Nd.mk ?_ ?_; focus ((repeat' (first | exact trivial | exact wkE_refl _ | refine And.intro ?_ ?_)); done)) | refine RdN.intro _ rfl (by rfl) ?_); (conv => whnf))))
        refine Nd.mk (by show (bs acc).size + 2 < _; omega) ?_
        ((conv => whnf); (repeat ((first | refine BoxN.own ?_ | refine VrN.norm (wrap_i64 (by omega)) ?_ | refine VrN.keep ?_ | refine DrawN.calm (by decide +kernel) ?_ | refine Nd.mk (by decide +kernel) ?_ | refine Nd.mk (by omega) ?_ | (refine Nd.mk ?_ ?_; focus ((repeat' (first | exact trivial | exact wkE_refl _ | refine And.intro ?_ ?_)); done)) | refine RdN.intro _ rfl (by rfl) ?_); (conv => whnf))))
        refine ⟨⟨p2 ++ [37, 37, 62], q, acc ++ [37, 62]⟩, ⟨by rw [← hsp, hq]; simp, hX, by simp; omega⟩, by show q.length < (c :: r3).length; rw [hq]; simp; omega, ?_, ?_⟩
        · (repeat' (first | exact trivial | refine And.intro (by with_reducible rfl) ?_ | (with_reducible exact wkC_refl _) | (with_reducible exact wkCs_refl _) | refine And.intro ?_ ?_))
          exact av_str (bs_app acc [37, 62])
        · refine wkH_cons ?_ (wkH_cons rfl (wkH_nil _))
          rw [ha]
      rw [if_neg (by simp [h1])] at hX
      (((conv => whnf); (repeat ((first | refine BoxN.own ?_ | refine VrN.norm (wrap_i64 (by omega)) ?_ | refine VrN.keep ?_ | refine DrawN.calm (by decide +kernel) ?_ | refine Nd.mk (by decide +kernel) ?_ | refine Nd.mk (by omega) ?_ | (refine Nd.mk ?_ ?_; focus ((repeat' (first | exact trivial | exact wkE_refl _ | refine And.intro ?_ ?_)); done)) | refine RdN.intro _ rfl (by rfl) ?_); (conv => whnf)))); first | refine call1 (HasPrefix_c (c :: r3) [37, 62] _) ?_ | refine callQ (HasPrefix_c (c :: r3) [37, 62] _) ?_)
      ((conv => whnf); (repeat ((first | refine BoxN.own ?_ | refine VrN.norm (wrap_i64 (by omega)) ?_ | refine VrN.keep ?_ | refine DrawN.calm (by decide +kernel) ?_ | refine Nd.mk (by decide +kernel) ?_ | refine Nd.mk (by omega) ?_ | (refine Nd.mk ?_ ?_; focus ((repeat' (first | exact trivial | exact wkE_refl _ | refine And.intro ?_ ?_)); done)) | refine RdN.intro _ rfl (by rfl) ?_); (conv => whnf))))
      refine brd_intro (fun h3 => ?_) (fun h3 => ?_)
      · have hc : c = 37 := by simp [List.isPrefixOf] at h3; exact h3.1.symm
        have h2 : [45, 37, 62].isPrefixOf (c :: r3) = false := by subst hc; rfl
        rw [if_neg (by simp [h2]), if_pos h3] at hX
        have htk : (c :: r3).take 2 = [37, 62] := pfx_take h3
        rw [htk] at hX
        have ha : IntKind.wrap .i64 ((p2.length : Int) + 2) = ((p2 ++ [37, 62]).length : Int) := by rw [wrap_i64 (by omega)]; simp
        ((conv => whnf); (repeat ((first | refine BoxN.own ?_ | refine VrN.norm (wrap_i64 (by omega)) ?_ | refine VrN.keep ?_ | refine DrawN.calm (by decide +kernel) ?_ | refine Nd.mk (by decide +kernel) ?_ | refine Nd.mk (by omega) ?_ | (refine Nd.mk ?_ ?_; focus ((repeat' (first | exact trivial | exact wkE_refl _ | refine And.intro ?_ ?_)); done)) | refine RdN.intro _ rfl (by rfl) ?_); (conv => whnf))))
        refine Nd.mk ⟨by omega, by rw [bs_size]; simp⟩ ?_
        rw [show ((0 : Int).toNat) = 0 from rfl, hb0]
        ((conv => whnf); (repeat ((first | refine BoxN.own ?_ | refine VrN.norm (wrap_i64 (by omega)) ?_ | refine VrN.keep ?_ | refine DrawN.calm (by decide +kernel) ?_ | refine Nd.mk (by decide +kernel) ?_ | refine Nd.mk (by omega) ?_ | (refine Nd.mk ?_ ?_; focus ((repeat' (first | exact trivial | exact wkE_refl _ | refine And.intro ?_ ?_)); done)) | refine RdN.intro _ rfl (by rfl) ?_); (conv => whnf))))
        refine brd_eq (fun h4 => absurd h4 (by rw [hc]; decide)) (fun _ => ?_)
        -- 1: the kind · (p2 ++ [37, 62]): the prefix behind the tag · ha: its place
        ((conv => whnf); (repeat ((first | refine BoxN.own ?_ | refine VrN.norm (wrap_i64 (by omega)) ?_ | refine VrN.keep ?_ | refine DrawN.calm (by decide +kernel) ?_ | refine Nd.mk (by decide +kernel) ?_ | refine Nd.mk (by omega) ?_ | (refine Nd.mk ?_ ?_; focus ((repeat' (first | exact trivial | exact wkE_refl _ | refine And.intro ?_ ?_)); done)) | refine RdN.intro _ rfl (by rfl) ?_); (conv => whnf))))
        refine DrawN.plan [0, 1, 5, 6, 10, 12] [(2, 1), (3, 1), (4, 1), (7, 1), (8, 1), (9, 1), (11, 0), (13, 1), (14, 0)] [(15, 0), (16, 0), (17, 0), (18, 0)] (by decide +kernel) ?_
        (((conv => whnf); (repeat ((first | refine BoxN.own ?_ | refine VrN.norm (wrap_i64 (by omega)) ?_ | refine VrN.keep ?_ | refine DrawN.calm (by decide +kernel) ?_ | refine Nd.mk (by decide +kernel) ?_ | refine Nd.mk (by omega) ?_ | (refine Nd.mk ?_ ?_; focus ((repeat' (first | exact trivial | exact wkE_refl _ | refine And.intro ?_ ?_)); done)) | refine RdN.intro _ rfl (by rfl) ?_); (conv => whnf)))); first | refine call1 (hL _) ?_ | refine callQ (hL _) ?_)
        ((conv => whnf); (repeat ((first | refine BoxN.own ?_ | refine VrN.norm (wrap_i64 (by omega)) ?_ | refine VrN.keep ?_ | refine DrawN.calm (by decide +kernel) ?_ | refine Nd.mk (by decide +kernel) ?_ | refine Nd.mk (by omega) ?_ | (refine Nd.mk ?_ ?_; focus ((repeat' (first | exact trivial | exact wkE_refl _ | refine And.intro ?_ ?_)); done)) | refine RdN.intro _ rfl (by rfl) ?_); (conv => whnf))))
        refine Nd.mk ⟨by omega, rfl, rfl⟩ ?_
        (conv => whnf)
        refine AppN.grow 1 (partsC out1) _ rfl rfl ⟨by omega, ⟨by show (out1.length + 1) * 32 ≤ _; omega, by show out1.length + 1 < _; omega⟩, by decide⟩ fun b' cap' h3 h4 => ?_
        ((conv => whnf); (repeat ((first | refine BoxN.own ?_ | refine VrN.norm (wrap_i64 (by omega)) ?_ | refine VrN.keep ?_ | refine DrawN.calm (by decide +kernel) ?_ | refine Nd.mk (by decide +kernel) ?_ | refine Nd.mk (by omega) ?_ | (refine Nd.mk ?_ ?_; focus ((repeat' (first | exact trivial | exact wkE_refl _ | refine And.intro ?_ ?_)); done)) | refine RdN.intro _ rfl (by rfl) ?_); (conv => whnf))))
        refine ⟨(⟨pre ++ 60 :: 37 :: r, ((p2 ++ [37, 62])).length, [], from_, whole, out1 ++ [⟨1, ln pre, acc⟩]⟩, ⟨some b', cap'⟩), ⟨⟨(fun h => by cases h), by rw [List.length_append]; exact h3, fun h => by have h : cap' = 0 := h; omega⟩, rfl, rfl, hf, by rw [← hX]; exact ⟨rfl, rfl⟩⟩, by rw [← hX]; rfl, ?_⟩
        refine wkH_cons ?_ (wkH_cons ?_ (wkH_nil _))
        · rw [ha]
          simp [at0, bs]
        · simp [at0, partsC_app]
          exact ⟨rfl, rfl⟩
      (((conv => whnf); (repeat ((first | refine BoxN.own ?_ | refine VrN.norm (wrap_i64 (by omega)) ?_ | refine VrN.keep ?_ | refine DrawN.calm (by decide +kernel) ?_ | refine Nd.mk (by decide +kernel) ?_ | refine Nd.mk (by omega) ?_ | (refine Nd.mk ?_ ?_; focus ((repeat' (first | exact trivial | exact wkE_refl _ | refine And.intro ?_ ?_)); done)) | refine RdN.intro _ rfl (by rfl) ?_); (conv => whnf)))); first | refine call1 (HasPrefix_c (c :: r3) [45, 37, 62] _) ?_ | refine callQ (HasPrefix_c (c :: r3) [45, 37, 62] _) ?_)
      ((conv => whnf); (repeat ((first | refine BoxN.own ?_ | refine VrN.norm (wrap_i64 (by omega)) ?_ | refine VrN.keep ?_ | refine DrawN.calm (by decide +kernel) ?_ | refine Nd.mk (by decide +kernel) ?_ | refine Nd.mk (by omega) ?_ | (refine Nd.mk ?_ ?_; focus ((repeat' (first | exact trivial | exact wkE_refl _ | refine And.intro ?_ ?_)); done)) | refine RdN.intro _ rfl (by rfl) ?_); (conv => whnf))))
      refine brd_intro (fun h2 => ?_) (fun h2 => ?_)
      · have hc : c = 45 := by simp [List.isPrefixOf] at h2; exact h2.1.symm
        rw [if_pos h2] at hX
        obtain ⟨q, hq⟩ := pfx_split h2
        have htk : (c :: r3).take 3 = [45, 37, 62] := pfx_take h2
        have hdr : (c :: r3).drop 3 = q := by rw [hq]; rfl
        have hq3 := congrArg List.length hq
        simp only [List.length_append, List.length_cons, List.length_nil] at hq3
        have ha : IntKind.wrap .i64 (IntKind.wrap .i64 ((p2.length : Int) + 2) + 1) = ((p2 ++ [45, 37, 62]).length : Int) := by rw [wrap_i64 (x := (p2.length : Int) + 2) (by omega), wrap_i64 (by omega)]; simp; omega
        rw [hdr] at hX
        ((conv => whnf); (repeat ((first | refine BoxN.own ?_ | refine VrN.norm (wrap_i64 (by omega)) ?_ | refine VrN.keep ?_ | refine DrawN.calm (by decide +kernel) ?_ | refine Nd.mk (by decide +kernel) ?_ | refine Nd.mk (by omega) ?_ | (refine Nd.mk ?_ ?_; focus ((repeat' (first | exact trivial | exact wkE_refl _ | refine And.intro ?_ ?_)); done)) | refine RdN.intro _ rfl (by rfl) ?_); (conv => whnf))))
        refine Nd.mk ⟨by omega, by rw [bs_size]; simp⟩ ?_
        rw [show ((0 : Int).toNat) = 0 from rfl, hb0]
        ((conv => whnf); (repeat ((first | refine BoxN.own ?_ | refine VrN.norm (wrap_i64 (by omega)) ?_ | refine VrN.keep ?_ | refine DrawN.calm (by decide +kernel) ?_ | refine Nd.mk (by decide +kernel) ?_ | refine Nd.mk (by omega) ?_ | (refine Nd.mk ?_ ?_; focus ((repeat' (first | exact trivial | exact wkE_refl _ | refine And.intro ?_ ?_)); done)) | refine RdN.intro _ rfl (by rfl) ?_); (conv => whnf))))
        refine brd_eq (fun _ => ?_) (fun h4 => absurd (by rw [hc]; rfl) h4)
        ((conv => whnf); (repeat ((first | refine BoxN.own ?_ | refine VrN.norm (wrap_i64 (by omega)) ?_ | refine VrN.keep ?_ | refine DrawN.calm (by decide +kernel) ?_ | refine Nd.mk (by decide +kernel) ?_ | refine Nd.mk (by omega) ?_ | (refine Nd.mk ?_ ?_; focus ((repeat' (first | exact trivial | exact wkE_refl _ | refine And.intro ?_ ?_)); done)) | refine RdN.intro _ rfl (by rfl) ?_); (conv => whnf))))
        refine ReadW.sl_l 3 rfl (by kernel_rfl) rfl rfl ⟨rfl, by simp; omega⟩ ?_
        rw [hdr]
        (((conv => whnf); (repeat ((first | refine BoxN.own ?_ | refine VrN.norm (wrap_i64 (by omega)) ?_ | refine VrN.keep ?_ | refine DrawN.calm (by decide +kernel) ?_ | refine Nd.mk (by decide +kernel) ?_ | refine Nd.mk (by omega) ?_ | (refine Nd.mk ?_ ?_; focus ((repeat' (first | exact trivial | exact wkE_refl _ | refine And.intro ?_ ?_)); done)) | refine RdN.intro _ rfl (by rfl) ?_); (conv => whnf)))); first | refine call1 (HasPrefix_c q [10] _) ?_ | refine callQ (HasPrefix_c q [10] _) ?_)
        ((conv => whnf); (repeat ((first | refine BoxN.own ?_ | refine VrN.norm (wrap_i64 (by omega)) ?_ | refine VrN.keep ?_ | refine DrawN.calm (by decide +kernel) ?_ | refine Nd.mk (by decide +kernel) ?_ | refine Nd.mk (by omega) ?_ | (refine Nd.mk ?_ ?_; focus ((repeat' (first | exact trivial | exact wkE_refl _ | refine And.intro ?_ ?_)); done)) | refine RdN.intro _ rfl (by rfl) ?_); (conv => whnf))))
        refine brd_intro (fun h3 => ?_) (fun h3 => ?_)
        · rw [if_pos h3] at hX
          obtain ⟨q', hq'⟩ := pfx_split h3
          have htk4 : (c :: r3).take 4 = [45, 37, 62, 10] := by rw [hq, hq']; rfl
          rw [htk4] at hX
          have ha4 : IntKind.wrap .i64 (IntKind.wrap .i64 (IntKind.wrap .i64 ((p2.length : Int) + 2) + 1) + 1) = ((p2 ++ [45, 37, 62, 10]).length : Int) := by rw [ha, wrap_i64 (by simp; omega)]; simp; omega
          -- 1: the kind · (p2 ++ [45, 37, 62, 10]): the prefix behind the tag · ha4: its place
          ((conv => whnf); (repeat ((first | refine BoxN.own ?_ | refine VrN.norm (wrap_i64 (by omega)) ?_ | refine VrN.keep ?_ | refine DrawN.calm (by decide +kernel) ?_ | refine Nd.mk (by decide +kernel) ?_ | refine Nd.mk (by omega) ?_ | (refine Nd.mk ?_ ?_; focus ((repeat' (first | exact trivial | exact wkE_refl _ | refine And.intro ?_ ?_)); done)) | refine RdN.intro _ rfl (by rfl) ?_); (conv => whnf))))
          refine DrawN.plan [0, 1, 5, 6, 10, 12] [(2, 1), (3, 1), (4, 1), (7, 1), (8, 1), (9, 1), (11, 0), (13, 1), (14, 0)] [(15, 0), (16, 0), (17, 0), (18, 0)] (by decide +kernel) ?_
          (((conv => whnf); (repeat ((first | refine BoxN.own ?_ | refine VrN.norm (wrap_i64 (by omega)) ?_ | refine VrN.keep ?_ | refine DrawN.calm (by decide +kernel) ?_ | refine Nd.mk (by decide +kernel) ?_ | refine Nd.mk (by omega) ?_ | (refine Nd.mk ?_ ?_; focus ((repeat' (first | exact trivial | exact wkE_refl _ | refine And.intro ?_ ?_)); done)) | refine RdN.intro _ rfl (by rfl) ?_); (conv => whnf)))); first | refine call1 (hL _) ?_ | refine callQ (hL _) ?_)
          ((conv => whnf); (repeat ((first | refine BoxN.own ?_ | refine VrN.norm (wrap_i64 (by omega)) ?_ | refine VrN.keep ?_ | refine DrawN.calm (by decide +kernel) ?_ | refine Nd.mk (by decide +kernel) ?_ | refine Nd.mk (by omega) ?_ | (refine Nd.mk ?_ ?_; focus ((repeat' (first | exact trivial | exact wkE_refl _ | refine And.intro ?_ ?_)); done)) | refine RdN.intro _ rfl (by rfl) ?_); (conv => whnf))))
          refine Nd.mk ⟨by omega, rfl, rfl⟩ ?_
          (conv => whnf)
          refine AppN.grow 1 (partsC out1) _ rfl rfl ⟨by omega, ⟨by show (out1.length + 1) * 32 ≤ _; omega, by show out1.length + 1 < _; omega⟩, by decide⟩ fun b' cap' h3 h4 => ?_
          ((conv => whnf); (repeat ((first | refine BoxN.own ?_ | refine VrN.norm (wrap_i64 (by omega)) ?_ | refine VrN.keep ?_ | refine DrawN.calm (by decide +kernel) ?_ | refine Nd.mk (by decide +kernel) ?_ | refine Nd.mk (by omega) ?_ | (refine Nd.mk ?_ ?_; focus ((repeat' (first | exact trivial | exact wkE_refl _ | refine And.intro ?_ ?_)); done)) | refine RdN.intro _ rfl (by rfl) ?_); (conv => whnf))))
          refine ⟨(⟨pre ++ 60 :: 37 :: r, ((p2 ++ [45, 37, 62, 10])).length, [], from_, whole, out1 ++ [⟨1, ln pre, acc⟩]⟩, ⟨some b', cap'⟩), ⟨⟨(fun h => by cases h), by rw [List.length_append]; exact h3, fun h => by have h : cap' = 0 := h; omega⟩, rfl, rfl, hf, by rw [← hX]; exact ⟨rfl, rfl⟩⟩, by rw [← hX]; rfl, ?_⟩
          refine wkH_cons ?_ (wkH_cons ?_ (wkH_nil _))
          · rw [ha4]
            simp [at0, bs]
          · simp [at0, partsC_app]
            exact ⟨rfl, rfl⟩
        · rw [if_neg (by simp [h3]), htk] at hX
          -- 1: the kind · (p2 ++ [45, 37, 62]): the prefix behind the tag · ha: its place
          ((conv => whnf); (repeat ((first | refine BoxN.own ?_ | refine VrN.norm (wrap_i64 (by omega)) ?_ | refine VrN.keep ?_ | refine DrawN.calm (by decide +kernel) ?_ | refine Nd.mk (by decide +kernel) ?_ | refine Nd.mk (by omega) ?_ | (refine Nd.mk ?_ ?_; focus ((repeat' (first | exact trivial | exact wkE_refl _ | refine And.intro ?_ ?_)); done)) | refine RdN.intro _ rfl (by rfl) ?_); (conv => whnf))))
          refine DrawN.plan [0, 1, 5, 6, 10, 12] [(2, 1), (3, 1), (4, 1), (7, 1), (8, 1), (9, 1), (11, 0), (13, 1), (14, 0)] [(15, 0), (16, 0), (17, 0), (18, 0)] (by decide +kernel) ?_
          (((conv => whnf); (repeat ((first | refine BoxN.own ?_ | refine VrN.norm (wrap_i64 (by omega)) ?_ | refine VrN.keep ?_ | refine DrawN.calm (by decide +kernel) ?_ | refine Nd.mk (by decide +kernel) ?_ | refine Nd.mk (by omega) ?_ | (refine Nd.mk ?_ ?_; focus ((repeat' (first | exact trivial | exact wkE_refl _ | refine And.intro ?_ ?_)); done)) | refine RdN.intro _ rfl (by rfl) ?_); (conv => whnf)))); first | refine call1 (hL _) ?_ | refine callQ (hL _) ?_)
          ((conv => whnf); (repeat ((first | refine BoxN.own ?_ | refine VrN.norm (wrap_i64 (by omega)) ?_ | refine VrN.keep ?_ | refine DrawN.calm (by decide +kernel) ?_ | refine Nd.mk (by decide +kernel) ?_ | refine Nd.mk (by omega) ?_ | (refine Nd.mk ?_ ?_; focus ((repeat' (first | exact trivial | exact wkE_refl _ | refine And.intro ?_ ?_)); done)) | refine RdN.intro _ rfl (by rfl) ?_); (conv => whnf))))
          refine Nd.mk ⟨by omega, rfl, rfl⟩ ?_
          (conv => whnf)
          refine AppN.grow 1 (partsC out1) _ rfl rfl ⟨by omega, ⟨by show (out1.length + 1) * 32 ≤ _; omega, by show out1.length + 1 < _; omega⟩, by decide⟩ fun b' cap' h3 h4 => ?_
          ((conv => whnf); (repeat ((first | refine BoxN.own ?_ | refine VrN.norm (wrap_i64 (by omega)) ?_ | refine VrN.keep ?_ | refine DrawN.calm (by decide +kernel) ?_ | refine Nd.mk (by decide +kernel) ?_ | refine Nd.mk (by omega) ?_ | (refine Nd.mk ?_ ?_; focus ((repeat' (first | exact trivial | exact wkE_refl _ | refine And.intro ?_ ?_)); done)) | refine RdN.intro _ rfl (by rfl) ?_); (conv => whnf))))
          refine ⟨(⟨pre ++ 60 :: 37 :: r, ((p2 ++ [45, 37, 62])).length, [], from_, whole, out1 ++ [⟨1, ln pre, acc⟩]⟩, ⟨some b', cap'⟩), ⟨⟨(fun h => by cases h), by rw [List.length_append]; exact h3, fun h => by have h : cap' = 0 := h; omega⟩, rfl, rfl, hf, by rw [← hX]; exact ⟨rfl, rfl⟩⟩, by rw [← hX]; rfl, ?_⟩
          refine wkH_cons ?_ (wkH_cons ?_ (wkH_nil _))
          · rw [ha]
            simp [at0, bs]
          · simp [at0, partsC_app]
            exact ⟨rfl, rfl⟩
      rw [if_neg (by simp [h2]), if_neg (by simp [h3])] at hX
      have ha : IntKind.wrap .i64 ((p2.length : Int) + 1) = ((p2 ++ [c]).length : Int) := by rw [wrap_i64 (by omega)]; simp
      ((conv => whnf); (repeat ((first | refine BoxN.own ?_ | refine VrN.norm (wrap_i64 (by omega)) ?_ | refine VrN.keep ?_ | refine DrawN.calm (by decide +kernel) ?_ | refine Nd.mk (by decide +kernel) ?_ | refine Nd.mk (by omega) ?_ | (refine Nd.mk ?_ ?_; focus ((repeat' (first | exact trivial | exact wkE_refl _ | refine And.intro ?_ ?_)); done)) | refine RdN.intro _ rfl (by rfl) ?_); (conv => whnf))))
      refine ReadW.sl_h 1 rfl (by kernel_rfl) rfl rfl ⟨rfl, by simp⟩ ?_
      rw [show (c :: r3).take 1 = [c] from rfl]
      ((conv => whnf); (repeat ((first | refine BoxN.own ?_ | refine VrN.norm (wrap_i64 (by omega)) ?_ | refine VrN.keep ?_ | refine DrawN.calm (by decide +kernel) ?_ | refine Nd.mk (by decide +kernel) ?_ | refine Nd.mk (by omega) ?_ | (refine Nd.mk ?_ ?_; focus ((repeat' (first | exact trivial | exact wkE_refl _ | refine And.intro ?_ ?_)); done)) | refine RdN.intro _ rfl (by rfl) ?_); (conv => whnf))))
      refine Nd.mk (by show (bs acc).size + 1 < _; omega) ?_
      ((conv => whnf); (repeat ((first | refine BoxN.own ?_ | refine VrN.norm (wrap_i64 (by omega)) ?_ | refine VrN.keep ?_ | refine DrawN.calm (by decide +kernel) ?_ | refine Nd.mk (by decide +kernel) ?_ | refine Nd.mk (by omega) ?_ | (refine Nd.mk ?_ ?_; focus ((repeat' (first | exact trivial | exact wkE_refl _ | refine And.intro ?_ ?_)); done)) | refine RdN.intro _ rfl (by rfl) ?_); (conv => whnf))))
      refine ⟨⟨p2 ++ [c], r3, acc ++ [c]⟩, ⟨by rw [← hsp]; simp, hX, by simp; omega⟩, by show r3.length < (c :: r3).length; simp, ?_, ?_⟩
      · (repeat' (first | exact trivial | refine And.intro (by with_reducible rfl) ?_ | (with_reducible exact wkC_refl _) | (with_reducible exact wkCs_refl _) | refine And.intro ?_ ?_))
        exact av_str (bs_app acc [c])
      · refine wkH_cons ?_ (wkH_cons rfl (wkH_nil _))
        rw [ha]
end Go.Proofs.YtfcjgklghgpddaaGreatDoor

/-
  Contract: Parts.
-/
namespace Go.Proofs.YtfcjgklghgpddaaGreatDoor
open Go.AX Go.RowKit Go.Erb
set_option maxRecDepth 20000

/-- Parts, a line, an error number; the parts in memory that nobody writes. -/
def PartsR (p : List Part × Int × Int) (v : Value) (G : World → Prop) : Prop :=
  ∃ ob cap, v = .tuple #[.slice (at0 ob) p.1.length cap, .int .i64 p.2.1, .int .i64 p.2.2] ∧ (ob = none → p.1 = []) ∧ ∀ w, G w → SlAt (at0 ob) (p.1.length * 3) (partsC p.1) w
theorem parts_ok (s : List UInt8) (lines : Bool) (hs : s.length ≤ 50000) : parts s lines = match rdN lines [] s [] [] [] with | .ok l => (l, 0, 0) | .error n => ([], n, 14) := by
  unfold parts
  rw [if_neg (by omega)]
  rfl
theorem Parts_c (s : List UInt8) (lines : Bool) (hs : s.length ≤ 200000000000000) : SpecF Tryz.prog 7 [.string (bs s), .bool lines] MaxF (PartsR (parts s lines)) := by
  refine specF hm Tryz.func7 (by kernel_rfl) rfl rfl ?_
  ((conv => whnf); (repeat ((first | refine BoxN.own ?_ | refine VrN.norm (wrap_i64 (by omega)) ?_ | refine VrN.keep ?_ | refine DrawN.calm (by decide +kernel) ?_ | refine Nd.mk (by decide +kernel) ?_ | refine Nd.mk (by omega) ?_ | (refine Nd.mk ?_ ?_; focus ((repeat' (first | exact trivial | exact wkE_refl _ | refine And.intro ?_ ?_)); done)) | refine RdN.intro _ rfl (by rfl) ?_); (conv => whnf))))
  rw [bs_size]
  refine brd_dec (fun h => ?_) (fun h => ?_)
  · have hp : parts s lines = ([], 0, 2) := by unfold parts; rw [if_pos (by omega)]
    rw [hp]
    ((conv => whnf); (repeat ((first | refine BoxN.own ?_ | refine VrN.norm (wrap_i64 (by omega)) ?_ | refine VrN.keep ?_ | refine DrawN.calm (by decide +kernel) ?_ | refine Nd.mk (by decide +kernel) ?_ | refine Nd.mk (by omega) ?_ | (refine Nd.mk ?_ ?_; focus ((repeat' (first | exact trivial | exact wkE_refl _ | refine And.intro ?_ ?_)); done)) | refine RdN.intro _ rfl (by rfl) ?_); (conv => whnf))))
    exact fin_p (fun w => MaxF w) ⟨none, 0, rfl, fun _ => rfl, fun _ _ => SlAt.nil⟩ (fun w hw => hw.1)
  · have hl : s.length ≤ 50000 := by omega
    rw [parts_ok s lines hl]
    have hr := read_c s lines (by omega)
    ((conv => whnf); (repeat ((first | refine BoxN.own ?_ | refine VrN.norm (wrap_i64 (by omega)) ?_ | refine VrN.keep ?_ | refine DrawN.calm (by decide +kernel) ?_ | refine Nd.mk (by decide +kernel) ?_ | refine Nd.mk (by omega) ?_ | (refine Nd.mk ?_ ?_; focus ((repeat' (first | exact trivial | exact wkE_refl _ | refine And.intro ?_ ?_)); done)) | refine RdN.intro _ rfl (by rfl) ?_); (conv => whnf))))
    refine SpecH.pad [.app 40 3 [] none 0 0, .app 5 1 [] none 0 0] rfl ?_
    refine callG hr [1, 2, 3, 0] rfl ⟨rfl, rfl, rfl, rfl, trivial⟩ rfl fun i hi => ?_
    obtain ⟨⟨s', at', line', lines', out', plain', begun'⟩, m'⟩ := i
    obtain ⟨ok', hRP⟩ := hi
    cases hR : rdN lines [] s [] [] [] with
    | ok l =>
      rw [hR] at hRP
      have hRP : out' = l := hRP
      subst hRP
      ((conv => whnf); (repeat ((first | refine BoxN.own ?_ | refine VrN.norm (wrap_i64 (by omega)) ?_ | refine VrN.keep ?_ | refine DrawN.calm (by decide +kernel) ?_ | refine Nd.mk (by decide +kernel) ?_ | refine Nd.mk (by omega) ?_ | (refine Nd.mk ?_ ?_; focus ((repeat' (first | exact trivial | exact wkE_refl _ | refine And.intro ?_ ?_)); done)) | refine RdN.intro _ rfl (by rfl) ?_); (conv => whnf))))
      refine fin_p (fun w => SlAt (at0 m'.o.ob) (out'.length * 3) (partsC out') w) ⟨m'.o.ob, m'.o.cap, rfl, fun h => ?_, fun _ h => h⟩ (fun w hw => hw.2.1)
      exact List.eq_nil_of_length_eq_zero (ok'.1.1 h).1
    | error n =>
      rw [hR] at hRP
      have hRP : line' = n := hRP
      subst hRP
      ((conv => whnf); (repeat ((first | refine BoxN.own ?_ | refine VrN.norm (wrap_i64 (by omega)) ?_ | refine VrN.keep ?_ | refine DrawN.calm (by decide +kernel) ?_ | refine Nd.mk (by decide +kernel) ?_ | refine Nd.mk (by omega) ?_ | (refine Nd.mk ?_ ?_; focus ((repeat' (first | exact trivial | exact wkE_refl _ | refine And.intro ?_ ?_)); done)) | refine RdN.intro _ rfl (by rfl) ?_); (conv => whnf))))
      exact fin_p (fun w => MaxF w) ⟨none, 0, rfl, fun _ => rfl, fun _ _ => SlAt.nil⟩ (fun w hw => hw.1)
end Go.Proofs.YtfcjgklghgpddaaGreatDoor

/-
  Contract: the document's Parts.
-/
namespace Go.Proofs.YtfcjgklghgpddaaGreatDoor
open Go.AX Go.RowKit Go.Erb
set_option maxRecDepth 20000

structure RqOk (s : List UInt8) (lines : Bool) (R : Except Int (List Part)) (pre rest t fp : List UInt8) (out : List Part) (from_ : Nat) (whole : Bool) : Prop where
  sp : pre ++ rest = s
  eq : rdN lines pre rest t fp out = R
  bg : t ≠ [] → fp = s.take from_ ∧ whole = bol fp
  fl : from_ ≤ s.length
  ol : out.length ≤ 2 * pre.length
  tl : t.length ≤ pre.length
theorem trimQ_nil (w : Bool) : trimQ [] w = [] := by unfold trimQ; split <;> rfl
theorem RqOk.trim {s : List UInt8} {lines : Bool} {R : Except Int (List Part)} {pre rest t fp : List UInt8} {out : List Part} {from_ : Nat} {whole : Bool} (h : RqOk s lines R pre rest t fp out from_ whole) : trimQ t whole = trim t fp := by
  cases t with
  | nil => rw [trimQ_nil, trim_eqQ, trimQ_nil]
  | cons x t => rw [trim_eqQ, (h.bg (by simp)).2]
theorem RqOk.close {s : List UInt8} {lines : Bool} {R : Except Int (List Part)} {pre rest t fp : List UInt8} {out : List Part} {from_ : Nat} {whole : Bool} (h : RqOk s lines R pre rest t fp out from_ whole) (u : List UInt8) (hu : u ≠ [] → t ≠ []) : close u fp out = outC out u (ln (s.take from_)) :=
  close_eq out fun h0 => by rw [(h.bg (hu h0)).1]
theorem trim_ne {t fp : List UInt8} (h : trim t fp ≠ []) : t ≠ [] := fun e => h (by rw [e, trim_eqQ, trimQ_nil])

set_option maxHeartbeats 2000000 in
theorem RParts_c (s : List UInt8) (lines : Bool) (hs : s.length ≤ 200000000000000) : SpecF Tryz.prog 24 [.string (bs s), .bool lines] MaxF (PartsR (parts s lines)) := by
  refine specF hm Tryz.func24 (by kernel_rfl) rfl rfl ?_
  ((conv => whnf); (repeat ((first | refine BoxN.own ?_ | refine VrN.norm (wrap_i64 (by omega)) ?_ | refine VrN.keep ?_ | refine DrawN.calm (by decide +kernel) ?_ | refine Nd.mk (by decide +kernel) ?_ | refine Nd.mk (by omega) ?_ | (refine Nd.mk ?_ ?_; focus ((repeat' (first | exact trivial | exact wkE_refl _ | refine And.intro ?_ ?_)); done)) | refine RdN.intro _ rfl (by rfl) ?_); (conv => whnf))))
  rw [bs_size]
  refine brd_dec (fun h => ?_) (fun h => ?_)
  · have hp : parts s lines = ([], 0, 2) := by unfold parts; rw [if_pos (by omega)]
    rw [hp]
    ((conv => whnf); (repeat ((first | refine BoxN.own ?_ | refine VrN.norm (wrap_i64 (by omega)) ?_ | refine VrN.keep ?_ | refine DrawN.calm (by decide +kernel) ?_ | refine Nd.mk (by decide +kernel) ?_ | refine Nd.mk (by omega) ?_ | (refine Nd.mk ?_ ?_; focus ((repeat' (first | exact trivial | exact wkE_refl _ | refine And.intro ?_ ?_)); done)) | refine RdN.intro _ rfl (by rfl) ?_); (conv => whnf))))
    exact fin_p (fun w => MaxF w) ⟨none, 0, rfl, fun _ => rfl, fun _ _ => SlAt.nil⟩ (fun w hw => hw.1)
  have hl : s.length ≤ 50000 := by omega
  rw [parts_ok s lines hl]
  generalize hR : rdN lines [] s [] [] [] = R
  ((conv => whnf); (repeat ((first | refine BoxN.own ?_ | refine VrN.norm (wrap_i64 (by omega)) ?_ | refine VrN.keep ?_ | refine DrawN.calm (by decide +kernel) ?_ | refine Nd.mk (by decide +kernel) ?_ | refine Nd.mk (by omega) ?_ | (refine Nd.mk ?_ ?_; focus ((repeat' (first | exact trivial | exact wkE_refl _ | refine And.intro ?_ ?_)); done)) | refine RdN.intro _ rfl (by rfl) ?_); (conv => whnf))))
  refine LoopN.intro (List UInt8 × List UInt8 × List UInt8 × List UInt8 × List Part × Nat × Bool × BSt) (fun ⟨pre, rest, t, fp, out, from_, whole, o⟩ => RqOk s lines R pre rest t fp out from_ whole ∧ o.ok out.length) (fun _ => mkS Tryz.f24.ntmps 0 [(0, .c (.v (.string (bs s)))), (1, .c (.v (.bool lines))), (7, .c (.lp 1 0))])
    (fun ⟨pre, _, t, _, out, from_, whole, o⟩ => .fact MaxF :: QH ⟨s, pre.length, t, from_, whole, out⟩ o) (fun ⟨_, rest, _⟩ => rest.length) [.app 0 0 [] none 0 0] rfl
    (fun _ => rfl) (fun _ => rfl) (fun _ _ => okHB_eq rfl) ⟨([], s, [], [], [], 0, false, ⟨none, 0⟩), ⟨⟨rfl, hR, fun h => absurd rfl h, Nat.zero_le _, by simp, by simp⟩, ⟨fun _ => ⟨rfl, rfl⟩, Nat.le_refl _, fun _ => rfl⟩⟩, ?_, ?_⟩ ?_
  · (repeat' (first | exact trivial | refine And.intro (by with_reducible rfl) ?_ | (with_reducible exact wkC_refl _) | (with_reducible exact wkCs_refl _) | refine And.intro ?_ ?_))
    all_goals rfl
  · exact ⟨wkE_refl _, wkH_cons rfl ⟨wkE_nil, wkH_nil _⟩⟩
  rintro ⟨pre, rest, t, fp, out, from_, whole, o⟩ ⟨hi, ok⟩
  have hlen := congrArg List.length hi.sp
  rw [List.length_append] at hlen
  have hol := hi.ol
  have htl := hi.tl
  cases rest with
  | nil =>
    have hR2 : R = .ok (outC out t (ln (s.take from_))) := by rw [← hi.eq, rdN_nil, hi.close t id]
    subst hR2
    have hw : (pre.length : Int) < (s.length : Int) → False := by simp at hlen; omega
    ((conv => whnf); (repeat ((first | refine BoxN.own ?_ | refine VrN.norm (wrap_i64 (by omega)) ?_ | refine VrN.keep ?_ | refine DrawN.calm (by decide +kernel) ?_ | refine Nd.mk (by decide +kernel) ?_ | refine Nd.mk (by omega) ?_ | (refine Nd.mk ?_ ?_; focus ((repeat' (first | exact trivial | exact wkE_refl _ | refine And.intro ?_ ?_)); done)) | refine RdN.intro _ rfl (by rfl) ?_); (conv => whnf))))
    rw [bs_size]
    refine brd_dec (fun h => (hw h).elim) (fun _ => ?_)
    ((conv => whnf); (repeat ((first | refine BoxN.own ?_ | refine VrN.norm (wrap_i64 (by omega)) ?_ | refine VrN.keep ?_ | refine DrawN.calm (by decide +kernel) ?_ | refine Nd.mk (by decide +kernel) ?_ | refine Nd.mk (by omega) ?_ | (refine Nd.mk ?_ ?_; focus ((repeat' (first | exact trivial | exact wkE_refl _ | refine And.intro ?_ ?_)); done)) | refine RdN.intro _ rfl (by rfl) ?_); (conv => whnf))))
    refine callG (close_c s pre.length t from_ whole out o ok hi.fl (by omega) (by omega)) [1, 2] rfl ⟨rfl, rfl, trivial⟩ rfl fun o1 ok1 => ?_
    ((conv => whnf); (repeat ((first | refine BoxN.own ?_ | refine VrN.norm (wrap_i64 (by omega)) ?_ | refine VrN.keep ?_ | refine DrawN.calm (by decide +kernel) ?_ | refine Nd.mk (by decide +kernel) ?_ | refine Nd.mk (by omega) ?_ | (refine Nd.mk ?_ ?_; focus ((repeat' (first | exact trivial | exact wkE_refl _ | refine And.intro ?_ ?_)); done)) | refine RdN.intro _ rfl (by rfl) ?_); (conv => whnf))))
    refine fin_p (fun w => SlAt (at0 o1.ob) ((outC out t (ln (s.take from_))).length * 3) (partsC (outC out t (ln (s.take from_)))) w) ⟨o1.ob, o1.cap, rfl, fun h => ?_, fun _ h => h⟩ (fun w hw => hw.2.1)
    exact List.eq_nil_of_length_eq_zero (ok1.1 h).1
  | cons c r =>
    have heq := hi.eq
    simp only [List.length_cons] at hlen
    rw [rdN_cons] at heq
    have htk : s.take pre.length = pre := by rw [← hi.sp]; exact List.take_left
    have next : ∀ (x q b : List UInt8), pre ++ x ++ q = s → rdN lines (pre ++ x) q (t ++ b) (fpOf t fp pre) out = R → b.length ≤ x.length → RqOk s lines R (pre ++ x) q (t ++ b) (fpOf t fp pre) out (fromQ t pre.length from_) (wholeQ t (bol pre) whole) := fun x q b h1 h2 h3 => by
      refine ⟨h1, h2, fun _ => ?_, ?_, by simp; omega, by simp; omega⟩
      · cases t with
        | nil => exact ⟨htk.symm, rfl⟩
        | cons y t => exact hi.bg (by simp)
      · unfold fromQ; split
        · omega
        · exact hi.fl
    ((conv => whnf); (repeat ((first | refine BoxN.own ?_ | refine VrN.norm (wrap_i64 (by omega)) ?_ | refine VrN.keep ?_ | refine DrawN.calm (by decide +kernel) ?_ | refine Nd.mk (by decide +kernel) ?_ | refine Nd.mk (by omega) ?_ | (refine Nd.mk ?_ ?_; focus ((repeat' (first | exact trivial | exact wkE_refl _ | refine And.intro ?_ ?_)); done)) | refine RdN.intro _ rfl (by rfl) ?_); (conv => whnf))))
    rw [bs_size]
    refine brd_dec (fun _ => ?_) (fun h => absurd (show (pre.length : Int) < (s.length : Int) by omega) h)
    ((conv => whnf); (repeat ((first | refine BoxN.own ?_ | refine VrN.norm (wrap_i64 (by omega)) ?_ | refine VrN.keep ?_ | refine DrawN.calm (by decide +kernel) ?_ | refine Nd.mk (by decide +kernel) ?_ | refine Nd.mk (by omega) ?_ | (refine Nd.mk ?_ ?_; focus ((repeat' (first | exact trivial | exact wkE_refl _ | refine And.intro ?_ ?_)); done)) | refine RdN.intro _ rfl (by rfl) ?_); (conv => whnf))))
    refine ReadW.sl_at pre (c :: r) hi.sp.symm rfl (by kernel_rfl) rfl rfl rfl ?_
    ((conv => whnf); (repeat ((first | refine BoxN.own ?_ | refine VrN.norm (wrap_i64 (by omega)) ?_ | refine VrN.keep ?_ | refine DrawN.calm (by decide +kernel) ?_ | refine Nd.mk (by decide +kernel) ?_ | refine Nd.mk (by omega) ?_ | (refine Nd.mk ?_ ?_; focus ((repeat' (first | exact trivial | exact wkE_refl _ | refine And.intro ?_ ?_)); done)) | refine RdN.intro _ rfl (by rfl) ?_); (conv => whnf))))
    refine brd_intro (fun hl => ?_) (fun hl => ?_)
    · have hl : lines = true := hl
      ((conv => whnf); (repeat ((first | refine BoxN.own ?_ | refine VrN.norm (wrap_i64 (by omega)) ?_ | refine VrN.keep ?_ | refine DrawN.calm (by decide +kernel) ?_ | refine Nd.mk (by decide +kernel) ?_ | refine Nd.mk (by omega) ?_ | (refine Nd.mk ?_ ?_; focus ((repeat' (first | exact trivial | exact wkE_refl _ | refine And.intro ?_ ?_)); done)) | refine RdN.intro _ rfl (by rfl) ?_); (conv => whnf))))
      refine callG (begins_c s pre.length t from_ whole out o ok (by omega) (by omega)) [1, 2] rfl ⟨rfl, rfl, trivial⟩ rfl fun o ok => ?_
      rw [htk]
      ((conv => whnf); (repeat ((first | refine BoxN.own ?_ | refine VrN.norm (wrap_i64 (by omega)) ?_ | refine VrN.keep ?_ | refine DrawN.calm (by decide +kernel) ?_ | refine Nd.mk (by decide +kernel) ?_ | refine Nd.mk (by omega) ?_ | (refine Nd.mk ?_ ?_; focus ((repeat' (first | exact trivial | exact wkE_refl _ | refine And.intro ?_ ?_)); done)) | refine RdN.intro _ rfl (by rfl) ?_); (conv => whnf))))
      refine brd_intro (fun hb => ?_) (fun hb => ?_)
      · (((conv => whnf); (repeat ((first | refine BoxN.own ?_ | refine VrN.norm (wrap_i64 (by omega)) ?_ | refine VrN.keep ?_ | refine DrawN.calm (by decide +kernel) ?_ | refine Nd.mk (by decide +kernel) ?_ | refine Nd.mk (by omega) ?_ | (refine Nd.mk ?_ ?_; focus ((repeat' (first | exact trivial | exact wkE_refl _ | refine And.intro ?_ ?_)); done)) | refine RdN.intro _ rfl (by rfl) ?_); (conv => whnf)))); first | refine call1 (HasPrefix_c (c :: r) [37, 37] _) ?_ | refine callQ (HasPrefix_c (c :: r) [37, 37] _) ?_)
        ((conv => whnf); (repeat ((first | refine BoxN.own ?_ | refine VrN.norm (wrap_i64 (by omega)) ?_ | refine VrN.keep ?_ | refine DrawN.calm (by decide +kernel) ?_ | refine Nd.mk (by decide +kernel) ?_ | refine Nd.mk (by omega) ?_ | (refine Nd.mk ?_ ?_; focus ((repeat' (first | exact trivial | exact wkE_refl _ | refine And.intro ?_ ?_)); done)) | refine RdN.intro _ rfl (by rfl) ?_); (conv => whnf))))
        refine brd_intro (fun hp => ?_) (fun hp => ?_)
        · rw [if_pos (by rw [hl, hb, hp]; rfl)] at heq
          obtain ⟨q, hq⟩ := pfx_split hp
          have htk2 : (c :: r).take 2 = [37, 37] := pfx_take hp
          have hdr2 : (c :: r).drop 2 = q := by rw [hq]; rfl
          rw [htk2, hdr2] at heq
          have hq2 := congrArg List.length hq
          simp only [List.length_append, List.length_cons, List.length_nil] at hq2
          ((conv => whnf); (repeat ((first | refine BoxN.own ?_ | refine VrN.norm (wrap_i64 (by omega)) ?_ | refine VrN.keep ?_ | refine DrawN.calm (by decide +kernel) ?_ | refine Nd.mk (by decide +kernel) ?_ | refine Nd.mk (by omega) ?_ | (refine Nd.mk ?_ ?_; focus ((repeat' (first | exact trivial | exact wkE_refl _ | refine And.intro ?_ ?_)); done)) | refine RdN.intro _ rfl (by rfl) ?_); (conv => whnf))))
          refine callG (put_c s pre.length t from_ whole out o [37] ok (by omega) (by omega) (by omega) (by simp)) [1, 2] rfl ⟨rfl, rfl, trivial⟩ rfl fun o2 ok2 => ?_
          rw [htk]
          ((conv => whnf); (repeat ((first | refine BoxN.own ?_ | refine VrN.norm (wrap_i64 (by omega)) ?_ | refine VrN.keep ?_ | refine DrawN.calm (by decide +kernel) ?_ | refine Nd.mk (by decide +kernel) ?_ | refine Nd.mk (by omega) ?_ | (refine Nd.mk ?_ ?_; focus ((repeat' (first | exact trivial | exact wkE_refl _ | refine And.intro ?_ ?_)); done)) | refine RdN.intro _ rfl (by rfl) ?_); (conv => whnf))))
          refine ⟨(pre ++ [37, 37], q, t ++ [37], fpOf t fp pre, out, fromQ t pre.length from_, wholeQ t (bol pre) whole, o2), ⟨next [37, 37] q [37] (by rw [← hi.sp, hq]; simp) heq (by simp), ok2⟩, by show q.length < (c :: r).length; rw [hq]; simp; omega, ?_, ?_⟩
          · (repeat' (first | exact trivial | refine And.intro (by with_reducible rfl) ?_ | (with_reducible exact wkC_refl _) | (with_reducible exact wkCs_refl _) | refine And.intro ?_ ?_))
            all_goals rfl
          · refine ⟨wkE_refl _, wkH_cons ?_ (wkH_cons rfl (wkH_nil _))⟩
            simp only [rnCs, rnC]
            rw [show IntKind.wrap .i64 ((pre.length : Int) + 2) = ((pre ++ [37, 37]).length : Int) by rw [wrap_i64 (by omega)]; simp]
        rw [if_neg (by simp [hp])] at heq
        ((conv => whnf); (repeat ((first | refine BoxN.own ?_ | refine VrN.norm (wrap_i64 (by omega)) ?_ | refine VrN.keep ?_ | refine DrawN.calm (by decide +kernel) ?_ | refine Nd.mk (by decide +kernel) ?_ | refine Nd.mk (by omega) ?_ | (refine Nd.mk ?_ ?_; focus ((repeat' (first | exact trivial | exact wkE_refl _ | refine And.intro ?_ ?_)); done)) | refine RdN.intro _ rfl (by rfl) ?_); (conv => whnf))))
        refine brdT hb ?_
        (((conv => whnf); (repeat ((first | refine BoxN.own ?_ | refine VrN.norm (wrap_i64 (by omega)) ?_ | refine VrN.keep ?_ | refine DrawN.calm (by decide +kernel) ?_ | refine Nd.mk (by decide +kernel) ?_ | refine Nd.mk (by omega) ?_ | (refine Nd.mk ?_ ?_; focus ((repeat' (first | exact trivial | exact wkE_refl _ | refine And.intro ?_ ?_)); done)) | refine RdN.intro _ rfl (by rfl) ?_); (conv => whnf)))); first | refine call1 (HasPrefix_c (c :: r) [37] _) ?_ | refine callQ (HasPrefix_c (c :: r) [37] _) ?_)
        ((conv => whnf); (repeat ((first | refine BoxN.own ?_ | refine VrN.norm (wrap_i64 (by omega)) ?_ | refine VrN.keep ?_ | refine DrawN.calm (by decide +kernel) ?_ | refine Nd.mk (by decide +kernel) ?_ | refine Nd.mk (by omega) ?_ | (refine Nd.mk ?_ ?_; focus ((repeat' (first | exact trivial | exact wkE_refl _ | refine And.intro ?_ ?_)); done)) | refine RdN.intro _ rfl (by rfl) ?_); (conv => whnf))))
        refine brd_intro (fun hp1 => ?_) (fun hp1 => ?_)
        · have hc : c = 37 := by simp [List.isPrefixOf] at hp1; exact hp1.symm
          rw [if_pos (by rw [hl, hb, hc]; rfl), hi.close t id] at heq
          have hsp := hi.sp
          subst hsp
          have hTl : (r.takeWhile (· != 10)).length ≤ r.length := (List.takeWhile_prefix _).length_le
          have hol2 := outC_len out t (ln ((pre ++ c :: r).take from_))
          ((conv => whnf); (repeat ((first | refine BoxN.own ?_ | refine VrN.norm (wrap_i64 (by omega)) ?_ | refine VrN.keep ?_ | refine DrawN.calm (by decide +kernel) ?_ | refine Nd.mk (by decide +kernel) ?_ | refine Nd.mk (by omega) ?_ | (refine Nd.mk ?_ ?_; focus ((repeat' (first | exact trivial | exact wkE_refl _ | refine And.intro ?_ ?_)); done)) | refine RdN.intro _ rfl (by rfl) ?_); (conv => whnf))))
          refine callG (row_c pre c r t from_ whole out o ok hi.fl (by omega) (by omega)) [1, 2, 0] rfl ⟨rfl, rfl, rfl, trivial⟩ rfl fun o2 ok2 => ?_
          ((conv => whnf); (repeat ((first | refine BoxN.own ?_ | refine VrN.norm (wrap_i64 (by omega)) ?_ | refine VrN.keep ?_ | refine DrawN.calm (by decide +kernel) ?_ | refine Nd.mk (by decide +kernel) ?_ | refine Nd.mk (by omega) ?_ | (refine Nd.mk ?_ ?_; focus ((repeat' (first | exact trivial | exact wkE_refl _ | refine And.intro ?_ ?_)); done)) | refine RdN.intro _ rfl (by rfl) ?_); (conv => whnf))))
          refine ⟨(_, _, [], fp, _, from_, whole, o2), ⟨⟨?_, heq, fun h => absurd rfl h, hi.fl, ?_, by simp⟩, ok2⟩, ?_, ?_, wkH_refl _⟩
          · rw [List.append_assoc, List.take_append_drop]
          · simp only [List.length_append, List.length_take, List.length_cons, List.length_nil]
            omega
          · show ((c :: r).drop (1 + (r.takeWhile (· != 10)).length + 1)).length < (c :: r).length
            simp
            omega
          · (repeat' (first | exact trivial | refine And.intro (by with_reducible rfl) ?_ | (with_reducible exact wkC_refl _) | (with_reducible exact wkCs_refl _) | refine And.intro ?_ ?_))
            all_goals rfl
        have hc : ¬ c = 37 := fun h => by subst h; simp [List.isPrefixOf] at hp1
        rw [if_neg (by simp [hc])] at heq
        (((conv => whnf); (repeat ((first | refine BoxN.own ?_ | refine VrN.norm (wrap_i64 (by omega)) ?_ | refine VrN.keep ?_ | refine DrawN.calm (by decide +kernel) ?_ | refine Nd.mk (by decide +kernel) ?_ | refine Nd.mk (by omega) ?_ | (refine Nd.mk ?_ ?_; focus ((repeat' (first | exact trivial | exact wkE_refl _ | refine And.intro ?_ ?_)); done)) | refine RdN.intro _ rfl (by rfl) ?_); (conv => whnf)))); first | refine call1 (HasPrefix_c (c :: r) [60, 37, 37] _) ?_ | refine callQ (HasPrefix_c (c :: r) [60, 37, 37] _) ?_)
        ((conv => whnf); (repeat ((first | refine BoxN.own ?_ | refine VrN.norm (wrap_i64 (by omega)) ?_ | refine VrN.keep ?_ | refine DrawN.calm (by decide +kernel) ?_ | refine Nd.mk (by decide +kernel) ?_ | refine Nd.mk (by omega) ?_ | (refine Nd.mk ?_ ?_; focus ((repeat' (first | exact trivial | exact wkE_refl _ | refine And.intro ?_ ?_)); done)) | refine RdN.intro _ rfl (by rfl) ?_); (conv => whnf))))
        refine brd_intro (fun h1 => ?_) (fun h1 => ?_)
        · rw [if_pos h1] at heq
          obtain ⟨q, hq⟩ := pfx_split h1
          have htk3 : (c :: r).take 3 = [60, 37, 37] := pfx_take h1
          have hdr3 : (c :: r).drop 3 = q := by rw [hq]; rfl
          rw [htk3, hdr3] at heq
          have hq2 := congrArg List.length hq
          simp only [List.length_append, List.length_cons, List.length_nil] at hq2
          ((conv => whnf); (repeat ((first | refine BoxN.own ?_ | refine VrN.norm (wrap_i64 (by omega)) ?_ | refine VrN.keep ?_ | refine DrawN.calm (by decide +kernel) ?_ | refine Nd.mk (by decide +kernel) ?_ | refine Nd.mk (by omega) ?_ | (refine Nd.mk ?_ ?_; focus ((repeat' (first | exact trivial | exact wkE_refl _ | refine And.intro ?_ ?_)); done)) | refine RdN.intro _ rfl (by rfl) ?_); (conv => whnf))))
          refine callG (put_c s pre.length t from_ whole out o [60, 37] ok (by omega) (by omega) (by omega) (by simp)) [1, 2] rfl ⟨rfl, rfl, trivial⟩ rfl fun o2 ok2 => ?_
          rw [htk]
          ((conv => whnf); (repeat ((first | refine BoxN.own ?_ | refine VrN.norm (wrap_i64 (by omega)) ?_ | refine VrN.keep ?_ | refine DrawN.calm (by decide +kernel) ?_ | refine Nd.mk (by decide +kernel) ?_ | refine Nd.mk (by omega) ?_ | (refine Nd.mk ?_ ?_; focus ((repeat' (first | exact trivial | exact wkE_refl _ | refine And.intro ?_ ?_)); done)) | refine RdN.intro _ rfl (by rfl) ?_); (conv => whnf))))
          refine ⟨(pre ++ [60, 37, 37], q, t ++ [60, 37], fpOf t fp pre, out, fromQ t pre.length from_, wholeQ t (bol pre) whole, o2), ⟨next [60, 37, 37] q [60, 37] (by rw [← hi.sp, hq]; simp) heq (by simp), ok2⟩, by show q.length < (c :: r).length; rw [hq]; simp; omega, ?_, ?_⟩
          · (repeat' (first | exact trivial | refine And.intro (by with_reducible rfl) ?_ | (with_reducible exact wkC_refl _) | (with_reducible exact wkCs_refl _) | refine And.intro ?_ ?_))
            all_goals rfl
          · refine ⟨wkE_refl _, wkH_cons ?_ (wkH_cons rfl (wkH_nil _))⟩
            simp only [rnCs, rnC]
            rw [show IntKind.wrap .i64 ((pre.length : Int) + 3) = ((pre ++ [60, 37, 37]).length : Int) by rw [wrap_i64 (by omega)]; simp]
        rw [if_neg (by simp [h1])] at heq
        (((conv => whnf); (repeat ((first | refine BoxN.own ?_ | refine VrN.norm (wrap_i64 (by omega)) ?_ | refine VrN.keep ?_ | refine DrawN.calm (by decide +kernel) ?_ | refine Nd.mk (by decide +kernel) ?_ | refine Nd.mk (by omega) ?_ | (refine Nd.mk ?_ ?_; focus ((repeat' (first | exact trivial | exact wkE_refl _ | refine And.intro ?_ ?_)); done)) | refine RdN.intro _ rfl (by rfl) ?_); (conv => whnf)))); first | refine call1 (HasPrefix_c (c :: r) [60, 37] _) ?_ | refine callQ (HasPrefix_c (c :: r) [60, 37] _) ?_)
        ((conv => whnf); (repeat ((first | refine BoxN.own ?_ | refine VrN.norm (wrap_i64 (by omega)) ?_ | refine VrN.keep ?_ | refine DrawN.calm (by decide +kernel) ?_ | refine Nd.mk (by decide +kernel) ?_ | refine Nd.mk (by omega) ?_ | (refine Nd.mk ?_ ?_; focus ((repeat' (first | exact trivial | exact wkE_refl _ | refine And.intro ?_ ?_)); done)) | refine RdN.intro _ rfl (by rfl) ?_); (conv => whnf))))
        refine brd_intro (fun h2 => ?_) (fun h2 => ?_)
        · rw [if_pos h2] at heq
          obtain ⟨q, hq⟩ := pfx_split h2
          have hq : c :: r = 60 :: 37 :: q := hq
          rw [hq] at heq hi ⊢
          have hsp := hi.sp
          subst hsp
          have hq2 := congrArg List.length hq
          simp only [List.length_cons] at hq2
          have hT := rtag_c pre q t from_ whole out o ok hi.fl (by omega) (by omega) (by omega)
          rw [hi.trim] at hT
          rw [show (60 :: 37 :: q).drop 2 = q from rfl, show (60 :: 37 :: q).drop (2 + (opn q).2.2) = q.drop (opn q).2.2 from by rw [Nat.add_comm]; rfl] at heq
          rw [hi.close _ (fun h => by split at h; exact trim_ne h; exact h)] at heq
          ((conv => whnf); (repeat ((first | refine BoxN.own ?_ | refine VrN.norm (wrap_i64 (by omega)) ?_ | refine VrN.keep ?_ | refine DrawN.calm (by decide +kernel) ?_ | refine Nd.mk (by decide +kernel) ?_ | refine Nd.mk (by omega) ?_ | (refine Nd.mk ?_ ?_; focus ((repeat' (first | exact trivial | exact wkE_refl _ | refine And.intro ?_ ?_)); done)) | refine RdN.intro _ rfl (by rfl) ?_); (conv => whnf))))
          refine callG hT [1, 2] rfl ⟨rfl, rfl, trivial⟩ rfl fun i h => ?_
          obtain ⟨⟨s', at', t', from', whole', out'⟩, o'⟩ := i
          obtain ⟨ok', hs', ht', hf', hX⟩ := h
          have hs' : s' = pre ++ 60 :: 37 :: q := hs'
          have ht' : t' = [] := ht'
          subst hs'; subst ht'
          cases hXX : tgN (pre ++ (60 :: 37 :: q).take (2 + (opn q).2.2)) (q.drop (opn q).2.2) [] with
          | none =>
            rw [hXX] at heq hX
            have hat : at' = pre.length := hX
            subst hat
            subst heq
            (((conv => whnf); (repeat ((first | refine BoxN.own ?_ | refine VrN.norm (wrap_i64 (by omega)) ?_ | refine VrN.keep ?_ | refine DrawN.calm (by decide +kernel) ?_ | refine Nd.mk (by decide +kernel) ?_ | refine Nd.mk (by omega) ?_ | (refine Nd.mk ?_ ?_; focus ((repeat' (first | exact trivial | exact wkE_refl _ | refine And.intro ?_ ?_)); done)) | refine RdN.intro _ rfl (by rfl) ?_); (conv => whnf)))); first | refine call1 (line_c (pre ++ 60 :: 37 :: q) pre.length (by simp) (by omega) _) ?_ | refine callQ (line_c (pre ++ 60 :: 37 :: q) pre.length (by simp) (by omega) _) ?_)
            rw [List.take_left]
            ((conv => whnf); (repeat ((first | refine BoxN.own ?_ | refine VrN.norm (wrap_i64 (by omega)) ?_ | refine VrN.keep ?_ | refine DrawN.calm (by decide +kernel) ?_ | refine Nd.mk (by decide +kernel) ?_ | refine Nd.mk (by omega) ?_ | (refine Nd.mk ?_ ?_; focus ((repeat' (first | exact trivial | exact wkE_refl _ | refine And.intro ?_ ?_)); done)) | refine RdN.intro _ rfl (by rfl) ?_); (conv => whnf))))
            exact fin_p (fun w => MaxF w) ⟨none, 0, rfl, fun _ => rfl, fun _ _ => SlAt.nil⟩ (fun w hw => hw.1)
          | some x =>
            obtain ⟨p', r', code⟩ := x
            rw [hXX] at heq hX
            obtain ⟨hat, hout⟩ := hX
            have hat : at' = p'.length := hat
            have hout : out' = outC out (if (opn q).2.1 then trim t fp else t) (ln ((pre ++ 60 :: 37 :: q).take from_)) ++ [⟨(opn q).1, ln pre, code⟩] := hout
            subst hat; subst hout
            have hpr := tgN_len hXX
            have hlt := (tg_out _ _ _ _ _ _ _ hXX).1
            have hpl := congrArg List.length hpr
            simp only [List.length_append, List.length_take, List.length_drop, List.length_cons] at hpl hlt
            have hol2 := outC_len out (if (opn q).2.1 then trim t fp else t) (ln ((pre ++ 60 :: 37 :: q).take from_))
            have hop1 : (opn q).2.2 ≤ q.length := by
              unfold opn
              cases q with
              | nil => simp
              | cons y q =>
                simp only [List.head?_cons, List.length_cons]
                repeat' split
                all_goals (show _ ≤ _; simp only []; omega)
            ((conv => whnf); (repeat ((first | refine BoxN.own ?_ | refine VrN.norm (wrap_i64 (by omega)) ?_ | refine VrN.keep ?_ | refine DrawN.calm (by decide +kernel) ?_ | refine Nd.mk (by decide +kernel) ?_ | refine Nd.mk (by omega) ?_ | (refine Nd.mk ?_ ?_; focus ((repeat' (first | exact trivial | exact wkE_refl _ | refine And.intro ?_ ?_)); done)) | refine RdN.intro _ rfl (by rfl) ?_); (conv => whnf))))
            refine ⟨(p', r', [], fp, _, from', whole', o'), ⟨⟨?_, heq, fun h => absurd rfl h, hf', ?_, by simp⟩, ok'⟩, ?_, ?_, wkH_refl _⟩
            · rw [hpr, List.append_assoc, show q.drop (opn q).2.2 = (60 :: 37 :: q).drop (2 + (opn q).2.2) from by rw [Nat.add_comm]; rfl, List.take_append_drop]
            · rw [List.length_append]
              simp only [List.length_cons, List.length_nil]
              omega
            · show r'.length < (60 :: 37 :: q).length
              simp
              omega
            · (repeat' (first | exact trivial | refine And.intro (by with_reducible rfl) ?_ | (with_reducible exact wkC_refl _) | (with_reducible exact wkCs_refl _) | refine And.intro ?_ ?_))
              all_goals rfl
        rw [if_neg (by simp [h2])] at heq
        ((conv => whnf); (repeat ((first | refine BoxN.own ?_ | refine VrN.norm (wrap_i64 (by omega)) ?_ | refine VrN.keep ?_ | refine DrawN.calm (by decide +kernel) ?_ | refine Nd.mk (by decide +kernel) ?_ | refine Nd.mk (by omega) ?_ | (refine Nd.mk ?_ ?_; focus ((repeat' (first | exact trivial | exact wkE_refl _ | refine And.intro ?_ ?_)); done)) | refine RdN.intro _ rfl (by rfl) ?_); (conv => whnf))))
        refine ReadW.sl_h 1 rfl (by kernel_rfl) rfl rfl ⟨rfl, by simp⟩ ?_
        rw [show (c :: r).take 1 = [c] from rfl]
        ((conv => whnf); (repeat ((first | refine BoxN.own ?_ | refine VrN.norm (wrap_i64 (by omega)) ?_ | refine VrN.keep ?_ | refine DrawN.calm (by decide +kernel) ?_ | refine Nd.mk (by decide +kernel) ?_ | refine Nd.mk (by omega) ?_ | (refine Nd.mk ?_ ?_; focus ((repeat' (first | exact trivial | exact wkE_refl _ | refine And.intro ?_ ?_)); done)) | refine RdN.intro _ rfl (by rfl) ?_); (conv => whnf))))
        refine callG (put_c s pre.length t from_ whole out o [c] ok (by omega) (by omega) (by omega) (by simp)) [1, 2] rfl ⟨rfl, rfl, trivial⟩ rfl fun o2 ok2 => ?_
        rw [htk]
        ((conv => whnf); (repeat ((first | refine BoxN.own ?_ | refine VrN.norm (wrap_i64 (by omega)) ?_ | refine VrN.keep ?_ | refine DrawN.calm (by decide +kernel) ?_ | refine Nd.mk (by decide +kernel) ?_ | refine Nd.mk (by omega) ?_ | (refine Nd.mk ?_ ?_; focus ((repeat' (first | exact trivial | exact wkE_refl _ | refine And.intro ?_ ?_)); done)) | refine RdN.intro _ rfl (by rfl) ?_); (conv => whnf))))
        refine ⟨(pre ++ [c], r, t ++ [c], fpOf t fp pre, out, fromQ t pre.length from_, wholeQ t (bol pre) whole, o2), ⟨next [c] r [c] (by rw [← hi.sp]; simp) heq (by simp), ok2⟩, by show r.length < (c :: r).length; simp, ?_, ?_⟩
        · (repeat' (first | exact trivial | refine And.intro (by with_reducible rfl) ?_ | (with_reducible exact wkC_refl _) | (with_reducible exact wkCs_refl _) | refine And.intro ?_ ?_))
          all_goals rfl
        · refine ⟨wkE_refl _, wkH_cons ?_ (wkH_cons rfl (wkH_nil _))⟩
          simp only [rnCs, rnC]
          rw [show IntKind.wrap .i64 ((pre.length : Int) + 1) = ((pre ++ [c]).length : Int) by rw [wrap_i64 (by omega)]; simp]
      · have hb : bol pre = false := hb
        rw [if_neg (by simp [hb]), if_neg (by simp [hb])] at heq
        ((conv => whnf); (repeat ((first | refine BoxN.own ?_ | refine VrN.norm (wrap_i64 (by omega)) ?_ | refine VrN.keep ?_ | refine DrawN.calm (by decide +kernel) ?_ | refine Nd.mk (by decide +kernel) ?_ | refine Nd.mk (by omega) ?_ | (refine Nd.mk ?_ ?_; focus ((repeat' (first | exact trivial | exact wkE_refl _ | refine And.intro ?_ ?_)); done)) | refine RdN.intro _ rfl (by rfl) ?_); (conv => whnf))))
        refine brdF hb ?_
        (((conv => whnf); (repeat ((first | refine BoxN.own ?_ | refine VrN.norm (wrap_i64 (by omega)) ?_ | refine VrN.keep ?_ | refine DrawN.calm (by decide +kernel) ?_ | refine Nd.mk (by decide +kernel) ?_ | refine Nd.mk (by omega) ?_ | (refine Nd.mk ?_ ?_; focus ((repeat' (first | exact trivial | exact wkE_refl _ | refine And.intro ?_ ?_)); done)) | refine RdN.intro _ rfl (by rfl) ?_); (conv => whnf)))); first | refine call1 (HasPrefix_c (c :: r) [60, 37, 37] _) ?_ | refine callQ (HasPrefix_c (c :: r) [60, 37, 37] _) ?_)
        ((conv => whnf); (repeat ((first | refine BoxN.own ?_ | refine VrN.norm (wrap_i64 (by omega)) ?_ | refine VrN.keep ?_ | refine DrawN.calm (by decide +kernel) ?_ | refine Nd.mk (by decide +kernel) ?_ | refine Nd.mk (by omega) ?_ | (refine Nd.mk ?_ ?_; focus ((repeat' (first | exact trivial | exact wkE_refl _ | refine And.intro ?_ ?_)); done)) | refine RdN.intro _ rfl (by rfl) ?_); (conv => whnf))))
        refine brd_intro (fun h1 => ?_) (fun h1 => ?_)
        · rw [if_pos h1] at heq
          obtain ⟨q, hq⟩ := pfx_split h1
          have htk3 : (c :: r).take 3 = [60, 37, 37] := pfx_take h1
          have hdr3 : (c :: r).drop 3 = q := by rw [hq]; rfl
          rw [htk3, hdr3] at heq
          have hq2 := congrArg List.length hq
          simp only [List.length_append, List.length_cons, List.length_nil] at hq2
          ((conv => whnf); (repeat ((first | refine BoxN.own ?_ | refine VrN.norm (wrap_i64 (by omega)) ?_ | refine VrN.keep ?_ | refine DrawN.calm (by decide +kernel) ?_ | refine Nd.mk (by decide +kernel) ?_ | refine Nd.mk (by omega) ?_ | (refine Nd.mk ?_ ?_; focus ((repeat' (first | exact trivial | exact wkE_refl _ | refine And.intro ?_ ?_)); done)) | refine RdN.intro _ rfl (by rfl) ?_); (conv => whnf))))
          refine callG (put_c s pre.length t from_ whole out o [60, 37] ok (by omega) (by omega) (by omega) (by simp)) [1, 2] rfl ⟨rfl, rfl, trivial⟩ rfl fun o2 ok2 => ?_
          rw [htk]
          ((conv => whnf); (repeat ((first | refine BoxN.own ?_ | refine VrN.norm (wrap_i64 (by omega)) ?_ | refine VrN.keep ?_ | refine DrawN.calm (by decide +kernel) ?_ | refine Nd.mk (by decide +kernel) ?_ | refine Nd.mk (by omega) ?_ | (refine Nd.mk ?_ ?_; focus ((repeat' (first | exact trivial | exact wkE_refl _ | refine And.intro ?_ ?_)); done)) | refine RdN.intro _ rfl (by rfl) ?_); (conv => whnf))))
          refine ⟨(pre ++ [60, 37, 37], q, t ++ [60, 37], fpOf t fp pre, out, fromQ t pre.length from_, wholeQ t (bol pre) whole, o2), ⟨next [60, 37, 37] q [60, 37] (by rw [← hi.sp, hq]; simp) heq (by simp), ok2⟩, by show q.length < (c :: r).length; rw [hq]; simp; omega, ?_, ?_⟩
          · (repeat' (first | exact trivial | refine And.intro (by with_reducible rfl) ?_ | (with_reducible exact wkC_refl _) | (with_reducible exact wkCs_refl _) | refine And.intro ?_ ?_))
            all_goals rfl
          · refine ⟨wkE_refl _, wkH_cons ?_ (wkH_cons rfl (wkH_nil _))⟩
            simp only [rnCs, rnC]
            rw [show IntKind.wrap .i64 ((pre.length : Int) + 3) = ((pre ++ [60, 37, 37]).length : Int) by rw [wrap_i64 (by omega)]; simp]
        rw [if_neg (by simp [h1])] at heq
        (((conv => whnf); (repeat ((first | refine BoxN.own ?_ | refine VrN.norm (wrap_i64 (by omega)) ?_ | refine VrN.keep ?_ | refine DrawN.calm (by decide +kernel) ?_ | refine Nd.mk (by decide +kernel) ?_ | refine Nd.mk (by omega) ?_ | (refine Nd.mk ?_ ?_; focus ((repeat' (first | exact trivial | exact wkE_refl _ | refine And.intro ?_ ?_)); done)) | refine RdN.intro _ rfl (by rfl) ?_); (conv => whnf)))); first | refine call1 (HasPrefix_c (c :: r) [60, 37] _) ?_ | refine callQ (HasPrefix_c (c :: r) [60, 37] _) ?_)
        ((conv => whnf); (repeat ((first | refine BoxN.own ?_ | refine VrN.norm (wrap_i64 (by omega)) ?_ | refine VrN.keep ?_ | refine DrawN.calm (by decide +kernel) ?_ | refine Nd.mk (by decide +kernel) ?_ | refine Nd.mk (by omega) ?_ | (refine Nd.mk ?_ ?_; focus ((repeat' (first | exact trivial | exact wkE_refl _ | refine And.intro ?_ ?_)); done)) | refine RdN.intro _ rfl (by rfl) ?_); (conv => whnf))))
        refine brd_intro (fun h2 => ?_) (fun h2 => ?_)
        · rw [if_pos h2] at heq
          obtain ⟨q, hq⟩ := pfx_split h2
          have hq : c :: r = 60 :: 37 :: q := hq
          rw [hq] at heq hi ⊢
          have hsp := hi.sp
          subst hsp
          have hq2 := congrArg List.length hq
          simp only [List.length_cons] at hq2
          have hT := rtag_c pre q t from_ whole out o ok hi.fl (by omega) (by omega) (by omega)
          rw [hi.trim] at hT
          rw [show (60 :: 37 :: q).drop 2 = q from rfl, show (60 :: 37 :: q).drop (2 + (opn q).2.2) = q.drop (opn q).2.2 from by rw [Nat.add_comm]; rfl] at heq
          rw [hi.close _ (fun h => by split at h; exact trim_ne h; exact h)] at heq
          ((conv => whnf); (repeat ((first | refine BoxN.own ?_ | refine VrN.norm (wrap_i64 (by omega)) ?_ | refine VrN.keep ?_ | refine DrawN.calm (by decide +kernel) ?_ | refine Nd.mk (by decide +kernel) ?_ | refine Nd.mk (by omega) ?_ | (refine Nd.mk ?_ ?_; focus ((repeat' (first | exact trivial | exact wkE_refl _ | refine And.intro ?_ ?_)); done)) | refine RdN.intro _ rfl (by rfl) ?_); (conv => whnf))))
          refine callG hT [1, 2] rfl ⟨rfl, rfl, trivial⟩ rfl fun i h => ?_
          obtain ⟨⟨s', at', t', from', whole', out'⟩, o'⟩ := i
          obtain ⟨ok', hs', ht', hf', hX⟩ := h
          have hs' : s' = pre ++ 60 :: 37 :: q := hs'
          have ht' : t' = [] := ht'
          subst hs'; subst ht'
          cases hXX : tgN (pre ++ (60 :: 37 :: q).take (2 + (opn q).2.2)) (q.drop (opn q).2.2) [] with
          | none =>
            rw [hXX] at heq hX
            have hat : at' = pre.length := hX
            subst hat
            subst heq
            (((conv => whnf); (repeat ((first | refine BoxN.own ?_ | refine VrN.norm (wrap_i64 (by omega)) ?_ | refine VrN.keep ?_ | refine DrawN.calm (by decide +kernel) ?_ | refine Nd.mk (by decide +kernel) ?_ | refine Nd.mk (by omega) ?_ | (refine Nd.mk ?_ ?_; focus ((repeat' (first | exact trivial | exact wkE_refl _ | refine And.intro ?_ ?_)); done)) | refine RdN.intro _ rfl (by rfl) ?_); (conv => whnf)))); first | refine call1 (line_c (pre ++ 60 :: 37 :: q) pre.length (by simp) (by omega) _) ?_ | refine callQ (line_c (pre ++ 60 :: 37 :: q) pre.length (by simp) (by omega) _) ?_)
            rw [List.take_left]
            ((conv => whnf); (repeat ((first | refine BoxN.own ?_ | refine VrN.norm (wrap_i64 (by omega)) ?_ | refine VrN.keep ?_ | refine DrawN.calm (by decide +kernel) ?_ | refine Nd.mk (by decide +kernel) ?_ | refine Nd.mk (by omega) ?_ | (refine Nd.mk ?_ ?_; focus ((repeat' (first | exact trivial | exact wkE_refl _ | refine And.intro ?_ ?_)); done)) | refine RdN.intro _ rfl (by rfl) ?_); (conv => whnf))))
            exact fin_p (fun w => MaxF w) ⟨none, 0, rfl, fun _ => rfl, fun _ _ => SlAt.nil⟩ (fun w hw => hw.1)
          | some x =>
            obtain ⟨p', r', code⟩ := x
            rw [hXX] at heq hX
            obtain ⟨hat, hout⟩ := hX
            have hat : at' = p'.length := hat
            have hout : out' = outC out (if (opn q).2.1 then trim t fp else t) (ln ((pre ++ 60 :: 37 :: q).take from_)) ++ [⟨(opn q).1, ln pre, code⟩] := hout
            subst hat; subst hout
            have hpr := tgN_len hXX
            have hlt := (tg_out _ _ _ _ _ _ _ hXX).1
            have hpl := congrArg List.length hpr
            simp only [List.length_append, List.length_take, List.length_drop, List.length_cons] at hpl hlt
            have hol2 := outC_len out (if (opn q).2.1 then trim t fp else t) (ln ((pre ++ 60 :: 37 :: q).take from_))
            have hop1 : (opn q).2.2 ≤ q.length := by
              unfold opn
              cases q with
              | nil => simp
              | cons y q =>
                simp only [List.head?_cons, List.length_cons]
                repeat' split
                all_goals (show _ ≤ _; simp only []; omega)
            ((conv => whnf); (repeat ((first | refine BoxN.own ?_ | refine VrN.norm (wrap_i64 (by omega)) ?_ | refine VrN.keep ?_ | refine DrawN.calm (by decide +kernel) ?_ | refine Nd.mk (by decide +kernel) ?_ | refine Nd.mk (by omega) ?_ | (refine Nd.mk ?_ ?_; focus ((repeat' (first | exact trivial | exact wkE_refl _ | refine And.intro ?_ ?_)); done)) | refine RdN.intro _ rfl (by rfl) ?_); (conv => whnf))))
            refine ⟨(p', r', [], fp, _, from', whole', o'), ⟨⟨?_, heq, fun h => absurd rfl h, hf', ?_, by simp⟩, ok'⟩, ?_, ?_, wkH_refl _⟩
            · rw [hpr, List.append_assoc, show q.drop (opn q).2.2 = (60 :: 37 :: q).drop (2 + (opn q).2.2) from by rw [Nat.add_comm]; rfl, List.take_append_drop]
            · rw [List.length_append]
              simp only [List.length_cons, List.length_nil]
              omega
            · show r'.length < (60 :: 37 :: q).length
              simp
              omega
            · (repeat' (first | exact trivial | refine And.intro (by with_reducible rfl) ?_ | (with_reducible exact wkC_refl _) | (with_reducible exact wkCs_refl _) | refine And.intro ?_ ?_))
              all_goals rfl
        rw [if_neg (by simp [h2])] at heq
        ((conv => whnf); (repeat ((first | refine BoxN.own ?_ | refine VrN.norm (wrap_i64 (by omega)) ?_ | refine VrN.keep ?_ | refine DrawN.calm (by decide +kernel) ?_ | refine Nd.mk (by decide +kernel) ?_ | refine Nd.mk (by omega) ?_ | (refine Nd.mk ?_ ?_; focus ((repeat' (first | exact trivial | exact wkE_refl _ | refine And.intro ?_ ?_)); done)) | refine RdN.intro _ rfl (by rfl) ?_); (conv => whnf))))
        refine ReadW.sl_h 1 rfl (by kernel_rfl) rfl rfl ⟨rfl, by simp⟩ ?_
        rw [show (c :: r).take 1 = [c] from rfl]
        ((conv => whnf); (repeat ((first | refine BoxN.own ?_ | refine VrN.norm (wrap_i64 (by omega)) ?_ | refine VrN.keep ?_ | refine DrawN.calm (by decide +kernel) ?_ | refine Nd.mk (by decide +kernel) ?_ | refine Nd.mk (by omega) ?_ | (refine Nd.mk ?_ ?_; focus ((repeat' (first | exact trivial | exact wkE_refl _ | refine And.intro ?_ ?_)); done)) | refine RdN.intro _ rfl (by rfl) ?_); (conv => whnf))))
        refine callG (put_c s pre.length t from_ whole out o [c] ok (by omega) (by omega) (by omega) (by simp)) [1, 2] rfl ⟨rfl, rfl, trivial⟩ rfl fun o2 ok2 => ?_
        rw [htk]
        ((conv => whnf); (repeat ((first | refine BoxN.own ?_ | refine VrN.norm (wrap_i64 (by omega)) ?_ | refine VrN.keep ?_ | refine DrawN.calm (by decide +kernel) ?_ | refine Nd.mk (by decide +kernel) ?_ | refine Nd.mk (by omega) ?_ | (refine Nd.mk ?_ ?_; focus ((repeat' (first | exact trivial | exact wkE_refl _ | refine And.intro ?_ ?_)); done)) | refine RdN.intro _ rfl (by rfl) ?_); (conv => whnf))))
        refine ⟨(pre ++ [c], r, t ++ [c], fpOf t fp pre, out, fromQ t pre.length from_, wholeQ t (bol pre) whole, o2), ⟨next [c] r [c] (by rw [← hi.sp]; simp) heq (by simp), ok2⟩, by show r.length < (c :: r).length; simp, ?_, ?_⟩
        · (repeat' (first | exact trivial | refine And.intro (by with_reducible rfl) ?_ | (with_reducible exact wkC_refl _) | (with_reducible exact wkCs_refl _) | refine And.intro ?_ ?_))
          all_goals rfl
        · refine ⟨wkE_refl _, wkH_cons ?_ (wkH_cons rfl (wkH_nil _))⟩
          simp only [rnCs, rnC]
          rw [show IntKind.wrap .i64 ((pre.length : Int) + 1) = ((pre ++ [c]).length : Int) by rw [wrap_i64 (by omega)]; simp]
    · have hl : lines = false := hl
      rw [if_neg (by simp [hl]), if_neg (by simp [hl])] at heq
      (((conv => whnf); (repeat ((first | refine BoxN.own ?_ | refine VrN.norm (wrap_i64 (by omega)) ?_ | refine VrN.keep ?_ | refine DrawN.calm (by decide +kernel) ?_ | refine Nd.mk (by decide +kernel) ?_ | refine Nd.mk (by omega) ?_ | (refine Nd.mk ?_ ?_; focus ((repeat' (first | exact trivial | exact wkE_refl _ | refine And.intro ?_ ?_)); done)) | refine RdN.intro _ rfl (by rfl) ?_); (conv => whnf)))); first | refine call1 (HasPrefix_c (c :: r) [60, 37, 37] _) ?_ | refine callQ (HasPrefix_c (c :: r) [60, 37, 37] _) ?_)
      ((conv => whnf); (repeat ((first | refine BoxN.own ?_ | refine VrN.norm (wrap_i64 (by omega)) ?_ | refine VrN.keep ?_ | refine DrawN.calm (by decide +kernel) ?_ | refine Nd.mk (by decide +kernel) ?_ | refine Nd.mk (by omega) ?_ | (refine Nd.mk ?_ ?_; focus ((repeat' (first | exact trivial | exact wkE_refl _ | refine And.intro ?_ ?_)); done)) | refine RdN.intro _ rfl (by rfl) ?_); (conv => whnf))))
      refine brd_intro (fun h1 => ?_) (fun h1 => ?_)
      · rw [if_pos h1] at heq
        obtain ⟨q, hq⟩ := pfx_split h1
        have htk3 : (c :: r).take 3 = [60, 37, 37] := pfx_take h1
        have hdr3 : (c :: r).drop 3 = q := by rw [hq]; rfl
        rw [htk3, hdr3] at heq
        have hq2 := congrArg List.length hq
        simp only [List.length_append, List.length_cons, List.length_nil] at hq2
        ((conv => whnf); (repeat ((first | refine BoxN.own ?_ | refine VrN.norm (wrap_i64 (by omega)) ?_ | refine VrN.keep ?_ | refine DrawN.calm (by decide +kernel) ?_ | refine Nd.mk (by decide +kernel) ?_ | refine Nd.mk (by omega) ?_ | (refine Nd.mk ?_ ?_; focus ((repeat' (first | exact trivial | exact wkE_refl _ | refine And.intro ?_ ?_)); done)) | refine RdN.intro _ rfl (by rfl) ?_); (conv => whnf))))
        refine callG (put_c s pre.length t from_ whole out o [60, 37] ok (by omega) (by omega) (by omega) (by simp)) [1, 2] rfl ⟨rfl, rfl, trivial⟩ rfl fun o2 ok2 => ?_
        rw [htk]
        ((conv => whnf); (repeat ((first | refine BoxN.own ?_ | refine VrN.norm (wrap_i64 (by omega)) ?_ | refine VrN.keep ?_ | refine DrawN.calm (by decide +kernel) ?_ | refine Nd.mk (by decide +kernel) ?_ | refine Nd.mk (by omega) ?_ | (refine Nd.mk ?_ ?_; focus ((repeat' (first | exact trivial | exact wkE_refl _ | refine And.intro ?_ ?_)); done)) | refine RdN.intro _ rfl (by rfl) ?_); (conv => whnf))))
        refine ⟨(pre ++ [60, 37, 37], q, t ++ [60, 37], fpOf t fp pre, out, fromQ t pre.length from_, wholeQ t (bol pre) whole, o2), ⟨next [60, 37, 37] q [60, 37] (by rw [← hi.sp, hq]; simp) heq (by simp), ok2⟩, by show q.length < (c :: r).length; rw [hq]; simp; omega, ?_, ?_⟩
        · (repeat' (first | exact trivial | refine And.intro (by with_reducible rfl) ?_ | (with_reducible exact wkC_refl _) | (with_reducible exact wkCs_refl _) | refine And.intro ?_ ?_))
          all_goals rfl
        · refine ⟨wkE_refl _, wkH_cons ?_ (wkH_cons rfl (wkH_nil _))⟩
          simp only [rnCs, rnC]
          rw [show IntKind.wrap .i64 ((pre.length : Int) + 3) = ((pre ++ [60, 37, 37]).length : Int) by rw [wrap_i64 (by omega)]; simp]
      rw [if_neg (by simp [h1])] at heq
      (((conv => whnf); (repeat ((first | refine BoxN.own ?_ | refine VrN.norm (wrap_i64 (by omega)) ?_ | refine VrN.keep ?_ | refine DrawN.calm (by decide +kernel) ?_ | refine Nd.mk (by decide +kernel) ?_ | refine Nd.mk (by omega) ?_ | (refine Nd.mk ?_ ?_; focus ((repeat' (first | exact trivial | exact wkE_refl _ | refine And.intro ?_ ?_)); done)) | refine RdN.intro _ rfl (by rfl) ?_); (conv => whnf)))); first | refine call1 (HasPrefix_c (c :: r) [60, 37] _) ?_ | refine callQ (HasPrefix_c (c :: r) [60, 37] _) ?_)
      ((conv => whnf); (repeat ((first | refine BoxN.own ?_ | refine VrN.norm (wrap_i64 (by omega)) ?_ | refine VrN.keep ?_ | refine DrawN.calm (by decide +kernel) ?_ | refine Nd.mk (by decide +kernel) ?_ | refine Nd.mk (by omega) ?_ | (refine Nd.mk ?_ ?_; focus ((repeat' (first | exact trivial | exact wkE_refl _ | refine And.intro ?_ ?_)); done)) | refine RdN.intro _ rfl (by rfl) ?_); (conv => whnf))))
      refine brd_intro (fun h2 => ?_) (fun h2 => ?_)
      · rw [if_pos h2] at heq
        obtain ⟨q, hq⟩ := pfx_split h2
        have hq : c :: r = 60 :: 37 :: q := hq
        rw [hq] at heq hi ⊢
        have hsp := hi.sp
        subst hsp
        have hq2 := congrArg List.length hq
        simp only [List.length_cons] at hq2
        have hT := rtag_c pre q t from_ whole out o ok hi.fl (by omega) (by omega) (by omega)
        rw [hi.trim] at hT
        rw [show (60 :: 37 :: q).drop 2 = q from rfl, show (60 :: 37 :: q).drop (2 + (opn q).2.2) = q.drop (opn q).2.2 from by rw [Nat.add_comm]; rfl] at heq
        rw [hi.close _ (fun h => by split at h; exact trim_ne h; exact h)] at heq
        ((conv => whnf); (repeat ((first | refine BoxN.own ?_ | refine VrN.norm (wrap_i64 (by omega)) ?_ | refine VrN.keep ?_ | refine DrawN.calm (by decide +kernel) ?_ | refine Nd.mk (by decide +kernel) ?_ | refine Nd.mk (by omega) ?_ | (refine Nd.mk ?_ ?_; focus ((repeat' (first | exact trivial | exact wkE_refl _ | refine And.intro ?_ ?_)); done)) | refine RdN.intro _ rfl (by rfl) ?_); (conv => whnf))))
        refine callG hT [1, 2] rfl ⟨rfl, rfl, trivial⟩ rfl fun i h => ?_
        obtain ⟨⟨s', at', t', from', whole', out'⟩, o'⟩ := i
        obtain ⟨ok', hs', ht', hf', hX⟩ := h
        have hs' : s' = pre ++ 60 :: 37 :: q := hs'
        have ht' : t' = [] := ht'
        subst hs'; subst ht'
        cases hXX : tgN (pre ++ (60 :: 37 :: q).take (2 + (opn q).2.2)) (q.drop (opn q).2.2) [] with
        | none =>
          rw [hXX] at heq hX
          have hat : at' = pre.length := hX
          subst hat
          subst heq
          (((conv => whnf); (repeat ((first | refine BoxN.own ?_ | refine VrN.norm (wrap_i64 (by omega)) ?_ | refine VrN.keep ?_ | refine DrawN.calm (by decide +kernel) ?_ | refine Nd.mk (by decide +kernel) ?_ | refine Nd.mk (by omega) ?_ | (refine Nd.mk ?_ ?_; focus ((repeat' (first | exact trivial | exact wkE_refl _ | refine And.intro ?_ ?_)); done)) | refine RdN.intro _ rfl (by rfl) ?_); (conv => whnf)))); first | refine call1 (line_c (pre ++ 60 :: 37 :: q) pre.length (by simp) (by omega) _) ?_ | refine callQ (line_c (pre ++ 60 :: 37 :: q) pre.length (by simp) (by omega) _) ?_)
          rw [List.take_left]
          ((conv => whnf); (repeat ((first | refine BoxN.own ?_ | refine VrN.norm (wrap_i64 (by omega)) ?_ | refine VrN.keep ?_ | refine DrawN.calm (by decide +kernel) ?_ | refine Nd.mk (by decide +kernel) ?_ | refine Nd.mk (by omega) ?_ | (refine Nd.mk ?_ ?_; focus ((repeat' (first | exact trivial | exact wkE_refl _ | refine And.intro ?_ ?_)); done)) | refine RdN.intro _ rfl (by rfl) ?_); (conv => whnf))))
          exact fin_p (fun w => MaxF w) ⟨none, 0, rfl, fun _ => rfl, fun _ _ => SlAt.nil⟩ (fun w hw => hw.1)
        | some x =>
          obtain ⟨p', r', code⟩ := x
          rw [hXX] at heq hX
          obtain ⟨hat, hout⟩ := hX
          have hat : at' = p'.length := hat
          have hout : out' = outC out (if (opn q).2.1 then trim t fp else t) (ln ((pre ++ 60 :: 37 :: q).take from_)) ++ [⟨(opn q).1, ln pre, code⟩] := hout
          subst hat; subst hout
          have hpr := tgN_len hXX
          have hlt := (tg_out _ _ _ _ _ _ _ hXX).1
          have hpl := congrArg List.length hpr
          simp only [List.length_append, List.length_take, List.length_drop, List.length_cons] at hpl hlt
          have hol2 := outC_len out (if (opn q).2.1 then trim t fp else t) (ln ((pre ++ 60 :: 37 :: q).take from_))
          have hop1 : (opn q).2.2 ≤ q.length := by
            unfold opn
            cases q with
            | nil => simp
            | cons y q =>
              simp only [List.head?_cons, List.length_cons]
              repeat' split
              all_goals (show _ ≤ _; simp only []; omega)
          ((conv => whnf); (repeat ((first | refine BoxN.own ?_ | refine VrN.norm (wrap_i64 (by omega)) ?_ | refine VrN.keep ?_ | refine DrawN.calm (by decide +kernel) ?_ | refine Nd.mk (by decide +kernel) ?_ | refine Nd.mk (by omega) ?_ | (refine Nd.mk ?_ ?_; focus ((repeat' (first | exact trivial | exact wkE_refl _ | refine And.intro ?_ ?_)); done)) | refine RdN.intro _ rfl (by rfl) ?_); (conv => whnf))))
          refine ⟨(p', r', [], fp, _, from', whole', o'), ⟨⟨?_, heq, fun h => absurd rfl h, hf', ?_, by simp⟩, ok'⟩, ?_, ?_, wkH_refl _⟩
          · rw [hpr, List.append_assoc, show q.drop (opn q).2.2 = (60 :: 37 :: q).drop (2 + (opn q).2.2) from by rw [Nat.add_comm]; rfl, List.take_append_drop]
          · rw [List.length_append]
            simp only [List.length_cons, List.length_nil]
            omega
          · show r'.length < (60 :: 37 :: q).length
            simp
            omega
          · (repeat' (first | exact trivial | refine And.intro (by with_reducible rfl) ?_ | (with_reducible exact wkC_refl _) | (with_reducible exact wkCs_refl _) | refine And.intro ?_ ?_))
            all_goals rfl
      rw [if_neg (by simp [h2])] at heq
      ((conv => whnf); (repeat ((first | refine BoxN.own ?_ | refine VrN.norm (wrap_i64 (by omega)) ?_ | refine VrN.keep ?_ | refine DrawN.calm (by decide +kernel) ?_ | refine Nd.mk (by decide +kernel) ?_ | refine Nd.mk (by omega) ?_ | (refine Nd.mk ?_ ?_; focus ((repeat' (first | exact trivial | exact wkE_refl _ | refine And.intro ?_ ?_)); done)) | refine RdN.intro _ rfl (by rfl) ?_); (conv => whnf))))
      refine ReadW.sl_h 1 rfl (by kernel_rfl) rfl rfl ⟨rfl, by simp⟩ ?_
      rw [show (c :: r).take 1 = [c] from rfl]
      ((conv => whnf); (repeat ((first | refine BoxN.own ?_ | refine VrN.norm (wrap_i64 (by omega)) ?_ | refine VrN.keep ?_ | refine DrawN.calm (by decide +kernel) ?_ | refine Nd.mk (by decide +kernel) ?_ | refine Nd.mk (by omega) ?_ | (refine Nd.mk ?_ ?_; focus ((repeat' (first | exact trivial | exact wkE_refl _ | refine And.intro ?_ ?_)); done)) | refine RdN.intro _ rfl (by rfl) ?_); (conv => whnf))))
      refine callG (put_c s pre.length t from_ whole out o [c] ok (by omega) (by omega) (by omega) (by simp)) [1, 2] rfl ⟨rfl, rfl, trivial⟩ rfl fun o2 ok2 => ?_
      rw [htk]
      ((conv => whnf); (repeat ((first | refine BoxN.own ?_ | refine VrN.norm (wrap_i64 (by omega)) ?_ | refine VrN.keep ?_ | refine DrawN.calm (by decide +kernel) ?_ | refine Nd.mk (by decide +kernel) ?_ | refine Nd.mk (by omega) ?_ | (refine Nd.mk ?_ ?_; focus ((repeat' (first | exact trivial | exact wkE_refl _ | refine And.intro ?_ ?_)); done)) | refine RdN.intro _ rfl (by rfl) ?_); (conv => whnf))))
      refine ⟨(pre ++ [c], r, t ++ [c], fpOf t fp pre, out, fromQ t pre.length from_, wholeQ t (bol pre) whole, o2), ⟨next [c] r [c] (by rw [← hi.sp]; simp) heq (by simp), ok2⟩, by show r.length < (c :: r).length; simp, ?_, ?_⟩
      · (repeat' (first | exact trivial | refine And.intro (by with_reducible rfl) ?_ | (with_reducible exact wkC_refl _) | (with_reducible exact wkCs_refl _) | refine And.intro ?_ ?_))
        all_goals rfl
      · refine ⟨wkE_refl _, wkH_cons ?_ (wkH_cons rfl (wkH_nil _))⟩
        simp only [rnCs, rnC]
        rw [show IntKind.wrap .i64 ((pre.length : Int) + 1) = ((pre ++ [c]).length : Int) by rw [wrap_i64 (by omega)]; simp]
end Go.Proofs.YtfcjgklghgpddaaGreatDoor
