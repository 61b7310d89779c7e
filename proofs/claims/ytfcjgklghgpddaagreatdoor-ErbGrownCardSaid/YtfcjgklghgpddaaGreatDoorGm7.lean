/-
  Lemmas (G9 H1).
-/
import Derived.Test.YtfcjgklghgpddaaGreatDoorGm6
/-
  Contract: the program's reader, whole; Parts.
-/
namespace Go.Proofs.YtfcjgklghgpddaaGreatDoor
open Go.AX Go.RowKit Go.Erb
set_option maxRecDepth 20000

theorem Bl.init : Bl [] [] [] := ⟨[], [], [], rfl, rfl, by simp, by simp, fun _ _ => rfl, fun h => absurd rfl h⟩
theorem Bl.mk0 {p fp : List UInt8} (h : ∀ x, p.getLast? = some x → blankB x = false) : Bl p [] fp :=
  ⟨p, [], [], by simp, rfl, by simp, h, fun _ h => absurd rfl h, fun h => absurd rfl h⟩
theorem Bl.snoc {pre t fp : List UInt8} (h : Bl pre t fp) (x : UInt8) : Bl (pre ++ [x]) (t ++ [x]) (fpOf t fp pre) := by
  obtain ⟨u, c, b, rfl, rfl, hb, hu, h0, h1⟩ := h.ex
  by_cases hx : blankB x = true
  · refine ⟨u, c, b ++ [x], by simp, by simp, ?_, hu, fun hc _ => ?_, h1⟩
    · intro y hy
      rcases List.mem_append.1 hy with hy | hy
      · exact hb y hy
      · simp at hy; subst hy; exact hx
    · subst hc
      by_cases hb0 : b = []
      · subst hb0; simp [fpOf]
      · have := h0 rfl hb0
        unfold fpOf
        rw [if_neg (by simpa using hb0)]
        exact this
  · refine ⟨u ++ b ++ [x], c ++ b ++ [x], [], by simp, by simp, by simp, ?_, fun _ h => absurd rfl h, fun _ => by simp⟩
    intro y hy
    simp at hy
    subst hy
    simpa using hx
theorem Bl.esc {pre t fp p' t' : List UInt8} (x y : List UInt8) (hp : p' = pre ++ x ++ [37]) (ht : t' = t ++ y ++ [37]) : Bl p' t' fp := by
  subst hp; subst ht
  refine ⟨pre ++ x ++ [37], t ++ y ++ [37], [], by simp, by simp, by simp, ?_, fun _ h => absurd rfl h, fun _ => by simp⟩
  intro z hz
  simp at hz
  subst hz
  rfl
theorem tg_last : ∀ (f : Nat) (pre r acc p' r' c' : List UInt8), tg f pre r acc = some (p', r', c') → ∃ q x, p' = q ++ [x] ∧ blankB x = false
  | 0, _, _, _, _, _, _, h => by simp [tg] at h
  | f + 1, _, [], _, _, _, _, h => by simp [tg] at h
  | f + 1, pre, c :: r, acc, p', r', c', h => by
    unfold tg at h
    split at h
    · exact tg_last f _ _ _ _ _ _ h
    split at h
    · rename_i h2
      split at h
      · rename_i h3
        cases h
        obtain ⟨q, hq⟩ := pfx_split h2
        have hdr : (c :: r).drop 3 = q := by rw [hq]; rfl
        rw [hdr] at h3
        obtain ⟨q', rfl⟩ := pfx_split h3
        rw [hq]
        exact ⟨pre ++ [45, 37, 62], 10, by simp, rfl⟩
      · cases h
        have := pfx_take h2
        exact ⟨pre ++ [45, 37], 62, by rw [show (c :: r).take 3 = [45, 37, 62] from this]; simp, rfl⟩
    split at h
    · rename_i h2
      cases h
      have := pfx_take h2
      exact ⟨pre ++ [37], 62, by rw [show (c :: r).take 2 = [37, 62] from this]; simp, rfl⟩
    · exact tg_last f _ _ _ _ _ _ h
theorem Bl.tag {pre r acc p' r' c' fp : List UInt8} (h : tgN pre r acc = some (p', r', c')) : Bl p' [] fp := by
  obtain ⟨q, x, rfl, hx⟩ := tg_last _ _ _ _ _ _ _ h
  exact Bl.mk0 fun y hy => by simp at hy; subst hy; exact hx
theorem close_eq {t fp : List UInt8} {begun : Int} (out : List Part) (h : t ≠ [] → begun = ln fp) : close t fp out = outC out t begun := by
  unfold close outC
  cases t with
  | nil => rfl
  | cons c t => rw [h (by simp)]
theorem trim_len (t fp : List UInt8) : (trim t fp).length ≤ t.length := by
  unfold trim
  split
  · unfold trimR
    rw [List.length_reverse]
    exact Nat.le_trans (List.dropWhile_suffix _).length_le (by simp)
  · exact Nat.le_refl _
/-- The reader's state in a round. -/
structure RdOk (s : List UInt8) (lines : Bool) (R : Except Int (List Part)) (pre rest t fp : List UInt8) (out : List Part) (begun : Int) (m : MS) : Prop where
  sp : pre ++ rest = s
  eq : rdN lines pre rest t fp out = R
  bg : t ≠ [] → begun = ln fp
  bl : rest ≠ [] → Bl pre t fp
  ok : m.ok ⟨s, pre.length, ln pre, lines, out, t, begun⟩
  ol : out.length ≤ 2 * pre.length
  tl : t.length ≤ pre.length
theorem RdOk.swap {s : List UInt8} {lines : Bool} {R : Except Int (List Part)} {pre rest t fp : List UInt8} {out : List Part} {begun : Int} {m m1 : MS} (h : RdOk s lines R pre rest t fp out begun m) (ok : m1.ok ⟨s, pre.length, ln pre, lines, out, t, begun⟩) : RdOk s lines R pre rest t fp out begun m1 := ⟨h.sp, h.eq, h.bg, h.bl, ok, h.ol, h.tl⟩
def okR (R : Except Int (List Part)) : Bool := match R with | .ok _ => true | .error _ => false
/-- What the reader is behind it all. -/
def RP (R : Except Int (List Part)) (r : RS) : Prop := match R with | .ok l => r.out = l | .error n => r.line = n

set_option maxHeartbeats 4000000 in
theorem read_c (s : List UInt8) (lines : Bool) (hs : s.length ≤ 100000) :
    SpecH Tryz.prog 15 [.c (.lp 0 0)] (RH ⟨s, 0, 1, lines, [], [], 0⟩ ⟨⟨none, 0⟩, ⟨none, 0⟩⟩ ++ [.fact MaxF])
    (RetG (ι := RS × MS) (fun i => i.2.ok i.1 ∧ RP (rdN lines [] s [] [] []) i.1) (fun _ => .bool (okR (rdN lines [] s [] [] []))) (fun i => RH i.1 i.2 ++ [.fact MaxF])) := by
  refine ownC hm Tryz.func15 (by kernel_rfl) rfl rfl (fun _ _ => RHf_ok _ _) (fun _ _ => Nat.le_refl _) ?_
  generalize hR : rdN lines [] s [] [] [] = R
  ((conv => whnf); (repeat ((first | refine BoxN.own ?_ | refine VrN.norm (wrap_i64 (by omega)) ?_ | refine VrN.keep ?_ | refine DrawN.calm (by decide +kernel) ?_ | refine Nd.mk (by decide +kernel) ?_ | refine Nd.mk (by omega) ?_ | (refine Nd.mk ?_ ?_; focus ((repeat' (first | exact trivial | exact wkE_refl _ | refine And.intro ?_ ?_)); done)) | refine RdN.intro _ rfl (by rfl) ?_); (conv => whnf))))
  refine LoopN.intro (List UInt8 × List UInt8 × List UInt8 × List UInt8 × List Part × Int × MS) (fun ⟨pre, rest, t, fp, out, begun, m⟩ => RdOk s lines R pre rest t fp out begun m) (fun _ => mkS Tryz.f15.ntmps 0 [(0, .c (.lp 0 0))])
    (fun ⟨pre, _, t, _, out, begun, m⟩ => RH ⟨s, pre.length, ln pre, lines, out, t, begun⟩ m ++ [.fact MaxF]) (fun ⟨_, rest, _⟩ => rest.length) [] rfl
    (fun _ => rfl) (fun _ => rfl) (fun _ _ => RHf_ok _ _) ⟨([], s, [], [], [], 0, ⟨⟨none, 0⟩, ⟨none, 0⟩⟩), ⟨rfl, hR, fun h => absurd rfl h, fun _ => Bl.init, ⟨⟨fun _ => ⟨rfl, rfl⟩, Nat.le_refl _, fun _ => rfl⟩, ⟨fun _ => ⟨rfl, rfl⟩, Nat.le_refl _, fun _ => rfl⟩⟩, by simp, by simp⟩, ?_, wkH_refl _⟩ ?_
  · (repeat' (first | exact trivial | refine And.intro (by with_reducible rfl) ?_ | (with_reducible exact wkC_refl _) | (with_reducible exact wkCs_refl _) | refine And.intro ?_ ?_))
    all_goals rfl
  rintro ⟨pre, rest, t, fp, out, begun, m⟩ hi
  have hlen := congrArg List.length hi.sp
  rw [List.length_append] at hlen
  have hln := ln_bd pre
  have hol := hi.ol
  have htl := hi.tl
  cases rest with
  | nil =>
    have hR2 : R = .ok (outC out t begun) := by rw [← hi.eq, rdN_nil, close_eq out hi.bg]
    subst hR2
    have hw : (pre.length : Int) < (s.length : Int) → False := by simp at hlen; omega
    ((conv => whnf); (repeat ((first | refine BoxN.own ?_ | refine VrN.norm (wrap_i64 (by omega)) ?_ | refine VrN.keep ?_ | refine DrawN.calm (by decide +kernel) ?_ | refine Nd.mk (by decide +kernel) ?_ | refine Nd.mk (by omega) ?_ | (refine Nd.mk ?_ ?_; focus ((repeat' (first | exact trivial | exact wkE_refl _ | refine And.intro ?_ ?_)); done)) | refine RdN.intro _ rfl (by rfl) ?_); (conv => whnf))))
    rw [bs_size]
    refine brd_dec (fun h => (hw h).elim) (fun _ => ?_)
    ((conv => whnf); (repeat ((first | refine BoxN.own ?_ | refine VrN.norm (wrap_i64 (by omega)) ?_ | refine VrN.keep ?_ | refine DrawN.calm (by decide +kernel) ?_ | refine Nd.mk (by decide +kernel) ?_ | refine Nd.mk (by omega) ?_ | (refine Nd.mk ?_ ?_; focus ((repeat' (first | exact trivial | exact wkE_refl _ | refine And.intro ?_ ?_)); done)) | refine RdN.intro _ rfl (by rfl) ?_); (conv => whnf))))
    refine callG (flush_x s pre.length (ln pre) lines out t begun _ hi.ok (by omega) (by omega)) [0, 1, 2] rfl ⟨rfl, rfl, rfl, trivial⟩ rfl fun m1 ok1 => ?_
    ((conv => whnf); (repeat ((first | refine BoxN.own ?_ | refine VrN.norm (wrap_i64 (by omega)) ?_ | refine VrN.keep ?_ | refine DrawN.calm (by decide +kernel) ?_ | refine Nd.mk (by decide +kernel) ?_ | refine Nd.mk (by omega) ?_ | (refine Nd.mk ?_ ?_; focus ((repeat' (first | exact trivial | exact wkE_refl _ | refine And.intro ?_ ?_)); done)) | refine RdN.intro _ rfl (by rfl) ?_); (conv => whnf))))
    exact ⟨(⟨s, pre.length, ln pre, lines, outC out t begun, [], begun⟩, m1), ⟨ok1, rfl⟩, rfl, wkH_refl _⟩
  | cons c r =>
    have heq := hi.eq
    simp only [List.length_cons] at hlen
    rw [rdN_cons] at heq
    have hb0 : byteAt (bs (c :: r)) 0 = (c.toNat : Int) := byteAt_get rfl
    have htk : s.take pre.length = pre := by rw [← hi.sp]; exact List.take_left
    ((conv => whnf); (repeat ((first | refine BoxN.own ?_ | refine VrN.norm (wrap_i64 (by omega)) ?_ | refine VrN.keep ?_ | refine DrawN.calm (by decide +kernel) ?_ | refine Nd.mk (by decide +kernel) ?_ | refine Nd.mk (by omega) ?_ | (refine Nd.mk ?_ ?_; focus ((repeat' (first | exact trivial | exact wkE_refl _ | refine And.intro ?_ ?_)); done)) | refine RdN.intro _ rfl (by rfl) ?_); (conv => whnf))))
    rw [bs_size]
    refine brd_dec (fun _ => ?_) (fun h => absurd (show (pre.length : Int) < (s.length : Int) by omega) h)
    ((conv => whnf); (repeat ((first | refine BoxN.own ?_ | refine VrN.norm (wrap_i64 (by omega)) ?_ | refine VrN.keep ?_ | refine DrawN.calm (by decide +kernel) ?_ | refine Nd.mk (by decide +kernel) ?_ | refine Nd.mk (by omega) ?_ | (refine Nd.mk ?_ ?_; focus ((repeat' (first | exact trivial | exact wkE_refl _ | refine And.intro ?_ ?_)); done)) | refine RdN.intro _ rfl (by rfl) ?_); (conv => whnf))))
    refine ReadW.sl_at pre (c :: r) hi.sp.symm rfl (by kernel_rfl) rfl rfl rfl ?_
    ((conv => whnf); (repeat ((first | refine BoxN.own ?_ | refine VrN.norm (wrap_i64 (by omega)) ?_ | refine VrN.keep ?_ | refine DrawN.calm (by decide +kernel) ?_ | refine Nd.mk (by decide +kernel) ?_ | refine Nd.mk (by omega) ?_ | (refine Nd.mk ?_ ?_; focus ((repeat' (first | exact trivial | exact wkE_refl _ | refine And.intro ?_ ?_)); done)) | refine RdN.intro _ rfl (by rfl) ?_); (conv => whnf))))
    refine brd_intro (fun hl => ?_) (fun hl => ?_)
    · have hl : lines = true := hl
      ((conv => whnf); (repeat ((first | refine BoxN.own ?_ | refine VrN.norm (wrap_i64 (by omega)) ?_ | refine VrN.keep ?_ | refine DrawN.calm (by decide +kernel) ?_ | refine Nd.mk (by decide +kernel) ?_ | refine Nd.mk (by omega) ?_ | (refine Nd.mk ?_ ?_; focus ((repeat' (first | exact trivial | exact wkE_refl _ | refine And.intro ?_ ?_)); done)) | refine RdN.intro _ rfl (by rfl) ?_); (conv => whnf))))
      refine Nd.mk ⟨by omega, by rw [bs_size]; simp⟩ ?_
      rw [show ((0 : Int).toNat) = 0 from rfl, hb0]
      ((conv => whnf); (repeat ((first | refine BoxN.own ?_ | refine VrN.norm (wrap_i64 (by omega)) ?_ | refine VrN.keep ?_ | refine DrawN.calm (by decide +kernel) ?_ | refine Nd.mk (by decide +kernel) ?_ | refine Nd.mk (by omega) ?_ | (refine Nd.mk ?_ ?_; focus ((repeat' (first | exact trivial | exact wkE_refl _ | refine And.intro ?_ ?_)); done)) | refine RdN.intro _ rfl (by rfl) ?_); (conv => whnf))))
      refine brd_eq (fun hc => ?_) (fun hc => ?_)
      · have hc : c = 37 := UInt8.toNat_inj.1 (by show c.toNat = 37; omega)
        ((conv => whnf); (repeat ((first | refine BoxN.own ?_ | refine VrN.norm (wrap_i64 (by omega)) ?_ | refine VrN.keep ?_ | refine DrawN.calm (by decide +kernel) ?_ | refine Nd.mk (by decide +kernel) ?_ | refine Nd.mk (by omega) ?_ | (refine Nd.mk ?_ ?_; focus ((repeat' (first | exact trivial | exact wkE_refl _ | refine And.intro ?_ ?_)); done)) | refine RdN.intro _ rfl (by rfl) ?_); (conv => whnf))))
        refine callG (starts_x s pre.length (ln pre) lines out t begun _ hi.ok (by omega) (by omega)) [0, 1, 2] rfl ⟨rfl, rfl, rfl, trivial⟩ rfl fun m1 ok1 => ?_
        rw [htk]
        replace hi := RdOk.swap hi ok1
        ((conv => whnf); (repeat ((first | refine BoxN.own ?_ | refine VrN.norm (wrap_i64 (by omega)) ?_ | refine VrN.keep ?_ | refine DrawN.calm (by decide +kernel) ?_ | refine Nd.mk (by decide +kernel) ?_ | refine Nd.mk (by omega) ?_ | (refine Nd.mk ?_ ?_; focus ((repeat' (first | exact trivial | exact wkE_refl _ | refine And.intro ?_ ?_)); done)) | refine RdN.intro _ rfl (by rfl) ?_); (conv => whnf))))
        refine brd_intro (fun hb => ?_) (fun hb => ?_)
        · ((conv => whnf); (repeat ((first | refine BoxN.own ?_ | refine VrN.norm (wrap_i64 (by omega)) ?_ | refine VrN.keep ?_ | refine DrawN.calm (by decide +kernel) ?_ | refine Nd.mk (by decide +kernel) ?_ | refine Nd.mk (by omega) ?_ | (refine Nd.mk ?_ ?_; focus ((repeat' (first | exact trivial | exact wkE_refl _ | refine And.intro ?_ ?_)); done)) | refine RdN.intro _ rfl (by rfl) ?_); (conv => whnf)))); refine call1 (HasPrefix_c (c :: r) [37, 37] _) ?_
          ((conv => whnf); (repeat ((first | refine BoxN.own ?_ | refine VrN.norm (wrap_i64 (by omega)) ?_ | refine VrN.keep ?_ | refine DrawN.calm (by decide +kernel) ?_ | refine Nd.mk (by decide +kernel) ?_ | refine Nd.mk (by omega) ?_ | (refine Nd.mk ?_ ?_; focus ((repeat' (first | exact trivial | exact wkE_refl _ | refine And.intro ?_ ?_)); done)) | refine RdN.intro _ rfl (by rfl) ?_); (conv => whnf))))
          refine brd_not (brd_intro (fun hp => ?_) (fun hp => ?_))
          · -- two signs
            rw [if_pos (by rw [hl, hb, hp]; rfl)] at heq
            obtain ⟨q, hq⟩ := pfx_split hp
            have htk2 : (c :: r).take 2 = [37, 37] := pfx_take hp
            have hdr2 : (c :: r).drop 2 = q := by rw [hq]; rfl
            rw [htk2, hdr2] at heq
            have hq2 := congrArg List.length hq
            simp only [List.length_append, List.length_cons, List.length_nil] at hq2
            ((conv => whnf); (repeat ((first | refine BoxN.own ?_ | refine VrN.norm (wrap_i64 (by omega)) ?_ | refine VrN.keep ?_ | refine DrawN.calm (by decide +kernel) ?_ | refine Nd.mk (by decide +kernel) ?_ | refine Nd.mk (by omega) ?_ | (refine Nd.mk ?_ ?_; focus ((repeat' (first | exact trivial | exact wkE_refl _ | refine And.intro ?_ ?_)); done)) | refine RdN.intro _ rfl (by rfl) ?_); (conv => whnf))))
            refine brdT hl ?_
            ((conv => whnf); (repeat ((first | refine BoxN.own ?_ | refine VrN.norm (wrap_i64 (by omega)) ?_ | refine VrN.keep ?_ | refine DrawN.calm (by decide +kernel) ?_ | refine Nd.mk (by decide +kernel) ?_ | refine Nd.mk (by omega) ?_ | (refine Nd.mk ?_ ?_; focus ((repeat' (first | exact trivial | exact wkE_refl _ | refine And.intro ?_ ?_)); done)) | refine RdN.intro _ rfl (by rfl) ?_); (conv => whnf)))); refine call1 (HasPrefix_c (c :: r) [37, 37] _) ?_
            ((conv => whnf); (repeat ((first | refine BoxN.own ?_ | refine VrN.norm (wrap_i64 (by omega)) ?_ | refine VrN.keep ?_ | refine DrawN.calm (by decide +kernel) ?_ | refine Nd.mk (by decide +kernel) ?_ | refine Nd.mk (by omega) ?_ | (refine Nd.mk ?_ ?_; focus ((repeat' (first | exact trivial | exact wkE_refl _ | refine And.intro ?_ ?_)); done)) | refine RdN.intro _ rfl (by rfl) ?_); (conv => whnf))))
            refine brdT hp ?_
            ((conv => whnf); (repeat ((first | refine BoxN.own ?_ | refine VrN.norm (wrap_i64 (by omega)) ?_ | refine VrN.keep ?_ | refine DrawN.calm (by decide +kernel) ?_ | refine Nd.mk (by decide +kernel) ?_ | refine Nd.mk (by omega) ?_ | (refine Nd.mk ?_ ?_; focus ((repeat' (first | exact trivial | exact wkE_refl _ | refine And.intro ?_ ?_)); done)) | refine RdN.intro _ rfl (by rfl) ?_); (conv => whnf))))
            refine callG (starts_x s pre.length (ln pre) lines out t begun _ hi.ok (by omega) (by omega)) [0, 1, 2] rfl ⟨rfl, rfl, rfl, trivial⟩ rfl fun m2 ok2 => ?_
            rw [htk]
            replace hi := RdOk.swap hi ok2
            ((conv => whnf); (repeat ((first | refine BoxN.own ?_ | refine VrN.norm (wrap_i64 (by omega)) ?_ | refine VrN.keep ?_ | refine DrawN.calm (by decide +kernel) ?_ | refine Nd.mk (by decide +kernel) ?_ | refine Nd.mk (by omega) ?_ | (refine Nd.mk ?_ ?_; focus ((repeat' (first | exact trivial | exact wkE_refl _ | refine And.intro ?_ ?_)); done)) | refine RdN.intro _ rfl (by rfl) ?_); (conv => whnf))))
            refine brdT hb ?_
            ((conv => whnf); (repeat ((first | refine BoxN.own ?_ | refine VrN.norm (wrap_i64 (by omega)) ?_ | refine VrN.keep ?_ | refine DrawN.calm (by decide +kernel) ?_ | refine Nd.mk (by decide +kernel) ?_ | refine Nd.mk (by omega) ?_ | (refine Nd.mk ?_ ?_; focus ((repeat' (first | exact trivial | exact wkE_refl _ | refine And.intro ?_ ?_)); done)) | refine RdN.intro _ rfl (by rfl) ?_); (conv => whnf))))
            refine callG (add_x s pre.length (ln pre) lines out t begun _ 37 hi.ok (by omega) (by omega)) [0, 1, 2] rfl ⟨rfl, rfl, rfl, trivial⟩ rfl fun m3 ok3 => ?_
            ((conv => whnf); (repeat ((first | refine BoxN.own ?_ | refine VrN.norm (wrap_i64 (by omega)) ?_ | refine VrN.keep ?_ | refine DrawN.calm (by decide +kernel) ?_ | refine Nd.mk (by decide +kernel) ?_ | refine Nd.mk (by omega) ?_ | (refine Nd.mk ?_ ?_; focus ((repeat' (first | exact trivial | exact wkE_refl _ | refine And.intro ?_ ?_)); done)) | refine RdN.intro _ rfl (by rfl) ?_); (conv => whnf))))
            refine ⟨(pre ++ [37, 37], q, t ++ [37], fpOf t fp pre, out, (if t.isEmpty then ln pre else begun), m3), ⟨by rw [← hi.sp, hq]; simp, heq, fun _ => ?_, fun _ => Bl.esc (pre := pre) (t := t) [37] [] (by simp) (by simp), ok3, by simp; omega, by simp; omega⟩, by show q.length < (c :: r).length; rw [hq]; simp; omega, ?_, ?_⟩
            · unfold fpOf
              cases t with
              | nil => rfl
              | cons x t => exact hi.bg (by simp)
            · (repeat' (first | exact trivial | refine And.intro (by with_reducible rfl) ?_ | (with_reducible exact wkC_refl _) | (with_reducible exact wkCs_refl _) | refine And.intro ?_ ?_))
              all_goals rfl
            · refine wkH_cons ?_ (wkH_cons rfl (wkH_cons rfl (wkH_cons rfl (wkH_nil _))))
              simp only [rnCs, rnC]
              rw [show IntKind.wrap .i64 ((pre.length : Int) + 2) = ((pre ++ [37, 37]).length : Int) by rw [wrap_i64 (by omega)]; simp, show ln (pre ++ [37, 37]) = ln pre by rw [ln_app]; rfl]
              rfl
          · -- a line of code
            rw [if_neg (by simp [hp]), if_pos (by rw [hl, hb, hc]; rfl)] at heq
            have hsq := hi.sp
            subst hsq
            rw [close_eq out hi.bg] at heq
            rcases split10 r with hn | ⟨t', r', rfl, hn⟩
            · rw [takeW_no hn] at heq
              have hd : (c :: r).drop (1 + r.length + 1) = [] := List.drop_eq_nil_of_le (by simp <;> omega)
              have ht : (c :: r).take (1 + r.length + 1) = c :: r := List.take_of_length_le (by simp <;> omega)
              rw [hd, ht] at heq
              have hol2 := outC_len out t begun
              ((conv => whnf); (repeat ((first | refine BoxN.own ?_ | refine VrN.norm (wrap_i64 (by omega)) ?_ | refine VrN.keep ?_ | refine DrawN.calm (by decide +kernel) ?_ | refine Nd.mk (by decide +kernel) ?_ | refine Nd.mk (by omega) ?_ | (refine Nd.mk ?_ ?_; focus ((repeat' (first | exact trivial | exact wkE_refl _ | refine And.intro ?_ ?_)); done)) | refine RdN.intro _ rfl (by rfl) ?_); (conv => whnf))))
              refine callG (codeLine_no pre c r hn lines out t begun _ hi.ok hs (by omega) (by omega)) [0, 1, 2, 3] rfl ⟨rfl, rfl, rfl, rfl, trivial⟩ rfl fun m2 ok2 => ?_
              ((conv => whnf); (repeat ((first | refine BoxN.own ?_ | refine VrN.norm (wrap_i64 (by omega)) ?_ | refine VrN.keep ?_ | refine DrawN.calm (by decide +kernel) ?_ | refine Nd.mk (by decide +kernel) ?_ | refine Nd.mk (by omega) ?_ | (refine Nd.mk ?_ ?_; focus ((repeat' (first | exact trivial | exact wkE_refl _ | refine And.intro ?_ ?_)); done)) | refine RdN.intro _ rfl (by rfl) ?_); (conv => whnf))))
              refine ⟨(pre ++ c :: r, [], [], fp, outC out t begun ++ [(⟨1, ln pre, r⟩ : Part)], begun, m2), ⟨by simp, heq, fun h => absurd rfl h, fun h => absurd rfl h, ok2, by simp; omega, by simp⟩, by simp, ?_, ?_⟩
              · (repeat' (first | exact trivial | refine And.intro (by with_reducible rfl) ?_ | (with_reducible exact wkC_refl _) | (with_reducible exact wkCs_refl _) | refine And.intro ?_ ?_))
                all_goals rfl
              · refine wkH_cons ?_ (wkH_cons rfl (wkH_cons rfl (wkH_cons rfl (wkH_nil _))))
                have e1 : ln (pre ++ c :: r) = ln pre := by
                  rw [ln_app, List.count_eq_zero.2 (by simp; exact ⟨fun e => (by rw [hc] at e; cases e), hn⟩)]; simp
                simp only [rnCs, rnC, e1]
                rw [show ((pre.length + r.length + 1 : Nat) : Int) = ((pre ++ c :: r).length : Int) by simp; omega]
                try rfl
            · rw [takeW_at hn] at heq
              have hd : (c :: (t' ++ 10 :: r')).drop (1 + t'.length + 1) = r' := by
                rw [show 1 + t'.length + 1 = t'.length + 1 + 1 by omega, List.drop_succ_cons, List.drop_append]; simp
              have ht : (c :: (t' ++ 10 :: r')).take (1 + t'.length + 1) = c :: (t' ++ [10]) := by
                rw [show 1 + t'.length + 1 = t'.length + 1 + 1 by omega, List.take_succ_cons, show t' ++ 10 :: r' = (t' ++ [10]) ++ r' by simp, List.take_left' (by simp)]
              rw [hd, ht] at heq
              have hol2 := outC_len out t begun
              ((conv => whnf); (repeat ((first | refine BoxN.own ?_ | refine VrN.norm (wrap_i64 (by omega)) ?_ | refine VrN.keep ?_ | refine DrawN.calm (by decide +kernel) ?_ | refine Nd.mk (by decide +kernel) ?_ | refine Nd.mk (by omega) ?_ | (refine Nd.mk ?_ ?_; focus ((repeat' (first | exact trivial | exact wkE_refl _ | refine And.intro ?_ ?_)); done)) | refine RdN.intro _ rfl (by rfl) ?_); (conv => whnf))))
              refine callG (codeLine_at pre c t' r' hn lines out t begun _ hi.ok hs (by omega) (by omega)) [0, 1, 2, 3] rfl ⟨rfl, rfl, rfl, rfl, trivial⟩ rfl fun m2 ok2 => ?_
              ((conv => whnf); (repeat ((first | refine BoxN.own ?_ | refine VrN.norm (wrap_i64 (by omega)) ?_ | refine VrN.keep ?_ | refine DrawN.calm (by decide +kernel) ?_ | refine Nd.mk (by decide +kernel) ?_ | refine Nd.mk (by omega) ?_ | (refine Nd.mk ?_ ?_; focus ((repeat' (first | exact trivial | exact wkE_refl _ | refine And.intro ?_ ?_)); done)) | refine RdN.intro _ rfl (by rfl) ?_); (conv => whnf))))
              refine ⟨(pre ++ c :: (t' ++ [10]), r', [], fp, outC out t begun ++ [(⟨1, ln pre, t'⟩ : Part)], begun, m2), ⟨by simp, heq, fun h => absurd rfl h, fun _ => Bl.mk0 (fun x hx => by
                rw [show pre ++ c :: (t' ++ [10]) = (pre ++ c :: t') ++ [10] by simp, List.getLast?_concat] at hx
                cases hx; rfl), ok2, by simp; omega, by simp⟩, by show r'.length < (c :: (t' ++ 10 :: r')).length; simp; omega, ?_, ?_⟩
              · (repeat' (first | exact trivial | refine And.intro (by with_reducible rfl) ?_ | (with_reducible exact wkC_refl _) | (with_reducible exact wkCs_refl _) | refine And.intro ?_ ?_))
                all_goals rfl
              · refine wkH_cons ?_ (wkH_cons rfl (wkH_cons rfl (wkH_cons rfl (wkH_nil _))))
                have e1 : ln (pre ++ c :: (t' ++ [10])) = ln pre + 1 := by
                  rw [show pre ++ c :: (t' ++ [10]) = (pre ++ c :: t') ++ [10] by simp, ln_snoc, if_pos rfl, ln_app, List.count_eq_zero.2 (by simp; exact ⟨fun e => (by rw [hc] at e; cases e), hn⟩)]; simp
                simp only [rnCs, rnC, e1]
                rw [show ((pre.length + t'.length + 2 : Nat) : Int) = ((pre ++ c :: (t' ++ [10])).length : Int) by simp; omega]
                try rfl
        · rw [if_neg (by simp [hb]), if_neg (by simp [hb])] at heq
          ((conv => whnf); (repeat ((first | refine BoxN.own ?_ | refine VrN.norm (wrap_i64 (by omega)) ?_ | refine VrN.keep ?_ | refine DrawN.calm (by decide +kernel) ?_ | refine Nd.mk (by decide +kernel) ?_ | refine Nd.mk (by omega) ?_ | (refine Nd.mk ?_ ?_; focus ((repeat' (first | exact trivial | exact wkE_refl _ | refine And.intro ?_ ?_)); done)) | refine RdN.intro _ rfl (by rfl) ?_); (conv => whnf))))
          refine brdT hl ?_
          ((conv => whnf); (repeat ((first | refine BoxN.own ?_ | refine VrN.norm (wrap_i64 (by omega)) ?_ | refine VrN.keep ?_ | refine DrawN.calm (by decide +kernel) ?_ | refine Nd.mk (by decide +kernel) ?_ | refine Nd.mk (by omega) ?_ | (refine Nd.mk ?_ ?_; focus ((repeat' (first | exact trivial | exact wkE_refl _ | refine And.intro ?_ ?_)); done)) | refine RdN.intro _ rfl (by rfl) ?_); (conv => whnf)))); refine call1 (HasPrefix_c (c :: r) [37, 37] _) ?_
          ((conv => whnf); (repeat ((first | refine BoxN.own ?_ | refine VrN.norm (wrap_i64 (by omega)) ?_ | refine VrN.keep ?_ | refine DrawN.calm (by decide +kernel) ?_ | refine Nd.mk (by decide +kernel) ?_ | refine Nd.mk (by omega) ?_ | (refine Nd.mk ?_ ?_; focus ((repeat' (first | exact trivial | exact wkE_refl _ | refine And.intro ?_ ?_)); done)) | refine RdN.intro _ rfl (by rfl) ?_); (conv => whnf))))
          refine brd_intro (fun hp => ?_) (fun hp => ?_)
          · ((conv => whnf); (repeat ((first | refine BoxN.own ?_ | refine VrN.norm (wrap_i64 (by omega)) ?_ | refine VrN.keep ?_ | refine DrawN.calm (by decide +kernel) ?_ | refine Nd.mk (by decide +kernel) ?_ | refine Nd.mk (by omega) ?_ | (refine Nd.mk ?_ ?_; focus ((repeat' (first | exact trivial | exact wkE_refl _ | refine And.intro ?_ ?_)); done)) | refine RdN.intro _ rfl (by rfl) ?_); (conv => whnf))))
            refine callG (starts_x s pre.length (ln pre) lines out t begun _ hi.ok (by omega) (by omega)) [0, 1, 2] rfl ⟨rfl, rfl, rfl, trivial⟩ rfl fun m2 ok2 => ?_
            rw [htk]
            replace hi := RdOk.swap hi ok2
            ((conv => whnf); (repeat ((first | refine BoxN.own ?_ | refine VrN.norm (wrap_i64 (by omega)) ?_ | refine VrN.keep ?_ | refine DrawN.calm (by decide +kernel) ?_ | refine Nd.mk (by decide +kernel) ?_ | refine Nd.mk (by omega) ?_ | (refine Nd.mk ?_ ?_; focus ((repeat' (first | exact trivial | exact wkE_refl _ | refine And.intro ?_ ?_)); done)) | refine RdN.intro _ rfl (by rfl) ?_); (conv => whnf))))
            refine brdF hb ?_
            ((conv => whnf); (repeat ((first | refine BoxN.own ?_ | refine VrN.norm (wrap_i64 (by omega)) ?_ | refine VrN.keep ?_ | refine DrawN.calm (by decide +kernel) ?_ | refine Nd.mk (by decide +kernel) ?_ | refine Nd.mk (by omega) ?_ | (refine Nd.mk ?_ ?_; focus ((repeat' (first | exact trivial | exact wkE_refl _ | refine And.intro ?_ ?_)); done)) | refine RdN.intro _ rfl (by rfl) ?_); (conv => whnf)))); refine call1 (HasPrefix_c (c :: r) [60, 37, 37] _) ?_
            ((conv => whnf); (repeat ((first | refine BoxN.own ?_ | refine VrN.norm (wrap_i64 (by omega)) ?_ | refine VrN.keep ?_ | refine DrawN.calm (by decide +kernel) ?_ | refine Nd.mk (by decide +kernel) ?_ | refine Nd.mk (by omega) ?_ | (refine Nd.mk ?_ ?_; focus ((repeat' (first | exact trivial | exact wkE_refl _ | refine And.intro ?_ ?_)); done)) | refine RdN.intro _ rfl (by rfl) ?_); (conv => whnf))))
            refine brd_intro (fun h1 => ?_) (fun h1 => ?_)
            · rw [if_pos h1] at heq
              obtain ⟨q, hq⟩ := pfx_split h1
              have htk : (c :: r).take 3 = [60, 37, 37] := pfx_take h1
              have hdr : (c :: r).drop 3 = q := by rw [hq]; rfl
              rw [htk, hdr] at heq
              have hq3 := congrArg List.length hq
              simp only [List.length_append, List.length_cons, List.length_nil] at hq3
              ((conv => whnf); (repeat ((first | refine BoxN.own ?_ | refine VrN.norm (wrap_i64 (by omega)) ?_ | refine VrN.keep ?_ | refine DrawN.calm (by decide +kernel) ?_ | refine Nd.mk (by decide +kernel) ?_ | refine Nd.mk (by omega) ?_ | (refine Nd.mk ?_ ?_; focus ((repeat' (first | exact trivial | exact wkE_refl _ | refine And.intro ?_ ?_)); done)) | refine RdN.intro _ rfl (by rfl) ?_); (conv => whnf))))
              refine callG (add_x s pre.length (ln pre) lines out t begun _ 60 hi.ok (by omega) (by omega)) [0, 1, 2] rfl ⟨rfl, rfl, rfl, trivial⟩ rfl fun m1 ok1 => ?_
              ((conv => whnf); (repeat ((first | refine BoxN.own ?_ | refine VrN.norm (wrap_i64 (by omega)) ?_ | refine VrN.keep ?_ | refine DrawN.calm (by decide +kernel) ?_ | refine Nd.mk (by decide +kernel) ?_ | refine Nd.mk (by omega) ?_ | (refine Nd.mk ?_ ?_; focus ((repeat' (first | exact trivial | exact wkE_refl _ | refine And.intro ?_ ?_)); done)) | refine RdN.intro _ rfl (by rfl) ?_); (conv => whnf))))
              refine callG (add_x s pre.length (ln pre) lines out (t ++ [60]) (if t.isEmpty then ln pre else begun) m1 37 ok1 (by omega) (by simp; omega)) [0, 1, 2] rfl ⟨rfl, rfl, rfl, trivial⟩ rfl fun m2 ok2 => ?_
              have e0 : ∀ z : Int, (if (t ++ [60]).isEmpty then ln pre else z) = z := fun z => by cases t <;> rfl
              rw [e0] at ok2
              have ht2 : t ++ [60] ++ [37] = t ++ [60, 37] := by simp
              rw [ht2] at ok2
              simp only [e0, ht2]
              ((conv => whnf); (repeat ((first | refine BoxN.own ?_ | refine VrN.norm (wrap_i64 (by omega)) ?_ | refine VrN.keep ?_ | refine DrawN.calm (by decide +kernel) ?_ | refine Nd.mk (by decide +kernel) ?_ | refine Nd.mk (by omega) ?_ | (refine Nd.mk ?_ ?_; focus ((repeat' (first | exact trivial | exact wkE_refl _ | refine And.intro ?_ ?_)); done)) | refine RdN.intro _ rfl (by rfl) ?_); (conv => whnf))))
              refine ⟨(pre ++ [60, 37, 37], q, t ++ [60, 37], fpOf t fp pre, out, (if t.isEmpty then ln pre else begun), m2), ⟨by rw [← hi.sp, hq]; simp, heq, fun _ => ?_, fun _ => Bl.esc (pre := pre) (t := t) [60, 37] [60] (by simp) (by simp), ok2, by simp; omega, by simp; omega⟩, by show q.length < (c :: r).length; rw [hq]; simp; omega, ?_, ?_⟩
              · unfold fpOf
                cases t with
                | nil => rfl
                | cons x t => exact hi.bg (by simp)
              · (repeat' (first | exact trivial | refine And.intro (by with_reducible rfl) ?_ | (with_reducible exact wkC_refl _) | (with_reducible exact wkCs_refl _) | refine And.intro ?_ ?_))
                all_goals rfl
              · refine wkH_cons ?_ (wkH_cons rfl (wkH_cons rfl (wkH_cons rfl (wkH_nil _))))
                simp only [rnCs, rnC]
                rw [show IntKind.wrap .i64 ((pre.length : Int) + 3) = ((pre ++ [60, 37, 37]).length : Int) by rw [wrap_i64 (by omega)]; simp, show ln (pre ++ [60, 37, 37]) = ln pre by rw [ln_app]; rfl]
                rfl
            rw [if_neg (by simp [h1])] at heq
            ((conv => whnf); (repeat ((first | refine BoxN.own ?_ | refine VrN.norm (wrap_i64 (by omega)) ?_ | refine VrN.keep ?_ | refine DrawN.calm (by decide +kernel) ?_ | refine Nd.mk (by decide +kernel) ?_ | refine Nd.mk (by omega) ?_ | (refine Nd.mk ?_ ?_; focus ((repeat' (first | exact trivial | exact wkE_refl _ | refine And.intro ?_ ?_)); done)) | refine RdN.intro _ rfl (by rfl) ?_); (conv => whnf)))); refine call1 (HasPrefix_c (c :: r) [60, 37] _) ?_
            ((conv => whnf); (repeat ((first | refine BoxN.own ?_ | refine VrN.norm (wrap_i64 (by omega)) ?_ | refine VrN.keep ?_ | refine DrawN.calm (by decide +kernel) ?_ | refine Nd.mk (by decide +kernel) ?_ | refine Nd.mk (by omega) ?_ | (refine Nd.mk ?_ ?_; focus ((repeat' (first | exact trivial | exact wkE_refl _ | refine And.intro ?_ ?_)); done)) | refine RdN.intro _ rfl (by rfl) ?_); (conv => whnf))))
            refine brd_intro (fun h2 => ?_) (fun h2 => ?_)
            · rw [if_pos h2] at heq
              obtain ⟨q, hq⟩ := pfx_split h2
              obtain ⟨rfl, rfl⟩ : c = 60 ∧ r = 37 :: q := by
                have := hq
                simp at this
                exact this
              have hsq := hi.sp
              subst hsq
              have hT := tag_c pre q lines out t fp begun _ hi.ok (by simpa using hs) (by omega) (by omega) (hi.bl (by simp))
              simp only [List.drop_succ_cons, List.drop_zero] at heq
              have hd : List.drop (2 + (opn q).2.2) (60 :: 37 :: q) = q.drop (opn q).2.2 := by rw [Nat.add_comm]; rfl
              rw [hd] at heq
              cases hX : tgN (pre ++ (60 :: 37 :: q).take (2 + (opn q).2.2)) (q.drop (opn q).2.2) [] with
              | none =>
                rw [hX] at hT heq
                simp only at heq
                subst heq
                ((conv => whnf); (repeat ((first | refine BoxN.own ?_ | refine VrN.norm (wrap_i64 (by omega)) ?_ | refine VrN.keep ?_ | refine DrawN.calm (by decide +kernel) ?_ | refine Nd.mk (by decide +kernel) ?_ | refine Nd.mk (by omega) ?_ | (refine Nd.mk ?_ ?_; focus ((repeat' (first | exact trivial | exact wkE_refl _ | refine And.intro ?_ ?_)); done)) | refine RdN.intro _ rfl (by rfl) ?_); (conv => whnf))))
                refine callG hT [0, 1, 2, 3] rfl ⟨rfl, rfl, rfl, rfl, trivial⟩ rfl fun i hTP => ?_
                ((conv => whnf); (repeat ((first | refine BoxN.own ?_ | refine VrN.norm (wrap_i64 (by omega)) ?_ | refine VrN.keep ?_ | refine DrawN.calm (by decide +kernel) ?_ | refine Nd.mk (by decide +kernel) ?_ | refine Nd.mk (by omega) ?_ | (refine Nd.mk ?_ ?_; focus ((repeat' (first | exact trivial | exact wkE_refl _ | refine And.intro ?_ ?_)); done)) | refine RdN.intro _ rfl (by rfl) ?_); (conv => whnf))))
                exact ⟨i, ⟨hTP.1, hTP.2.2.2⟩, rfl, wkH_refl _⟩
              | some x =>
                obtain ⟨p', r', code⟩ := x
                rw [hX] at hT heq
                simp only at heq
                have hpr := tgN_len hX
                have hlt := (tg_out _ _ _ _ _ _ _ hX).1
                have hpr2 : p' ++ r' = pre ++ 60 :: 37 :: q := by
                  rw [hpr, List.append_assoc, ← hd]
                  congr 1
                  exact List.take_append_drop _ _
                have hl1 := congrArg List.length hpr2
                simp only [List.length_append, List.length_cons] at hl1
                simp only [List.length_drop] at hlt
                have htl := trim_len t fp
                have hol := outC_len out (if (opn q).2.1 then trim t fp else t) begun
                have hcl : close (if (opn q).2.1 then trim t fp else t) fp out = outC out (if (opn q).2.1 then trim t fp else t) begun := by
                  refine close_eq out fun h => hi.bg fun ht => h ?_
                  subst ht
                  split
                  · have := trim_len [] fp
                    exact List.eq_nil_of_length_eq_zero (by simpa using this)
                  · rfl
                rw [hcl] at heq
                ((conv => whnf); (repeat ((first | refine BoxN.own ?_ | refine VrN.norm (wrap_i64 (by omega)) ?_ | refine VrN.keep ?_ | refine DrawN.calm (by decide +kernel) ?_ | refine Nd.mk (by decide +kernel) ?_ | refine Nd.mk (by omega) ?_ | (refine Nd.mk ?_ ?_; focus ((repeat' (first | exact trivial | exact wkE_refl _ | refine And.intro ?_ ?_)); done)) | refine RdN.intro _ rfl (by rfl) ?_); (conv => whnf))))
                refine callG hT [0, 1, 2, 3] rfl ⟨rfl, rfl, rfl, rfl, trivial⟩ rfl fun i hTP => ?_
                obtain ⟨⟨s', at', line', lines', out', plain', begun'⟩, m'⟩ := i
                obtain ⟨ok', h3, h4, h5, h6, h7, h8⟩ := hTP
                simp only at h3 h4 h5 h6 h7 h8 ok'
                subst h3; subst h4; subst h5; subst h6; subst h7; subst h8
                ((conv => whnf); (repeat ((first | refine BoxN.own ?_ | refine VrN.norm (wrap_i64 (by omega)) ?_ | refine VrN.keep ?_ | refine DrawN.calm (by decide +kernel) ?_ | refine Nd.mk (by decide +kernel) ?_ | refine Nd.mk (by omega) ?_ | (refine Nd.mk ?_ ?_; focus ((repeat' (first | exact trivial | exact wkE_refl _ | refine And.intro ?_ ?_)); done)) | refine RdN.intro _ rfl (by rfl) ?_); (conv => whnf))))
                refine ⟨(p', r', [], fp, outC out (if (opn q).2.1 then trim t fp else t) begun ++ [(⟨(opn q).1, ln pre, code⟩ : Part)], begun', m'), ⟨hpr2, heq, fun h => absurd rfl h, fun _ => Bl.tag hX, ok', by simp; omega, by simp⟩, by show r'.length < (60 :: 37 :: q).length; simp; omega, ?_, ?_⟩
                · (repeat' (first | exact trivial | refine And.intro (by with_reducible rfl) ?_ | (with_reducible exact wkC_refl _) | (with_reducible exact wkCs_refl _) | refine And.intro ?_ ?_))
                  all_goals rfl
                · exact wkH_refl _
            rw [if_neg (by simp [h2])] at heq
            have hb0 : byteAt (bs (c :: r)) 0 = (c.toNat : Int) := byteAt_get rfl
            ((conv => whnf); (repeat ((first | refine BoxN.own ?_ | refine VrN.norm (wrap_i64 (by omega)) ?_ | refine VrN.keep ?_ | refine DrawN.calm (by decide +kernel) ?_ | refine Nd.mk (by decide +kernel) ?_ | refine Nd.mk (by omega) ?_ | (refine Nd.mk ?_ ?_; focus ((repeat' (first | exact trivial | exact wkE_refl _ | refine And.intro ?_ ?_)); done)) | refine RdN.intro _ rfl (by rfl) ?_); (conv => whnf))))
            refine Nd.mk ⟨by omega, by rw [bs_size]; simp⟩ ?_
            rw [show ((0 : Int).toNat) = 0 from rfl, hb0]
            ((conv => whnf); (repeat ((first | refine BoxN.own ?_ | refine VrN.norm (wrap_i64 (by omega)) ?_ | refine VrN.keep ?_ | refine DrawN.calm (by decide +kernel) ?_ | refine Nd.mk (by decide +kernel) ?_ | refine Nd.mk (by omega) ?_ | (refine Nd.mk ?_ ?_; focus ((repeat' (first | exact trivial | exact wkE_refl _ | refine And.intro ?_ ?_)); done)) | refine RdN.intro _ rfl (by rfl) ?_); (conv => whnf))))
            refine callG (add_x s pre.length (ln pre) lines out t begun _ c hi.ok (by omega) (by omega)) [0, 1, 2] rfl ⟨rfl, rfl, rfl, trivial⟩ rfl fun m1 ok1 => ?_
            ((conv => whnf); (repeat ((first | refine BoxN.own ?_ | refine VrN.norm (wrap_i64 (by omega)) ?_ | refine VrN.keep ?_ | refine DrawN.calm (by decide +kernel) ?_ | refine Nd.mk (by decide +kernel) ?_ | refine Nd.mk (by omega) ?_ | (refine Nd.mk ?_ ?_; focus ((repeat' (first | exact trivial | exact wkE_refl _ | refine And.intro ?_ ?_)); done)) | refine RdN.intro _ rfl (by rfl) ?_); (conv => whnf))))
            refine ⟨(pre ++ [c], r, t ++ [c], fpOf t fp pre, out, (if t.isEmpty then ln pre else begun), m1), ⟨by rw [← hi.sp]; simp, heq, fun _ => ?_, fun _ => (hi.bl (by simp)).snoc c, ok1, by simp; omega, by simp; omega⟩, by show r.length < (c :: r).length; simp, ?_, ?_⟩
            · unfold fpOf
              cases t with
              | nil => rfl
              | cons x t => exact hi.bg (by simp)
            · (repeat' (first | exact trivial | refine And.intro (by with_reducible rfl) ?_ | (with_reducible exact wkC_refl _) | (with_reducible exact wkCs_refl _) | refine And.intro ?_ ?_))
              all_goals rfl
            · refine wkH_cons ?_ (wkH_cons rfl (wkH_cons rfl (wkH_cons rfl (wkH_nil _))))
              simp only [rnCs, rnC, ln_snoc]
              rw [show IntKind.wrap .i64 ((pre.length : Int) + 1) = ((pre ++ [c]).length : Int) by rw [wrap_i64 (by omega)]; simp]
          · skip
            ((conv => whnf); (repeat ((first | refine BoxN.own ?_ | refine VrN.norm (wrap_i64 (by omega)) ?_ | refine VrN.keep ?_ | refine DrawN.calm (by decide +kernel) ?_ | refine Nd.mk (by decide +kernel) ?_ | refine Nd.mk (by omega) ?_ | (refine Nd.mk ?_ ?_; focus ((repeat' (first | exact trivial | exact wkE_refl _ | refine And.intro ?_ ?_)); done)) | refine RdN.intro _ rfl (by rfl) ?_); (conv => whnf)))); refine call1 (HasPrefix_c (c :: r) [60, 37, 37] _) ?_
            ((conv => whnf); (repeat ((first | refine BoxN.own ?_ | refine VrN.norm (wrap_i64 (by omega)) ?_ | refine VrN.keep ?_ | refine DrawN.calm (by decide +kernel) ?_ | refine Nd.mk (by decide +kernel) ?_ | refine Nd.mk (by omega) ?_ | (refine Nd.mk ?_ ?_; focus ((repeat' (first | exact trivial | exact wkE_refl _ | refine And.intro ?_ ?_)); done)) | refine RdN.intro _ rfl (by rfl) ?_); (conv => whnf))))
            refine brd_intro (fun h1 => ?_) (fun h1 => ?_)
            · rw [if_pos h1] at heq
              obtain ⟨q, hq⟩ := pfx_split h1
              have htk : (c :: r).take 3 = [60, 37, 37] := pfx_take h1
              have hdr : (c :: r).drop 3 = q := by rw [hq]; rfl
              rw [htk, hdr] at heq
              have hq3 := congrArg List.length hq
              simp only [List.length_append, List.length_cons, List.length_nil] at hq3
              ((conv => whnf); (repeat ((first | refine BoxN.own ?_ | refine VrN.norm (wrap_i64 (by omega)) ?_ | refine VrN.keep ?_ | refine DrawN.calm (by decide +kernel) ?_ | refine Nd.mk (by decide +kernel) ?_ | refine Nd.mk (by omega) ?_ | (refine Nd.mk ?_ ?_; focus ((repeat' (first | exact trivial | exact wkE_refl _ | refine And.intro ?_ ?_)); done)) | refine RdN.intro _ rfl (by rfl) ?_); (conv => whnf))))
              refine callG (add_x s pre.length (ln pre) lines out t begun _ 60 hi.ok (by omega) (by omega)) [0, 1, 2] rfl ⟨rfl, rfl, rfl, trivial⟩ rfl fun m1 ok1 => ?_
              ((conv => whnf); (repeat ((first | refine BoxN.own ?_ | refine VrN.norm (wrap_i64 (by omega)) ?_ | refine VrN.keep ?_ | refine DrawN.calm (by decide +kernel) ?_ | refine Nd.mk (by decide +kernel) ?_ | refine Nd.mk (by omega) ?_ | (refine Nd.mk ?_ ?_; focus ((repeat' (first | exact trivial | exact wkE_refl _ | refine And.intro ?_ ?_)); done)) | refine RdN.intro _ rfl (by rfl) ?_); (conv => whnf))))
              refine callG (add_x s pre.length (ln pre) lines out (t ++ [60]) (if t.isEmpty then ln pre else begun) m1 37 ok1 (by omega) (by simp; omega)) [0, 1, 2] rfl ⟨rfl, rfl, rfl, trivial⟩ rfl fun m2 ok2 => ?_
              have e0 : ∀ z : Int, (if (t ++ [60]).isEmpty then ln pre else z) = z := fun z => by cases t <;> rfl
              rw [e0] at ok2
              have ht2 : t ++ [60] ++ [37] = t ++ [60, 37] := by simp
              rw [ht2] at ok2
              simp only [e0, ht2]
              ((conv => whnf); (repeat ((first | refine BoxN.own ?_ | refine VrN.norm (wrap_i64 (by omega)) ?_ | refine VrN.keep ?_ | refine DrawN.calm (by decide +kernel) ?_ | refine Nd.mk (by decide +kernel) ?_ | refine Nd.mk (by omega) ?_ | (refine Nd.mk ?_ ?_; focus ((repeat' (first | exact trivial | exact wkE_refl _ | refine And.intro ?_ ?_)); done)) | refine RdN.intro _ rfl (by rfl) ?_); (conv => whnf))))
              refine ⟨(pre ++ [60, 37, 37], q, t ++ [60, 37], fpOf t fp pre, out, (if t.isEmpty then ln pre else begun), m2), ⟨by rw [← hi.sp, hq]; simp, heq, fun _ => ?_, fun _ => Bl.esc (pre := pre) (t := t) [60, 37] [60] (by simp) (by simp), ok2, by simp; omega, by simp; omega⟩, by show q.length < (c :: r).length; rw [hq]; simp; omega, ?_, ?_⟩
              · unfold fpOf
                cases t with
                | nil => rfl
                | cons x t => exact hi.bg (by simp)
              · (repeat' (first | exact trivial | refine And.intro (by with_reducible rfl) ?_ | (with_reducible exact wkC_refl _) | (with_reducible exact wkCs_refl _) | refine And.intro ?_ ?_))
                all_goals rfl
              · refine wkH_cons ?_ (wkH_cons rfl (wkH_cons rfl (wkH_cons rfl (wkH_nil _))))
                simp only [rnCs, rnC]
                rw [show IntKind.wrap .i64 ((pre.length : Int) + 3) = ((pre ++ [60, 37, 37]).length : Int) by rw [wrap_i64 (by omega)]; simp, show ln (pre ++ [60, 37, 37]) = ln pre by rw [ln_app]; rfl]
                rfl
            rw [if_neg (by simp [h1])] at heq
            ((conv => whnf); (repeat ((first | refine BoxN.own ?_ | refine VrN.norm (wrap_i64 (by omega)) ?_ | refine VrN.keep ?_ | refine DrawN.calm (by decide +kernel) ?_ | refine Nd.mk (by decide +kernel) ?_ | refine Nd.mk (by omega) ?_ | (refine Nd.mk ?_ ?_; focus ((repeat' (first | exact trivial | exact wkE_refl _ | refine And.intro ?_ ?_)); done)) | refine RdN.intro _ rfl (by rfl) ?_); (conv => whnf)))); refine call1 (HasPrefix_c (c :: r) [60, 37] _) ?_
            ((conv => whnf); (repeat ((first | refine BoxN.own ?_ | refine VrN.norm (wrap_i64 (by omega)) ?_ | refine VrN.keep ?_ | refine DrawN.calm (by decide +kernel) ?_ | refine Nd.mk (by decide +kernel) ?_ | refine Nd.mk (by omega) ?_ | (refine Nd.mk ?_ ?_; focus ((repeat' (first | exact trivial | exact wkE_refl _ | refine And.intro ?_ ?_)); done)) | refine RdN.intro _ rfl (by rfl) ?_); (conv => whnf))))
            refine brd_intro (fun h2 => ?_) (fun h2 => ?_)
            · rw [if_pos h2] at heq
              obtain ⟨q, hq⟩ := pfx_split h2
              obtain ⟨rfl, rfl⟩ : c = 60 ∧ r = 37 :: q := by
                have := hq
                simp at this
                exact this
              have hsq := hi.sp
              subst hsq
              have hT := tag_c pre q lines out t fp begun _ hi.ok (by simpa using hs) (by omega) (by omega) (hi.bl (by simp))
              simp only [List.drop_succ_cons, List.drop_zero] at heq
              have hd : List.drop (2 + (opn q).2.2) (60 :: 37 :: q) = q.drop (opn q).2.2 := by rw [Nat.add_comm]; rfl
              rw [hd] at heq
              cases hX : tgN (pre ++ (60 :: 37 :: q).take (2 + (opn q).2.2)) (q.drop (opn q).2.2) [] with
              | none =>
                rw [hX] at hT heq
                simp only at heq
                subst heq
                ((conv => whnf); (repeat ((first | refine BoxN.own ?_ | refine VrN.norm (wrap_i64 (by omega)) ?_ | refine VrN.keep ?_ | refine DrawN.calm (by decide +kernel) ?_ | refine Nd.mk (by decide +kernel) ?_ | refine Nd.mk (by omega) ?_ | (refine Nd.mk ?_ ?_; focus ((repeat' (first | exact trivial | exact wkE_refl _ | refine And.intro ?_ ?_)); done)) | refine RdN.intro _ rfl (by rfl) ?_); (conv => whnf))))
                refine callG hT [0, 1, 2, 3] rfl ⟨rfl, rfl, rfl, rfl, trivial⟩ rfl fun i hTP => ?_
                ((conv => whnf); (repeat ((first | refine BoxN.own ?_ | refine VrN.norm (wrap_i64 (by omega)) ?_ | refine VrN.keep ?_ | refine DrawN.calm (by decide +kernel) ?_ | refine Nd.mk (by decide +kernel) ?_ | refine Nd.mk (by omega) ?_ | (refine Nd.mk ?_ ?_; focus ((repeat' (first | exact trivial | exact wkE_refl _ | refine And.intro ?_ ?_)); done)) | refine RdN.intro _ rfl (by rfl) ?_); (conv => whnf))))
                exact ⟨i, ⟨hTP.1, hTP.2.2.2⟩, rfl, wkH_refl _⟩
              | some x =>
                obtain ⟨p', r', code⟩ := x
                rw [hX] at hT heq
                simp only at heq
                have hpr := tgN_len hX
                have hlt := (tg_out _ _ _ _ _ _ _ hX).1
                have hpr2 : p' ++ r' = pre ++ 60 :: 37 :: q := by
                  rw [hpr, List.append_assoc, ← hd]
                  congr 1
                  exact List.take_append_drop _ _
                have hl1 := congrArg List.length hpr2
                simp only [List.length_append, List.length_cons] at hl1
                simp only [List.length_drop] at hlt
                have htl := trim_len t fp
                have hol := outC_len out (if (opn q).2.1 then trim t fp else t) begun
                have hcl : close (if (opn q).2.1 then trim t fp else t) fp out = outC out (if (opn q).2.1 then trim t fp else t) begun := by
                  refine close_eq out fun h => hi.bg fun ht => h ?_
                  subst ht
                  split
                  · have := trim_len [] fp
                    exact List.eq_nil_of_length_eq_zero (by simpa using this)
                  · rfl
                rw [hcl] at heq
                ((conv => whnf); (repeat ((first | refine BoxN.own ?_ | refine VrN.norm (wrap_i64 (by omega)) ?_ | refine VrN.keep ?_ | refine DrawN.calm (by decide +kernel) ?_ | refine Nd.mk (by decide +kernel) ?_ | refine Nd.mk (by omega) ?_ | (refine Nd.mk ?_ ?_; focus ((repeat' (first | exact trivial | exact wkE_refl _ | refine And.intro ?_ ?_)); done)) | refine RdN.intro _ rfl (by rfl) ?_); (conv => whnf))))
                refine callG hT [0, 1, 2, 3] rfl ⟨rfl, rfl, rfl, rfl, trivial⟩ rfl fun i hTP => ?_
                obtain ⟨⟨s', at', line', lines', out', plain', begun'⟩, m'⟩ := i
                obtain ⟨ok', h3, h4, h5, h6, h7, h8⟩ := hTP
                simp only at h3 h4 h5 h6 h7 h8 ok'
                subst h3; subst h4; subst h5; subst h6; subst h7; subst h8
                ((conv => whnf); (repeat ((first | refine BoxN.own ?_ | refine VrN.norm (wrap_i64 (by omega)) ?_ | refine VrN.keep ?_ | refine DrawN.calm (by decide +kernel) ?_ | refine Nd.mk (by decide +kernel) ?_ | refine Nd.mk (by omega) ?_ | (refine Nd.mk ?_ ?_; focus ((repeat' (first | exact trivial | exact wkE_refl _ | refine And.intro ?_ ?_)); done)) | refine RdN.intro _ rfl (by rfl) ?_); (conv => whnf))))
                refine ⟨(p', r', [], fp, outC out (if (opn q).2.1 then trim t fp else t) begun ++ [(⟨(opn q).1, ln pre, code⟩ : Part)], begun', m'), ⟨hpr2, heq, fun h => absurd rfl h, fun _ => Bl.tag hX, ok', by simp; omega, by simp⟩, by show r'.length < (60 :: 37 :: q).length; simp; omega, ?_, ?_⟩
                · (repeat' (first | exact trivial | refine And.intro (by with_reducible rfl) ?_ | (with_reducible exact wkC_refl _) | (with_reducible exact wkCs_refl _) | refine And.intro ?_ ?_))
                  all_goals rfl
                · exact wkH_refl _
            rw [if_neg (by simp [h2])] at heq
            have hb0 : byteAt (bs (c :: r)) 0 = (c.toNat : Int) := byteAt_get rfl
            ((conv => whnf); (repeat ((first | refine BoxN.own ?_ | refine VrN.norm (wrap_i64 (by omega)) ?_ | refine VrN.keep ?_ | refine DrawN.calm (by decide +kernel) ?_ | refine Nd.mk (by decide +kernel) ?_ | refine Nd.mk (by omega) ?_ | (refine Nd.mk ?_ ?_; focus ((repeat' (first | exact trivial | exact wkE_refl _ | refine And.intro ?_ ?_)); done)) | refine RdN.intro _ rfl (by rfl) ?_); (conv => whnf))))
            refine Nd.mk ⟨by omega, by rw [bs_size]; simp⟩ ?_
            rw [show ((0 : Int).toNat) = 0 from rfl, hb0]
            ((conv => whnf); (repeat ((first | refine BoxN.own ?_ | refine VrN.norm (wrap_i64 (by omega)) ?_ | refine VrN.keep ?_ | refine DrawN.calm (by decide +kernel) ?_ | refine Nd.mk (by decide +kernel) ?_ | refine Nd.mk (by omega) ?_ | (refine Nd.mk ?_ ?_; focus ((repeat' (first | exact trivial | exact wkE_refl _ | refine And.intro ?_ ?_)); done)) | refine RdN.intro _ rfl (by rfl) ?_); (conv => whnf))))
            refine callG (add_x s pre.length (ln pre) lines out t begun _ c hi.ok (by omega) (by omega)) [0, 1, 2] rfl ⟨rfl, rfl, rfl, trivial⟩ rfl fun m1 ok1 => ?_
            ((conv => whnf); (repeat ((first | refine BoxN.own ?_ | refine VrN.norm (wrap_i64 (by omega)) ?_ | refine VrN.keep ?_ | refine DrawN.calm (by decide +kernel) ?_ | refine Nd.mk (by decide +kernel) ?_ | refine Nd.mk (by omega) ?_ | (refine Nd.mk ?_ ?_; focus ((repeat' (first | exact trivial | exact wkE_refl _ | refine And.intro ?_ ?_)); done)) | refine RdN.intro _ rfl (by rfl) ?_); (conv => whnf))))
            refine ⟨(pre ++ [c], r, t ++ [c], fpOf t fp pre, out, (if t.isEmpty then ln pre else begun), m1), ⟨by rw [← hi.sp]; simp, heq, fun _ => ?_, fun _ => (hi.bl (by simp)).snoc c, ok1, by simp; omega, by simp; omega⟩, by show r.length < (c :: r).length; simp, ?_, ?_⟩
            · unfold fpOf
              cases t with
              | nil => rfl
              | cons x t => exact hi.bg (by simp)
            · (repeat' (first | exact trivial | refine And.intro (by with_reducible rfl) ?_ | (with_reducible exact wkC_refl _) | (with_reducible exact wkCs_refl _) | refine And.intro ?_ ?_))
              all_goals rfl
            · refine wkH_cons ?_ (wkH_cons rfl (wkH_cons rfl (wkH_cons rfl (wkH_nil _))))
              simp only [rnCs, rnC, ln_snoc]
              rw [show IntKind.wrap .i64 ((pre.length : Int) + 1) = ((pre ++ [c]).length : Int) by rw [wrap_i64 (by omega)]; simp]
      · have hc : ¬ c = 37 := fun h => hc (by rw [h]; rfl)
        have hp : [37, 37].isPrefixOf (c :: r) = false := by simp [List.isPrefixOf]; exact fun h => absurd h.symm hc
        rw [if_neg (by simp [hp]), if_neg (by simp [hc])] at heq
        ((conv => whnf); (repeat ((first | refine BoxN.own ?_ | refine VrN.norm (wrap_i64 (by omega)) ?_ | refine VrN.keep ?_ | refine DrawN.calm (by decide +kernel) ?_ | refine Nd.mk (by decide +kernel) ?_ | refine Nd.mk (by omega) ?_ | (refine Nd.mk ?_ ?_; focus ((repeat' (first | exact trivial | exact wkE_refl _ | refine And.intro ?_ ?_)); done)) | refine RdN.intro _ rfl (by rfl) ?_); (conv => whnf))))
        refine brdT hl ?_
        ((conv => whnf); (repeat ((first | refine BoxN.own ?_ | refine VrN.norm (wrap_i64 (by omega)) ?_ | refine VrN.keep ?_ | refine DrawN.calm (by decide +kernel) ?_ | refine Nd.mk (by decide +kernel) ?_ | refine Nd.mk (by omega) ?_ | (refine Nd.mk ?_ ?_; focus ((repeat' (first | exact trivial | exact wkE_refl _ | refine And.intro ?_ ?_)); done)) | refine RdN.intro _ rfl (by rfl) ?_); (conv => whnf)))); refine call1 (HasPrefix_c (c :: r) [37, 37] _) ?_
        ((conv => whnf); (repeat ((first | refine BoxN.own ?_ | refine VrN.norm (wrap_i64 (by omega)) ?_ | refine VrN.keep ?_ | refine DrawN.calm (by decide +kernel) ?_ | refine Nd.mk (by decide +kernel) ?_ | refine Nd.mk (by omega) ?_ | (refine Nd.mk ?_ ?_; focus ((repeat' (first | exact trivial | exact wkE_refl _ | refine And.intro ?_ ?_)); done)) | refine RdN.intro _ rfl (by rfl) ?_); (conv => whnf))))
        refine brdF hp ?_
        ((conv => whnf); (repeat ((first | refine BoxN.own ?_ | refine VrN.norm (wrap_i64 (by omega)) ?_ | refine VrN.keep ?_ | refine DrawN.calm (by decide +kernel) ?_ | refine Nd.mk (by decide +kernel) ?_ | refine Nd.mk (by omega) ?_ | (refine Nd.mk ?_ ?_; focus ((repeat' (first | exact trivial | exact wkE_refl _ | refine And.intro ?_ ?_)); done)) | refine RdN.intro _ rfl (by rfl) ?_); (conv => whnf)))); refine call1 (HasPrefix_c (c :: r) [60, 37, 37] _) ?_
        ((conv => whnf); (repeat ((first | refine BoxN.own ?_ | refine VrN.norm (wrap_i64 (by omega)) ?_ | refine VrN.keep ?_ | refine DrawN.calm (by decide +kernel) ?_ | refine Nd.mk (by decide +kernel) ?_ | refine Nd.mk (by omega) ?_ | (refine Nd.mk ?_ ?_; focus ((repeat' (first | exact trivial | exact wkE_refl _ | refine And.intro ?_ ?_)); done)) | refine RdN.intro _ rfl (by rfl) ?_); (conv => whnf))))
        refine brd_intro (fun h1 => ?_) (fun h1 => ?_)
        · rw [if_pos h1] at heq
          obtain ⟨q, hq⟩ := pfx_split h1
          have htk : (c :: r).take 3 = [60, 37, 37] := pfx_take h1
          have hdr : (c :: r).drop 3 = q := by rw [hq]; rfl
          rw [htk, hdr] at heq
          have hq3 := congrArg List.length hq
          simp only [List.length_append, List.length_cons, List.length_nil] at hq3
          ((conv => whnf); (repeat ((first | refine BoxN.own ?_ | refine VrN.norm (wrap_i64 (by omega)) ?_ | refine VrN.keep ?_ | refine DrawN.calm (by decide +kernel) ?_ | refine Nd.mk (by decide +kernel) ?_ | refine Nd.mk (by omega) ?_ | (refine Nd.mk ?_ ?_; focus ((repeat' (first | exact trivial | exact wkE_refl _ | refine And.intro ?_ ?_)); done)) | refine RdN.intro _ rfl (by rfl) ?_); (conv => whnf))))
          refine callG (add_x s pre.length (ln pre) lines out t begun _ 60 hi.ok (by omega) (by omega)) [0, 1, 2] rfl ⟨rfl, rfl, rfl, trivial⟩ rfl fun m1 ok1 => ?_
          ((conv => whnf); (repeat ((first | refine BoxN.own ?_ | refine VrN.norm (wrap_i64 (by omega)) ?_ | refine VrN.keep ?_ | refine DrawN.calm (by decide +kernel) ?_ | refine Nd.mk (by decide +kernel) ?_ | refine Nd.mk (by omega) ?_ | (refine Nd.mk ?_ ?_; focus ((repeat' (first | exact trivial | exact wkE_refl _ | refine And.intro ?_ ?_)); done)) | refine RdN.intro _ rfl (by rfl) ?_); (conv => whnf))))
          refine callG (add_x s pre.length (ln pre) lines out (t ++ [60]) (if t.isEmpty then ln pre else begun) m1 37 ok1 (by omega) (by simp; omega)) [0, 1, 2] rfl ⟨rfl, rfl, rfl, trivial⟩ rfl fun m2 ok2 => ?_
          have e0 : ∀ z : Int, (if (t ++ [60]).isEmpty then ln pre else z) = z := fun z => by cases t <;> rfl
          rw [e0] at ok2
          have ht2 : t ++ [60] ++ [37] = t ++ [60, 37] := by simp
          rw [ht2] at ok2
          simp only [e0, ht2]
          ((conv => whnf); (repeat ((first | refine BoxN.own ?_ | refine VrN.norm (wrap_i64 (by omega)) ?_ | refine VrN.keep ?_ | refine DrawN.calm (by decide +kernel) ?_ | refine Nd.mk (by decide +kernel) ?_ | refine Nd.mk (by omega) ?_ | (refine Nd.mk ?_ ?_; focus ((repeat' (first | exact trivial | exact wkE_refl _ | refine And.intro ?_ ?_)); done)) | refine RdN.intro _ rfl (by rfl) ?_); (conv => whnf))))
          refine ⟨(pre ++ [60, 37, 37], q, t ++ [60, 37], fpOf t fp pre, out, (if t.isEmpty then ln pre else begun), m2), ⟨by rw [← hi.sp, hq]; simp, heq, fun _ => ?_, fun _ => Bl.esc (pre := pre) (t := t) [60, 37] [60] (by simp) (by simp), ok2, by simp; omega, by simp; omega⟩, by show q.length < (c :: r).length; rw [hq]; simp; omega, ?_, ?_⟩
          · unfold fpOf
            cases t with
            | nil => rfl
            | cons x t => exact hi.bg (by simp)
          · (repeat' (first | exact trivial | refine And.intro (by with_reducible rfl) ?_ | (with_reducible exact wkC_refl _) | (with_reducible exact wkCs_refl _) | refine And.intro ?_ ?_))
            all_goals rfl
          · refine wkH_cons ?_ (wkH_cons rfl (wkH_cons rfl (wkH_cons rfl (wkH_nil _))))
            simp only [rnCs, rnC]
            rw [show IntKind.wrap .i64 ((pre.length : Int) + 3) = ((pre ++ [60, 37, 37]).length : Int) by rw [wrap_i64 (by omega)]; simp, show ln (pre ++ [60, 37, 37]) = ln pre by rw [ln_app]; rfl]
            rfl
        rw [if_neg (by simp [h1])] at heq
        ((conv => whnf); (repeat ((first | refine BoxN.own ?_ | refine VrN.norm (wrap_i64 (by omega)) ?_ | refine VrN.keep ?_ | refine DrawN.calm (by decide +kernel) ?_ | refine Nd.mk (by decide +kernel) ?_ | refine Nd.mk (by omega) ?_ | (refine Nd.mk ?_ ?_; focus ((repeat' (first | exact trivial | exact wkE_refl _ | refine And.intro ?_ ?_)); done)) | refine RdN.intro _ rfl (by rfl) ?_); (conv => whnf)))); refine call1 (HasPrefix_c (c :: r) [60, 37] _) ?_
        ((conv => whnf); (repeat ((first | refine BoxN.own ?_ | refine VrN.norm (wrap_i64 (by omega)) ?_ | refine VrN.keep ?_ | refine DrawN.calm (by decide +kernel) ?_ | refine Nd.mk (by decide +kernel) ?_ | refine Nd.mk (by omega) ?_ | (refine Nd.mk ?_ ?_; focus ((repeat' (first | exact trivial | exact wkE_refl _ | refine And.intro ?_ ?_)); done)) | refine RdN.intro _ rfl (by rfl) ?_); (conv => whnf))))
        refine brd_intro (fun h2 => ?_) (fun h2 => ?_)
        · rw [if_pos h2] at heq
          obtain ⟨q, hq⟩ := pfx_split h2
          obtain ⟨rfl, rfl⟩ : c = 60 ∧ r = 37 :: q := by
            have := hq
            simp at this
            exact this
          have hsq := hi.sp
          subst hsq
          have hT := tag_c pre q lines out t fp begun _ hi.ok (by simpa using hs) (by omega) (by omega) (hi.bl (by simp))
          simp only [List.drop_succ_cons, List.drop_zero] at heq
          have hd : List.drop (2 + (opn q).2.2) (60 :: 37 :: q) = q.drop (opn q).2.2 := by rw [Nat.add_comm]; rfl
          rw [hd] at heq
          cases hX : tgN (pre ++ (60 :: 37 :: q).take (2 + (opn q).2.2)) (q.drop (opn q).2.2) [] with
          | none =>
            rw [hX] at hT heq
            simp only at heq
            subst heq
            ((conv => whnf); (repeat ((first | refine BoxN.own ?_ | refine VrN.norm (wrap_i64 (by omega)) ?_ | refine VrN.keep ?_ | refine DrawN.calm (by decide +kernel) ?_ | refine Nd.mk (by decide +kernel) ?_ | refine Nd.mk (by omega) ?_ | (refine Nd.mk ?_ ?_; focus ((repeat' (first | exact trivial | exact wkE_refl _ | refine And.intro ?_ ?_)); done)) | refine RdN.intro _ rfl (by rfl) ?_); (conv => whnf))))
            refine callG hT [0, 1, 2, 3] rfl ⟨rfl, rfl, rfl, rfl, trivial⟩ rfl fun i hTP => ?_
            ((conv => whnf); (repeat ((first | refine BoxN.own ?_ | refine VrN.norm (wrap_i64 (by omega)) ?_ | refine VrN.keep ?_ | refine DrawN.calm (by decide +kernel) ?_ | refine Nd.mk (by decide +kernel) ?_ | refine Nd.mk (by omega) ?_ | (refine Nd.mk ?_ ?_; focus ((repeat' (first | exact trivial | exact wkE_refl _ | refine And.intro ?_ ?_)); done)) | refine RdN.intro _ rfl (by rfl) ?_); (conv => whnf))))
            exact ⟨i, ⟨hTP.1, hTP.2.2.2⟩, rfl, wkH_refl _⟩
          | some x =>
            obtain ⟨p', r', code⟩ := x
            rw [hX] at hT heq
            simp only at heq
            have hpr := tgN_len hX
            have hlt := (tg_out _ _ _ _ _ _ _ hX).1
            have hpr2 : p' ++ r' = pre ++ 60 :: 37 :: q := by
              rw [hpr, List.append_assoc, ← hd]
              congr 1
              exact List.take_append_drop _ _
            have hl1 := congrArg List.length hpr2
            simp only [List.length_append, List.length_cons] at hl1
            simp only [List.length_drop] at hlt
            have htl := trim_len t fp
            have hol := outC_len out (if (opn q).2.1 then trim t fp else t) begun
            have hcl : close (if (opn q).2.1 then trim t fp else t) fp out = outC out (if (opn q).2.1 then trim t fp else t) begun := by
              refine close_eq out fun h => hi.bg fun ht => h ?_
              subst ht
              split
              · have := trim_len [] fp
                exact List.eq_nil_of_length_eq_zero (by simpa using this)
              · rfl
            rw [hcl] at heq
            ((conv => whnf); (repeat ((first | refine BoxN.own ?_ | refine VrN.norm (wrap_i64 (by omega)) ?_ | refine VrN.keep ?_ | refine DrawN.calm (by decide +kernel) ?_ | refine Nd.mk (by decide +kernel) ?_ | refine Nd.mk (by omega) ?_ | (refine Nd.mk ?_ ?_; focus ((repeat' (first | exact trivial | exact wkE_refl _ | refine And.intro ?_ ?_)); done)) | refine RdN.intro _ rfl (by rfl) ?_); (conv => whnf))))
            refine callG hT [0, 1, 2, 3] rfl ⟨rfl, rfl, rfl, rfl, trivial⟩ rfl fun i hTP => ?_
            obtain ⟨⟨s', at', line', lines', out', plain', begun'⟩, m'⟩ := i
            obtain ⟨ok', h3, h4, h5, h6, h7, h8⟩ := hTP
            simp only at h3 h4 h5 h6 h7 h8 ok'
            subst h3; subst h4; subst h5; subst h6; subst h7; subst h8
            ((conv => whnf); (repeat ((first | refine BoxN.own ?_ | refine VrN.norm (wrap_i64 (by omega)) ?_ | refine VrN.keep ?_ | refine DrawN.calm (by decide +kernel) ?_ | refine Nd.mk (by decide +kernel) ?_ | refine Nd.mk (by omega) ?_ | (refine Nd.mk ?_ ?_; focus ((repeat' (first | exact trivial | exact wkE_refl _ | refine And.intro ?_ ?_)); done)) | refine RdN.intro _ rfl (by rfl) ?_); (conv => whnf))))
            refine ⟨(p', r', [], fp, outC out (if (opn q).2.1 then trim t fp else t) begun ++ [(⟨(opn q).1, ln pre, code⟩ : Part)], begun', m'), ⟨hpr2, heq, fun h => absurd rfl h, fun _ => Bl.tag hX, ok', by simp; omega, by simp⟩, by show r'.length < (60 :: 37 :: q).length; simp; omega, ?_, ?_⟩
            · (repeat' (first | exact trivial | refine And.intro (by with_reducible rfl) ?_ | (with_reducible exact wkC_refl _) | (with_reducible exact wkCs_refl _) | refine And.intro ?_ ?_))
              all_goals rfl
            · exact wkH_refl _
        rw [if_neg (by simp [h2])] at heq
        have hb0 : byteAt (bs (c :: r)) 0 = (c.toNat : Int) := byteAt_get rfl
        ((conv => whnf); (repeat ((first | refine BoxN.own ?_ | refine VrN.norm (wrap_i64 (by omega)) ?_ | refine VrN.keep ?_ | refine DrawN.calm (by decide +kernel) ?_ | refine Nd.mk (by decide +kernel) ?_ | refine Nd.mk (by omega) ?_ | (refine Nd.mk ?_ ?_; focus ((repeat' (first | exact trivial | exact wkE_refl _ | refine And.intro ?_ ?_)); done)) | refine RdN.intro _ rfl (by rfl) ?_); (conv => whnf))))
        refine Nd.mk ⟨by omega, by rw [bs_size]; simp⟩ ?_
        rw [show ((0 : Int).toNat) = 0 from rfl, hb0]
        ((conv => whnf); (repeat ((first | refine BoxN.own ?_ | refine VrN.norm (wrap_i64 (by omega)) ?_ | refine VrN.keep ?_ | refine DrawN.calm (by decide +kernel) ?_ | refine Nd.mk (by decide +kernel) ?_ | refine Nd.mk (by omega) ?_ | (refine Nd.mk ?_ ?_; focus ((repeat' (first | exact trivial | exact wkE_refl _ | refine And.intro ?_ ?_)); done)) | refine RdN.intro _ rfl (by rfl) ?_); (conv => whnf))))
        refine callG (add_x s pre.length (ln pre) lines out t begun _ c hi.ok (by omega) (by omega)) [0, 1, 2] rfl ⟨rfl, rfl, rfl, trivial⟩ rfl fun m1 ok1 => ?_
        ((conv => whnf); (repeat ((first | refine BoxN.own ?_ | refine VrN.norm (wrap_i64 (by omega)) ?_ | refine VrN.keep ?_ | refine DrawN.calm (by decide +kernel) ?_ | refine Nd.mk (by decide +kernel) ?_ | refine Nd.mk (by omega) ?_ | (refine Nd.mk ?_ ?_; focus ((repeat' (first | exact trivial | exact wkE_refl _ | refine And.intro ?_ ?_)); done)) | refine RdN.intro _ rfl (by rfl) ?_); (conv => whnf))))
        refine ⟨(pre ++ [c], r, t ++ [c], fpOf t fp pre, out, (if t.isEmpty then ln pre else begun), m1), ⟨by rw [← hi.sp]; simp, heq, fun _ => ?_, fun _ => (hi.bl (by simp)).snoc c, ok1, by simp; omega, by simp; omega⟩, by show r.length < (c :: r).length; simp, ?_, ?_⟩
        · unfold fpOf
          cases t with
          | nil => rfl
          | cons x t => exact hi.bg (by simp)
        · (repeat' (first | exact trivial | refine And.intro (by with_reducible rfl) ?_ | (with_reducible exact wkC_refl _) | (with_reducible exact wkCs_refl _) | refine And.intro ?_ ?_))
          all_goals rfl
        · refine wkH_cons ?_ (wkH_cons rfl (wkH_cons rfl (wkH_cons rfl (wkH_nil _))))
          simp only [rnCs, rnC, ln_snoc]
          rw [show IntKind.wrap .i64 ((pre.length : Int) + 1) = ((pre ++ [c]).length : Int) by rw [wrap_i64 (by omega)]; simp]
    · have hl : lines = false := hl
      rw [if_neg (by simp [hl]), if_neg (by simp [hl])] at heq
      ((conv => whnf); (repeat ((first | refine BoxN.own ?_ | refine VrN.norm (wrap_i64 (by omega)) ?_ | refine VrN.keep ?_ | refine DrawN.calm (by decide +kernel) ?_ | refine Nd.mk (by decide +kernel) ?_ | refine Nd.mk (by omega) ?_ | (refine Nd.mk ?_ ?_; focus ((repeat' (first | exact trivial | exact wkE_refl _ | refine And.intro ?_ ?_)); done)) | refine RdN.intro _ rfl (by rfl) ?_); (conv => whnf))))
      refine brdF hl ?_
      ((conv => whnf); (repeat ((first | refine BoxN.own ?_ | refine VrN.norm (wrap_i64 (by omega)) ?_ | refine VrN.keep ?_ | refine DrawN.calm (by decide +kernel) ?_ | refine Nd.mk (by decide +kernel) ?_ | refine Nd.mk (by omega) ?_ | (refine Nd.mk ?_ ?_; focus ((repeat' (first | exact trivial | exact wkE_refl _ | refine And.intro ?_ ?_)); done)) | refine RdN.intro _ rfl (by rfl) ?_); (conv => whnf)))); refine call1 (HasPrefix_c (c :: r) [60, 37, 37] _) ?_
      ((conv => whnf); (repeat ((first | refine BoxN.own ?_ | refine VrN.norm (wrap_i64 (by omega)) ?_ | refine VrN.keep ?_ | refine DrawN.calm (by decide +kernel) ?_ | refine Nd.mk (by decide +kernel) ?_ | refine Nd.mk (by omega) ?_ | (refine Nd.mk ?_ ?_; focus ((repeat' (first | exact trivial | exact wkE_refl _ | refine And.intro ?_ ?_)); done)) | refine RdN.intro _ rfl (by rfl) ?_); (conv => whnf))))
      refine brd_intro (fun h1 => ?_) (fun h1 => ?_)
      · rw [if_pos h1] at heq
        obtain ⟨q, hq⟩ := pfx_split h1
        have htk : (c :: r).take 3 = [60, 37, 37] := pfx_take h1
        have hdr : (c :: r).drop 3 = q := by rw [hq]; rfl
        rw [htk, hdr] at heq
        have hq3 := congrArg List.length hq
        simp only [List.length_append, List.length_cons, List.length_nil] at hq3
        ((conv => whnf); (repeat ((first | refine BoxN.own ?_ | refine VrN.norm (wrap_i64 (by omega)) ?_ | refine VrN.keep ?_ | refine DrawN.calm (by decide +kernel) ?_ | refine Nd.mk (by decide +kernel) ?_ | refine Nd.mk (by omega) ?_ | (refine Nd.mk ?_ ?_; focus ((repeat' (first | exact trivial | exact wkE_refl _ | refine And.intro ?_ ?_)); done)) | refine RdN.intro _ rfl (by rfl) ?_); (conv => whnf))))
        refine callG (add_x s pre.length (ln pre) lines out t begun _ 60 hi.ok (by omega) (by omega)) [0, 1, 2] rfl ⟨rfl, rfl, rfl, trivial⟩ rfl fun m1 ok1 => ?_
        ((conv => whnf); (repeat ((first | refine BoxN.own ?_ | refine VrN.norm (wrap_i64 (by omega)) ?_ | refine VrN.keep ?_ | refine DrawN.calm (by decide +kernel) ?_ | refine Nd.mk (by decide +kernel) ?_ | refine Nd.mk (by omega) ?_ | (refine Nd.mk ?_ ?_; focus ((repeat' (first | exact trivial | exact wkE_refl _ | refine And.intro ?_ ?_)); done)) | refine RdN.intro _ rfl (by rfl) ?_); (conv => whnf))))
        refine callG (add_x s pre.length (ln pre) lines out (t ++ [60]) (if t.isEmpty then ln pre else begun) m1 37 ok1 (by omega) (by simp; omega)) [0, 1, 2] rfl ⟨rfl, rfl, rfl, trivial⟩ rfl fun m2 ok2 => ?_
        have e0 : ∀ z : Int, (if (t ++ [60]).isEmpty then ln pre else z) = z := fun z => by cases t <;> rfl
        rw [e0] at ok2
        have ht2 : t ++ [60] ++ [37] = t ++ [60, 37] := by simp
        rw [ht2] at ok2
        simp only [e0, ht2]
        ((conv => whnf); (repeat ((first | refine BoxN.own ?_ | refine VrN.norm (wrap_i64 (by omega)) ?_ | refine VrN.keep ?_ | refine DrawN.calm (by decide +kernel) ?_ | refine Nd.mk (by decide +kernel) ?_ | refine Nd.mk (by omega) ?_ | (refine Nd.mk ?_ ?_; focus ((repeat' (first | exact trivial | exact wkE_refl _ | refine And.intro ?_ ?_)); done)) | refine RdN.intro _ rfl (by rfl) ?_); (conv => whnf))))
        refine ⟨(pre ++ [60, 37, 37], q, t ++ [60, 37], fpOf t fp pre, out, (if t.isEmpty then ln pre else begun), m2), ⟨by rw [← hi.sp, hq]; simp, heq, fun _ => ?_, fun _ => Bl.esc (pre := pre) (t := t) [60, 37] [60] (by simp) (by simp), ok2, by simp; omega, by simp; omega⟩, by show q.length < (c :: r).length; rw [hq]; simp; omega, ?_, ?_⟩
        · unfold fpOf
          cases t with
          | nil => rfl
          | cons x t => exact hi.bg (by simp)
        · (repeat' (first | exact trivial | refine And.intro (by with_reducible rfl) ?_ | (with_reducible exact wkC_refl _) | (with_reducible exact wkCs_refl _) | refine And.intro ?_ ?_))
          all_goals rfl
        · refine wkH_cons ?_ (wkH_cons rfl (wkH_cons rfl (wkH_cons rfl (wkH_nil _))))
          simp only [rnCs, rnC]
          rw [show IntKind.wrap .i64 ((pre.length : Int) + 3) = ((pre ++ [60, 37, 37]).length : Int) by rw [wrap_i64 (by omega)]; simp, show ln (pre ++ [60, 37, 37]) = ln pre by rw [ln_app]; rfl]
          rfl
      rw [if_neg (by simp [h1])] at heq
      ((conv => whnf); (repeat ((first | refine BoxN.own ?_ | refine VrN.norm (wrap_i64 (by omega)) ?_ | refine VrN.keep ?_ | refine DrawN.calm (by decide +kernel) ?_ | refine Nd.mk (by decide +kernel) ?_ | refine Nd.mk (by omega) ?_ | (refine Nd.mk ?_ ?_; focus ((repeat' (first | exact trivial | exact wkE_refl _ | refine And.intro ?_ ?_)); done)) | refine RdN.intro _ rfl (by rfl) ?_); (conv => whnf)))); refine call1 (HasPrefix_c (c :: r) [60, 37] _) ?_
      ((conv => whnf); (repeat ((first | refine BoxN.own ?_ | refine VrN.norm (wrap_i64 (by omega)) ?_ | refine VrN.keep ?_ | refine DrawN.calm (by decide +kernel) ?_ | refine Nd.mk (by decide +kernel) ?_ | refine Nd.mk (by omega) ?_ | (refine Nd.mk ?_ ?_; focus ((repeat' (first | exact trivial | exact wkE_refl _ | refine And.intro ?_ ?_)); done)) | refine RdN.intro _ rfl (by rfl) ?_); (conv => whnf))))
      refine brd_intro (fun h2 => ?_) (fun h2 => ?_)
      · rw [if_pos h2] at heq
        obtain ⟨q, hq⟩ := pfx_split h2
        obtain ⟨rfl, rfl⟩ : c = 60 ∧ r = 37 :: q := by
          have := hq
          simp at this
          exact this
        have hsq := hi.sp
        subst hsq
        have hT := tag_c pre q lines out t fp begun _ hi.ok (by simpa using hs) (by omega) (by omega) (hi.bl (by simp))
        simp only [List.drop_succ_cons, List.drop_zero] at heq
        have hd : List.drop (2 + (opn q).2.2) (60 :: 37 :: q) = q.drop (opn q).2.2 := by rw [Nat.add_comm]; rfl
        rw [hd] at heq
        cases hX : tgN (pre ++ (60 :: 37 :: q).take (2 + (opn q).2.2)) (q.drop (opn q).2.2) [] with
        | none =>
          rw [hX] at hT heq
          simp only at heq
          subst heq
          ((conv => whnf); (repeat ((first | refine BoxN.own ?_ | refine VrN.norm (wrap_i64 (by omega)) ?_ | refine VrN.keep ?_ | refine DrawN.calm (by decide +kernel) ?_ | refine Nd.mk (by decide +kernel) ?_ | refine Nd.mk (by omega) ?_ | (refine Nd.mk ?_ ?_; focus ((repeat' (first | exact trivial | exact wkE_refl _ | refine And.intro ?_ ?_)); done)) | refine RdN.intro _ rfl (by rfl) ?_); (conv => whnf))))
          refine callG hT [0, 1, 2, 3] rfl ⟨rfl, rfl, rfl, rfl, trivial⟩ rfl fun i hTP => ?_
          ((conv => whnf); (repeat ((first | refine BoxN.own ?_ | refine VrN.norm (wrap_i64 (by omega)) ?_ | refine VrN.keep ?_ | refine DrawN.calm (by decide +kernel) ?_ | refine Nd.mk (by decide +kernel) ?_ | refine Nd.mk (by omega) ?_ | (refine Nd.mk ?_ ?_; focus ((repeat' (first | exact trivial | exact wkE_refl _ | refine And.intro ?_ ?_)); done)) | refine RdN.intro _ rfl (by rfl) ?_); (conv => whnf))))
          exact ⟨i, ⟨hTP.1, hTP.2.2.2⟩, rfl, wkH_refl _⟩
        | some x =>
          obtain ⟨p', r', code⟩ := x
          rw [hX] at hT heq
          simp only at heq
          have hpr := tgN_len hX
          have hlt := (tg_out _ _ _ _ _ _ _ hX).1
          have hpr2 : p' ++ r' = pre ++ 60 :: 37 :: q := by
            rw [hpr, List.append_assoc, ← hd]
            congr 1
            exact List.take_append_drop _ _
          have hl1 := congrArg List.length hpr2
          simp only [List.length_append, List.length_cons] at hl1
          simp only [List.length_drop] at hlt
          have htl := trim_len t fp
          have hol := outC_len out (if (opn q).2.1 then trim t fp else t) begun
          have hcl : close (if (opn q).2.1 then trim t fp else t) fp out = outC out (if (opn q).2.1 then trim t fp else t) begun := by
            refine close_eq out fun h => hi.bg fun ht => h ?_
            subst ht
            split
            · have := trim_len [] fp
              exact List.eq_nil_of_length_eq_zero (by simpa using this)
            · rfl
          rw [hcl] at heq
          ((conv => whnf); (repeat ((first | refine BoxN.own ?_ | refine VrN.norm (wrap_i64 (by omega)) ?_ | refine VrN.keep ?_ | refine DrawN.calm (by decide +kernel) ?_ | refine Nd.mk (by decide +kernel) ?_ | refine Nd.mk (by omega) ?_ | (refine Nd.mk ?_ ?_; focus ((repeat' (first | exact trivial | exact wkE_refl _ | refine And.intro ?_ ?_)); done)) | refine RdN.intro _ rfl (by rfl) ?_); (conv => whnf))))
          refine callG hT [0, 1, 2, 3] rfl ⟨rfl, rfl, rfl, rfl, trivial⟩ rfl fun i hTP => ?_
          obtain ⟨⟨s', at', line', lines', out', plain', begun'⟩, m'⟩ := i
          obtain ⟨ok', h3, h4, h5, h6, h7, h8⟩ := hTP
          simp only at h3 h4 h5 h6 h7 h8 ok'
          subst h3; subst h4; subst h5; subst h6; subst h7; subst h8
          ((conv => whnf); (repeat ((first | refine BoxN.own ?_ | refine VrN.norm (wrap_i64 (by omega)) ?_ | refine VrN.keep ?_ | refine DrawN.calm (by decide +kernel) ?_ | refine Nd.mk (by decide +kernel) ?_ | refine Nd.mk (by omega) ?_ | (refine Nd.mk ?_ ?_; focus ((repeat' (first | exact trivial | exact wkE_refl _ | refine And.intro ?_ ?_)); done)) | refine RdN.intro _ rfl (by rfl) ?_); (conv => whnf))))
          refine ⟨(p', r', [], fp, outC out (if (opn q).2.1 then trim t fp else t) begun ++ [(⟨(opn q).1, ln pre, code⟩ : Part)], begun', m'), ⟨hpr2, heq, fun h => absurd rfl h, fun _ => Bl.tag hX, ok', by simp; omega, by simp⟩, by show r'.length < (60 :: 37 :: q).length; simp; omega, ?_, ?_⟩
          · (repeat' (first | exact trivial | refine And.intro (by with_reducible rfl) ?_ | (with_reducible exact wkC_refl _) | (with_reducible exact wkCs_refl _) | refine And.intro ?_ ?_))
            all_goals rfl
          · exact wkH_refl _
      rw [if_neg (by simp [h2])] at heq
      have hb0 : byteAt (bs (c :: r)) 0 = (c.toNat : Int) := byteAt_get rfl
      ((conv => whnf); (repeat ((first | refine BoxN.own ?_ | refine VrN.norm (wrap_i64 (by omega)) ?_ | refine VrN.keep ?_ | refine DrawN.calm (by decide +kernel) ?_ | refine Nd.mk (by decide +kernel) ?_ | refine Nd.mk (by omega) ?_ | (refine Nd.mk ?_ ?_; focus ((repeat' (first | exact trivial | exact wkE_refl _ | refine And.intro ?_ ?_)); done)) | refine RdN.intro _ rfl (by rfl) ?_); (conv => whnf))))
      refine Nd.mk ⟨by omega, by rw [bs_size]; simp⟩ ?_
      rw [show ((0 : Int).toNat) = 0 from rfl, hb0]
      ((conv => whnf); (repeat ((first | refine BoxN.own ?_ | refine VrN.norm (wrap_i64 (by omega)) ?_ | refine VrN.keep ?_ | refine DrawN.calm (by decide +kernel) ?_ | refine Nd.mk (by decide +kernel) ?_ | refine Nd.mk (by omega) ?_ | (refine Nd.mk ?_ ?_; focus ((repeat' (first | exact trivial | exact wkE_refl _ | refine And.intro ?_ ?_)); done)) | refine RdN.intro _ rfl (by rfl) ?_); (conv => whnf))))
      refine callG (add_x s pre.length (ln pre) lines out t begun _ c hi.ok (by omega) (by omega)) [0, 1, 2] rfl ⟨rfl, rfl, rfl, trivial⟩ rfl fun m1 ok1 => ?_
      ((conv => whnf); (repeat ((first | refine BoxN.own ?_ | refine VrN.norm (wrap_i64 (by omega)) ?_ | refine VrN.keep ?_ | refine DrawN.calm (by decide +kernel) ?_ | refine Nd.mk (by decide +kernel) ?_ | refine Nd.mk (by omega) ?_ | (refine Nd.mk ?_ ?_; focus ((repeat' (first | exact trivial | exact wkE_refl _ | refine And.intro ?_ ?_)); done)) | refine RdN.intro _ rfl (by rfl) ?_); (conv => whnf))))
      refine ⟨(pre ++ [c], r, t ++ [c], fpOf t fp pre, out, (if t.isEmpty then ln pre else begun), m1), ⟨by rw [← hi.sp]; simp, heq, fun _ => ?_, fun _ => (hi.bl (by simp)).snoc c, ok1, by simp; omega, by simp; omega⟩, by show r.length < (c :: r).length; simp, ?_, ?_⟩
      · unfold fpOf
        cases t with
        | nil => rfl
        | cons x t => exact hi.bg (by simp)
      · (repeat' (first | exact trivial | refine And.intro (by with_reducible rfl) ?_ | (with_reducible exact wkC_refl _) | (with_reducible exact wkCs_refl _) | refine And.intro ?_ ?_))
        all_goals rfl
      · refine wkH_cons ?_ (wkH_cons rfl (wkH_cons rfl (wkH_cons rfl (wkH_nil _))))
        simp only [rnCs, rnC, ln_snoc]
        rw [show IntKind.wrap .i64 ((pre.length : Int) + 1) = ((pre ++ [c]).length : Int) by rw [wrap_i64 (by omega)]; simp]
end Go.Proofs.YtfcjgklghgpddaaGreatDoor

/-
  Contracts: the document's reader of templates: a place's line, the beginning of a line, bytes put, the text's end, blanks, a line of code.
-/
namespace Go.Proofs.YtfcjgklghgpddaaGreatDoor
open Go.AX Go.RowKit Go.Erb
set_option maxRecDepth 20000

theorem empty_iff {s : List UInt8} {l : List UInt8} (hl : l = []) : ((bs s).data.toList == l) = s.isEmpty := by subst hl; rw [bs_list]; cases s <;> rfl
theorem sfx1 (c : UInt8) (l : List UInt8) : [c].isSuffixOf l = (l.getLast? == some c) := by
  rcases List.eq_nil_or_concat l with rfl | ⟨xs, d, rfl⟩
  · rfl
  · have e : (c == d) = (d == c) := by by_cases h : c = d
                                       · subst h; rfl
                                       · rw [beq_eq_false_iff_ne.2 h, beq_eq_false_iff_ne.2 (Ne.symm h)]
    simp [List.isSuffixOf, List.isPrefixOf, e]
def trimQ (t : List UInt8) (whole : Bool) : List UInt8 := if (trimR t).isEmpty && whole || (trimR t).getLast? == some 10 then trimR t else t
theorem trim_eqQ (t fp : List UInt8) : trim t fp = trimQ t (bol fp) := rfl
/-- The document's reader. -/
structure QS where
  s : List UInt8
  at_ : Nat
  text : List UInt8
  from_ : Nat
  whole : Bool
  out : List Part
def QH (r : QS) (o : BSt) : List Ent := [.blk 88 [.v (.string (bs r.s)), .v (.int .i64 (r.at_ : Int)), .v (.string (bs r.text)), .v (.int .i64 (r.from_ : Int)), .v (.bool r.whole), .v (.slice (at0 o.ob) r.out.length o.cap)],
  .app 91 3 (partsC r.out) (at0 o.ob) r.out.length o.cap]
theorem QH_ok (r : QS) (o : BSt) : okH (QH r o).length (QH r o) := okHB_eq rfl
theorem QHf_ok (r : QS) (o : BSt) : okH (QH r o ++ [Ent.fact MaxF]).length (QH r o ++ [Ent.fact MaxF]) := okHB_eq rfl
def RetQ (r : QS) (v : Value) : Out → List Ent → Prop := RetG (ι := BSt) (fun o => o.ok r.out.length) (fun _ => v) fun o => QH r o

theorem line_c (s : List UInt8) (n : Nat) (hn : n ≤ s.length) (hs : s.length ≤ 1000000) : ∀ H, SpecH Tryz.prog 44 (pvs [.string (bs s), .int .i64 (n : Int)]) H (Ret (.int .i64 (ln (s.take n))) H) := by
  refine pureC hm Tryz.func44 (by kernel_rfl) rfl rfl ?_
  have hb := ln_bd (s.take n)
  rw [List.length_take] at hb
  ((conv => whnf); (repeat ((first | refine BoxN.own ?_ | refine VrN.norm (wrap_i64 (by omega)) ?_ | refine VrN.keep ?_ | refine DrawN.calm (by decide +kernel) ?_ | refine Nd.mk (by decide +kernel) ?_ | refine Nd.mk (by omega) ?_ | (refine Nd.mk ?_ ?_; focus ((repeat' (first | exact trivial | exact wkE_refl _ | refine And.intro ?_ ?_)); done)) | refine RdN.intro _ rfl (by rfl) ?_); (conv => whnf))))
  refine ReadW.sl_h n rfl (by kernel_rfl) rfl rfl ⟨rfl, hn⟩ ?_
  (((conv => whnf); (repeat ((first | refine BoxN.own ?_ | refine VrN.norm (wrap_i64 (by omega)) ?_ | refine VrN.keep ?_ | refine DrawN.calm (by decide +kernel) ?_ | refine Nd.mk (by decide +kernel) ?_ | refine Nd.mk (by omega) ?_ | (refine Nd.mk ?_ ?_; focus ((repeat' (first | exact trivial | exact wkE_refl _ | refine And.intro ?_ ?_)); done)) | refine RdN.intro _ rfl (by rfl) ?_); (conv => whnf)))); first | refine call1 (Count1_c (s.take n) 10 _) ?_ | refine callQ (Count1_c (s.take n) 10 _) ?_)
  ((conv => whnf); (repeat ((first | refine BoxN.own ?_ | refine VrN.norm (wrap_i64 (by omega)) ?_ | refine VrN.keep ?_ | refine DrawN.calm (by decide +kernel) ?_ | refine Nd.mk (by decide +kernel) ?_ | refine Nd.mk (by omega) ?_ | (refine Nd.mk ?_ ?_; focus ((repeat' (first | exact trivial | exact wkE_refl _ | refine And.intro ?_ ?_)); done)) | refine RdN.intro _ rfl (by rfl) ?_); (conv => whnf))))
  exact out_int (by rw [wrap_i64 (by unfold ln at hb; omega)]; rfl)
theorem begins_c (s : List UInt8) (at_ : Nat) (text : List UInt8) (from_ : Nat) (whole : Bool) (out : List Part) (o : BSt) (ok : o.ok out.length) (ha : at_ ≤ s.length) (hs : s.length ≤ 1000000) :
    SpecH Tryz.prog 40 [.c (.lp 0 0)] (QH ⟨s, at_, text, from_, whole, out⟩ o) (RetQ ⟨s, at_, text, from_, whole, out⟩ (.bool (bol (s.take at_)))) := by
  refine ownC hm Tryz.func40 (by kernel_rfl) rfl rfl (fun _ _ => QH_ok _ _) (fun _ _ => Nat.le_refl _) ?_
  obtain ⟨ob, oc⟩ := o
  ((conv => whnf); (repeat ((first | refine BoxN.own ?_ | refine VrN.norm (wrap_i64 (by omega)) ?_ | refine VrN.keep ?_ | refine DrawN.calm (by decide +kernel) ?_ | refine Nd.mk (by decide +kernel) ?_ | refine Nd.mk (by omega) ?_ | (refine Nd.mk ?_ ?_; focus ((repeat' (first | exact trivial | exact wkE_refl _ | refine And.intro ?_ ?_)); done)) | refine RdN.intro _ rfl (by rfl) ?_); (conv => whnf))))
  refine brd_eq (fun h0 => ?_) (fun h0 => ?_)
  · have h0 : at_ = 0 := by have h0 : (at_ : Int) = 0 := h0; omega
    subst h0
    ((conv => whnf); (repeat ((first | refine BoxN.own ?_ | refine VrN.norm (wrap_i64 (by omega)) ?_ | refine VrN.keep ?_ | refine DrawN.calm (by decide +kernel) ?_ | refine Nd.mk (by decide +kernel) ?_ | refine Nd.mk (by omega) ?_ | (refine Nd.mk ?_ ?_; focus ((repeat' (first | exact trivial | exact wkE_refl _ | refine And.intro ?_ ?_)); done)) | refine RdN.intro _ rfl (by rfl) ?_); (conv => whnf))))
    exact ⟨⟨ob, oc⟩, ok, rfl, wkH_refl _⟩
  · have h0 : at_ ≠ 0 := fun h => h0 (by show (at_ : Int) = 0; omega)
    have hc : ∃ x, s[at_ - 1]? = some x := ⟨_, List.getElem?_eq_getElem (by omega)⟩
    obtain ⟨x, hc⟩ := hc
    have hbx := byteAt_get hc
    have hw : IntKind.wrap .i64 ((at_ : Int) - 1) = ((at_ - 1 : Nat) : Int) := by rw [wrap_i64 (by omega)]; omega
    ((conv => whnf); (repeat ((first | refine BoxN.own ?_ | refine VrN.norm (wrap_i64 (by omega)) ?_ | refine VrN.keep ?_ | refine DrawN.calm (by decide +kernel) ?_ | refine Nd.mk (by decide +kernel) ?_ | refine Nd.mk (by omega) ?_ | (refine Nd.mk ?_ ?_; focus ((repeat' (first | exact trivial | exact wkE_refl _ | refine And.intro ?_ ?_)); done)) | refine RdN.intro _ rfl (by rfl) ?_); (conv => whnf))))
    rw [hw]
    refine Nd.mk ⟨by omega, by rw [bs_size]; show ((at_ - 1 : Nat) : Int) < (s.length : Int); omega⟩ ?_
    rw [Int.toNat_natCast, hbx]
    ((conv => whnf); (repeat ((first | refine BoxN.own ?_ | refine VrN.norm (wrap_i64 (by omega)) ?_ | refine VrN.keep ?_ | refine DrawN.calm (by decide +kernel) ?_ | refine Nd.mk (by decide +kernel) ?_ | refine Nd.mk (by omega) ?_ | (refine Nd.mk ?_ ?_; focus ((repeat' (first | exact trivial | exact wkE_refl _ | refine And.intro ?_ ?_)); done)) | refine RdN.intro _ rfl (by rfl) ?_); (conv => whnf))))
    refine ⟨⟨ob, oc⟩, ok, ?_, wkH_refl _⟩
    rw [show bol (List.take at_ s) = (x == 10) from bol_take h0 ha hc]
    exact out_bool (u8_10 x)
def fromQ (text : List UInt8) (at_ from_ : Nat) : Nat := if text.isEmpty then at_ else from_
def wholeQ (text : List UInt8) (b whole : Bool) : Bool := if text.isEmpty then b else whole
theorem put_c (s : List UInt8) (at_ : Nat) (text : List UInt8) (from_ : Nat) (whole : Bool) (out : List Part) (o : BSt) (b : List UInt8) (ok : o.ok out.length) (ha : at_ ≤ s.length) (hs : s.length ≤ 1000000) (ht : text.length ≤ 1000000) (hb : b.length ≤ 1000000) :
    SpecH Tryz.prog 41 [.c (.lp 0 0), .c (.v (.string (bs b)))] (QH ⟨s, at_, text, from_, whole, out⟩ o) (RetQ ⟨s, at_, text ++ b, fromQ text at_ from_, wholeQ text (bol (s.take at_)) whole, out⟩ unit) := by
  refine ownC hm Tryz.func41 (by kernel_rfl) rfl rfl (fun _ _ => QH_ok _ _) (fun _ _ => Nat.le_refl _) ?_
  obtain ⟨ob, oc⟩ := o
  have hsz : (bs text).size + (bs b).size < 9223372036854775808 := by rw [bs_size, bs_size]; omega
  ((conv => whnf); (repeat ((first | refine BoxN.own ?_ | refine VrN.norm (wrap_i64 (by omega)) ?_ | refine VrN.keep ?_ | refine DrawN.calm (by decide +kernel) ?_ | refine Nd.mk (by decide +kernel) ?_ | refine Nd.mk (by omega) ?_ | (refine Nd.mk ?_ ?_; focus ((repeat' (first | exact trivial | exact wkE_refl _ | refine And.intro ?_ ?_)); done)) | refine RdN.intro _ rfl (by rfl) ?_); (conv => whnf))))
  rw [empty_iff (by simp)]
  refine brd_intro (fun h0 => ?_) (fun h0 => ?_)
  · ((conv => whnf); (repeat ((first | refine BoxN.own ?_ | refine VrN.norm (wrap_i64 (by omega)) ?_ | refine VrN.keep ?_ | refine DrawN.calm (by decide +kernel) ?_ | refine Nd.mk (by decide +kernel) ?_ | refine Nd.mk (by omega) ?_ | (refine Nd.mk ?_ ?_; focus ((repeat' (first | exact trivial | exact wkE_refl _ | refine And.intro ?_ ?_)); done)) | refine RdN.intro _ rfl (by rfl) ?_); (conv => whnf))))
    refine callG (begins_c s at_ text at_ whole out ⟨ob, oc⟩ ok ha hs) [0, 1] rfl ⟨rfl, rfl, trivial⟩ rfl fun o' ok' => ?_
    ((conv => whnf); (repeat ((first | refine BoxN.own ?_ | refine VrN.norm (wrap_i64 (by omega)) ?_ | refine VrN.keep ?_ | refine DrawN.calm (by decide +kernel) ?_ | refine Nd.mk (by decide +kernel) ?_ | refine Nd.mk (by omega) ?_ | (refine Nd.mk ?_ ?_; focus ((repeat' (first | exact trivial | exact wkE_refl _ | refine And.intro ?_ ?_)); done)) | refine RdN.intro _ rfl (by rfl) ?_); (conv => whnf))))
    refine ⟨o', ok', rfl, ?_⟩
    refine wkH_cons ?_ (wkH_cons rfl (wkH_nil _))
    simp [fromQ, wholeQ, h0, bs_app, rnCs, rnC]
  · ((conv => whnf); (repeat ((first | refine BoxN.own ?_ | refine VrN.norm (wrap_i64 (by omega)) ?_ | refine VrN.keep ?_ | refine DrawN.calm (by decide +kernel) ?_ | refine Nd.mk (by decide +kernel) ?_ | refine Nd.mk (by omega) ?_ | (refine Nd.mk ?_ ?_; focus ((repeat' (first | exact trivial | exact wkE_refl _ | refine And.intro ?_ ?_)); done)) | refine RdN.intro _ rfl (by rfl) ?_); (conv => whnf))))
    refine ⟨⟨ob, oc⟩, ok, rfl, ?_⟩
    refine wkH_cons ?_ (wkH_cons rfl (wkH_nil _))
    simp [fromQ, wholeQ, h0, bs_app]
theorem close_c (s : List UInt8) (at_ : Nat) (text : List UInt8) (from_ : Nat) (whole : Bool) (out : List Part) (o : BSt) (ok : o.ok out.length) (ha : from_ ≤ s.length) (hs : s.length ≤ 1000000) (ho : out.length ≤ 1000000) :
    SpecH Tryz.prog 45 [.c (.lp 0 0)] (QH ⟨s, at_, text, from_, whole, out⟩ o) (RetQ ⟨s, at_, [], from_, whole, outC out text (ln (s.take from_))⟩ unit) := by
  refine ownC hm Tryz.func45 (by kernel_rfl) rfl rfl (fun _ _ => QH_ok _ _) (fun _ _ => Nat.le_refl _) ?_
  obtain ⟨ob, oc⟩ := o
  ((conv => whnf); (repeat ((first | refine BoxN.own ?_ | refine VrN.norm (wrap_i64 (by omega)) ?_ | refine VrN.keep ?_ | refine DrawN.calm (by decide +kernel) ?_ | refine Nd.mk (by decide +kernel) ?_ | refine Nd.mk (by omega) ?_ | (refine Nd.mk ?_ ?_; focus ((repeat' (first | exact trivial | exact wkE_refl _ | refine And.intro ?_ ?_)); done)) | refine RdN.intro _ rfl (by rfl) ?_); (conv => whnf))))
  refine brd_not ?_
  rw [empty_iff (by simp)]
  refine brd_intro (fun h0 => ?_) (fun h0 => ?_)
  · ((conv => whnf); (repeat ((first | refine BoxN.own ?_ | refine VrN.norm (wrap_i64 (by omega)) ?_ | refine VrN.keep ?_ | refine DrawN.calm (by decide +kernel) ?_ | refine Nd.mk (by decide +kernel) ?_ | refine Nd.mk (by omega) ?_ | (refine Nd.mk ?_ ?_; focus ((repeat' (first | exact trivial | exact wkE_refl _ | refine And.intro ?_ ?_)); done)) | refine RdN.intro _ rfl (by rfl) ?_); (conv => whnf))))
    refine ⟨⟨ob, oc⟩, by simpa [outC, h0] using ok, rfl, ?_⟩
    refine wkH_cons ?_ (wkH_cons ?_ (wkH_nil _))
    · have : text = [] := by simpa using h0
      subst this
      simp [outC]
      rfl
    · simp [outC, h0]
  · ((conv => whnf); (repeat ((first | refine BoxN.own ?_ | refine VrN.norm (wrap_i64 (by omega)) ?_ | refine VrN.keep ?_ | refine DrawN.calm (by decide +kernel) ?_ | refine Nd.mk (by decide +kernel) ?_ | refine Nd.mk (by omega) ?_ | (refine Nd.mk ?_ ?_; focus ((repeat' (first | exact trivial | exact wkE_refl _ | refine And.intro ?_ ?_)); done)) | refine RdN.intro _ rfl (by rfl) ?_); (conv => whnf))))
    refine DrawN.plan [0, 1, 5, 9, 14] [(2, 1), (3, 1), (4, 1), (6, 1), (7, 1), (8, 1), (10, 1), (11, 1), (12, 1), (15, 1), (16, 1), (17, 1), (13, 0), (18, 1), (19, 0)] [(20, 0), (21, 0), (22, 0), (23, 0)] (by decide +kernel) ?_
    (((conv => whnf); (repeat ((first | refine BoxN.own ?_ | refine VrN.norm (wrap_i64 (by omega)) ?_ | refine VrN.keep ?_ | refine DrawN.calm (by decide +kernel) ?_ | refine Nd.mk (by decide +kernel) ?_ | refine Nd.mk (by omega) ?_ | (refine Nd.mk ?_ ?_; focus ((repeat' (first | exact trivial | exact wkE_refl _ | refine And.intro ?_ ?_)); done)) | refine RdN.intro _ rfl (by rfl) ?_); (conv => whnf)))); first | refine call1 (line_c s from_ ha hs _) ?_ | refine callQ (line_c s from_ ha hs _) ?_)
    ((conv => whnf); (repeat ((first | refine BoxN.own ?_ | refine VrN.norm (wrap_i64 (by omega)) ?_ | refine VrN.keep ?_ | refine DrawN.calm (by decide +kernel) ?_ | refine Nd.mk (by decide +kernel) ?_ | refine Nd.mk (by omega) ?_ | (refine Nd.mk ?_ ?_; focus ((repeat' (first | exact trivial | exact wkE_refl _ | refine And.intro ?_ ?_)); done)) | refine RdN.intro _ rfl (by rfl) ?_); (conv => whnf))))
    refine Nd.mk ⟨by omega, rfl, rfl⟩ ?_
    (conv => whnf)
    refine AppN.grow 1 (partsC out) _ rfl rfl ⟨by omega, ⟨by show (out.length + 1) * 32 ≤ _; omega, by show out.length + 1 < _; omega⟩, by decide⟩ fun b' cap' h3 h4 => ?_
    ((conv => whnf); (repeat ((first | refine BoxN.own ?_ | refine VrN.norm (wrap_i64 (by omega)) ?_ | refine VrN.keep ?_ | refine DrawN.calm (by decide +kernel) ?_ | refine Nd.mk (by decide +kernel) ?_ | refine Nd.mk (by omega) ?_ | (refine Nd.mk ?_ ?_; focus ((repeat' (first | exact trivial | exact wkE_refl _ | refine And.intro ?_ ?_)); done)) | refine RdN.intro _ rfl (by rfl) ?_); (conv => whnf))))
    refine ⟨⟨some b', cap'⟩, ⟨(fun h => by cases h), by simpa [outC, h0] using h3, fun h => by have h : cap' = 0 := h; omega⟩, rfl, ?_⟩
    refine wkH_cons (by simp [h0, outC, at0, bs]) (wkH_cons ?_ (wkH_nil _))
    simp [h0, outC, at0, partsC_app]
    exact ⟨rfl, rfl⟩
theorem trimQ_c (s : List UInt8) (at_ : Nat) (text : List UInt8) (from_ : Nat) (whole : Bool) (out : List Part) (o : BSt) (ok : o.ok out.length) (hs : text.length ≤ 1000000) :
    SpecH Tryz.prog 66 [.c (.lp 0 0)] (QH ⟨s, at_, text, from_, whole, out⟩ o) (RetQ ⟨s, at_, trimQ text whole, from_, whole, out⟩ unit) := by
  refine ownC hm Tryz.func66 (by kernel_rfl) rfl rfl (fun _ _ => QH_ok _ _) (fun _ _ => Nat.le_refl _) ?_
  obtain ⟨ob, oc⟩ := o
  have hl : (trimR text).length ≤ text.length := by
    unfold trimR
    rw [List.length_reverse]
    exact Nat.le_trans (List.dropWhile_suffix _).length_le (by simp)
  have fin : ∀ b : Bool, ((trimR text).isEmpty && whole || (trimR text).getLast? == some 10) = b → trimQ text whole = if b then trimR text else text := fun b h => by subst h; rfl
  have ht := TrimRight_c text (by omega)
  rw [← trimR_eq] at ht
  (((conv => whnf); (repeat ((first | refine BoxN.own ?_ | refine VrN.norm (wrap_i64 (by omega)) ?_ | refine VrN.keep ?_ | refine DrawN.calm (by decide +kernel) ?_ | refine Nd.mk (by decide +kernel) ?_ | refine Nd.mk (by omega) ?_ | (refine Nd.mk ?_ ?_; focus ((repeat' (first | exact trivial | exact wkE_refl _ | refine And.intro ?_ ?_)); done)) | refine RdN.intro _ rfl (by rfl) ?_); (conv => whnf)))); first | refine call1 (ht _) ?_ | refine callQ (ht _) ?_)
  ((conv => whnf); (repeat ((first | refine BoxN.own ?_ | refine VrN.norm (wrap_i64 (by omega)) ?_ | refine VrN.keep ?_ | refine DrawN.calm (by decide +kernel) ?_ | refine Nd.mk (by decide +kernel) ?_ | refine Nd.mk (by omega) ?_ | (refine Nd.mk ?_ ?_; focus ((repeat' (first | exact trivial | exact wkE_refl _ | refine And.intro ?_ ?_)); done)) | refine RdN.intro _ rfl (by rfl) ?_); (conv => whnf))))
  rw [empty_iff (by simp)]
  refine brd_intro (fun h0 => ?_) (fun h0 => ?_)
  · ((conv => whnf); (repeat ((first | refine BoxN.own ?_ | refine VrN.norm (wrap_i64 (by omega)) ?_ | refine VrN.keep ?_ | refine DrawN.calm (by decide +kernel) ?_ | refine Nd.mk (by decide +kernel) ?_ | refine Nd.mk (by omega) ?_ | (refine Nd.mk ?_ ?_; focus ((repeat' (first | exact trivial | exact wkE_refl _ | refine And.intro ?_ ?_)); done)) | refine RdN.intro _ rfl (by rfl) ?_); (conv => whnf))))
    refine brd_intro (fun h1 => ?_) (fun h1 => ?_)
    · ((conv => whnf); (repeat ((first | refine BoxN.own ?_ | refine VrN.norm (wrap_i64 (by omega)) ?_ | refine VrN.keep ?_ | refine DrawN.calm (by decide +kernel) ?_ | refine Nd.mk (by decide +kernel) ?_ | refine Nd.mk (by omega) ?_ | (refine Nd.mk ?_ ?_; focus ((repeat' (first | exact trivial | exact wkE_refl _ | refine And.intro ?_ ?_)); done)) | refine RdN.intro _ rfl (by rfl) ?_); (conv => whnf))))
      refine ⟨⟨ob, oc⟩, ok, rfl, ?_⟩
      rw [fin true (by simp [h0, show whole = true from h1])]
      exact wkH_refl _
    · (((conv => whnf); (repeat ((first | refine BoxN.own ?_ | refine VrN.norm (wrap_i64 (by omega)) ?_ | refine VrN.keep ?_ | refine DrawN.calm (by decide +kernel) ?_ | refine Nd.mk (by decide +kernel) ?_ | refine Nd.mk (by omega) ?_ | (refine Nd.mk ?_ ?_; focus ((repeat' (first | exact trivial | exact wkE_refl _ | refine And.intro ?_ ?_)); done)) | refine RdN.intro _ rfl (by rfl) ?_); (conv => whnf)))); first | refine call1 (HasSuffix_c (trimR text) [10] (by omega) _) ?_ | refine callQ (HasSuffix_c (trimR text) [10] (by omega) _) ?_)
      rw [sfx1]
      ((conv => whnf); (repeat ((first | refine BoxN.own ?_ | refine VrN.norm (wrap_i64 (by omega)) ?_ | refine VrN.keep ?_ | refine DrawN.calm (by decide +kernel) ?_ | refine Nd.mk (by decide +kernel) ?_ | refine Nd.mk (by omega) ?_ | (refine Nd.mk ?_ ?_; focus ((repeat' (first | exact trivial | exact wkE_refl _ | refine And.intro ?_ ?_)); done)) | refine RdN.intro _ rfl (by rfl) ?_); (conv => whnf))))
      refine brd_intro (fun h2 => ?_) (fun h2 => ?_)
      · ((conv => whnf); (repeat ((first | refine BoxN.own ?_ | refine VrN.norm (wrap_i64 (by omega)) ?_ | refine VrN.keep ?_ | refine DrawN.calm (by decide +kernel) ?_ | refine Nd.mk (by decide +kernel) ?_ | refine Nd.mk (by omega) ?_ | (refine Nd.mk ?_ ?_; focus ((repeat' (first | exact trivial | exact wkE_refl _ | refine And.intro ?_ ?_)); done)) | refine RdN.intro _ rfl (by rfl) ?_); (conv => whnf))))
        refine ⟨⟨ob, oc⟩, ok, rfl, ?_⟩
        rw [fin true (by simp [h2])]
        exact wkH_refl _
      · ((conv => whnf); (repeat ((first | refine BoxN.own ?_ | refine VrN.norm (wrap_i64 (by omega)) ?_ | refine VrN.keep ?_ | refine DrawN.calm (by decide +kernel) ?_ | refine Nd.mk (by decide +kernel) ?_ | refine Nd.mk (by omega) ?_ | (refine Nd.mk ?_ ?_; focus ((repeat' (first | exact trivial | exact wkE_refl _ | refine And.intro ?_ ?_)); done)) | refine RdN.intro _ rfl (by rfl) ?_); (conv => whnf))))
        refine ⟨⟨ob, oc⟩, ok, rfl, ?_⟩
        rw [fin false (by simp [h2, show whole = false from h1])]
        exact wkH_refl _
  · (((conv => whnf); (repeat ((first | refine BoxN.own ?_ | refine VrN.norm (wrap_i64 (by omega)) ?_ | refine VrN.keep ?_ | refine DrawN.calm (by decide +kernel) ?_ | refine Nd.mk (by decide +kernel) ?_ | refine Nd.mk (by omega) ?_ | (refine Nd.mk ?_ ?_; focus ((repeat' (first | exact trivial | exact wkE_refl _ | refine And.intro ?_ ?_)); done)) | refine RdN.intro _ rfl (by rfl) ?_); (conv => whnf)))); first | refine call1 (HasSuffix_c (trimR text) [10] (by omega) _) ?_ | refine callQ (HasSuffix_c (trimR text) [10] (by omega) _) ?_)
    rw [sfx1]
    ((conv => whnf); (repeat ((first | refine BoxN.own ?_ | refine VrN.norm (wrap_i64 (by omega)) ?_ | refine VrN.keep ?_ | refine DrawN.calm (by decide +kernel) ?_ | refine Nd.mk (by decide +kernel) ?_ | refine Nd.mk (by omega) ?_ | (refine Nd.mk ?_ ?_; focus ((repeat' (first | exact trivial | exact wkE_refl _ | refine And.intro ?_ ?_)); done)) | refine RdN.intro _ rfl (by rfl) ?_); (conv => whnf))))
    refine brd_intro (fun h2 => ?_) (fun h2 => ?_)
    · ((conv => whnf); (repeat ((first | refine BoxN.own ?_ | refine VrN.norm (wrap_i64 (by omega)) ?_ | refine VrN.keep ?_ | refine DrawN.calm (by decide +kernel) ?_ | refine Nd.mk (by decide +kernel) ?_ | refine Nd.mk (by omega) ?_ | (refine Nd.mk ?_ ?_; focus ((repeat' (first | exact trivial | exact wkE_refl _ | refine And.intro ?_ ?_)); done)) | refine RdN.intro _ rfl (by rfl) ?_); (conv => whnf))))
      refine ⟨⟨ob, oc⟩, ok, rfl, ?_⟩
      rw [fin true (by simp [h2])]
      exact wkH_refl _
    · ((conv => whnf); (repeat ((first | refine BoxN.own ?_ | refine VrN.norm (wrap_i64 (by omega)) ?_ | refine VrN.keep ?_ | refine DrawN.calm (by decide +kernel) ?_ | refine Nd.mk (by decide +kernel) ?_ | refine Nd.mk (by omega) ?_ | (refine Nd.mk ?_ ?_; focus ((repeat' (first | exact trivial | exact wkE_refl _ | refine And.intro ?_ ?_)); done)) | refine RdN.intro _ rfl (by rfl) ?_); (conv => whnf))))
      refine ⟨⟨ob, oc⟩, ok, rfl, ?_⟩
      rw [fin false (by simp [h2, h0])]
      exact wkH_refl _
theorem cut10_fst (l : List UInt8) : (Lib.cut l [10]).1 = l.takeWhile (· != 10) := by
  rcases split10 l with h | ⟨t, r, rfl, h⟩
  · rw [cut10_no h, takeW_no h]
  · rw [cut10_at h, takeW_at h]
theorem row_c (pre : List UInt8) (c : UInt8) (r text : List UInt8) (from_ : Nat) (whole : Bool) (out : List Part) (o : BSt) (ok : o.ok out.length) (ha : from_ ≤ (pre ++ c :: r).length) (hs : (pre ++ c :: r).length ≤ 1000000) (ho : out.length ≤ 900000) :
    SpecH Tryz.prog 42 [.c (.lp 0 0)] (QH ⟨pre ++ c :: r, pre.length, text, from_, whole, out⟩ o ++ [.fact MaxF])
    (RetG (ι := BSt) (fun o => o.ok (outC out text (ln ((pre ++ c :: r).take from_)) ++ [(⟨1, ln pre, r.takeWhile (· != 10)⟩ : Part)]).length) (fun _ => unit) fun o => QH ⟨pre ++ c :: r, (pre ++ (c :: r).take (1 + (r.takeWhile (· != 10)).length + 1)).length, [], from_, whole, outC out text (ln ((pre ++ c :: r).take from_)) ++ [⟨1, ln pre, r.takeWhile (· != 10)⟩]⟩ o ++ [.fact MaxF]) := by
  refine ownC hm Tryz.func42 (by kernel_rfl) rfl rfl (fun _ _ => QHf_ok _ _) (fun _ _ => Nat.le_refl _) ?_
  have hol := outC_len out text (ln ((pre ++ c :: r).take from_))
  have hlen : (pre ++ c :: r).length = pre.length + r.length + 1 := by simp; omega
  have hd : (pre ++ c :: r).drop (pre.length + 1) = r := by rw [List.drop_append]; simp
  have htk : (pre ++ c :: r).take pre.length = pre := List.take_left
  have hw1 : IntKind.wrap .i64 ((pre.length : Int) + 1) = ((pre.length + 1 : Nat) : Int) := by rw [wrap_i64 (by omega)]; omega
  have hC := Cut_c r [10] (by omega)
  have hL := line_c (pre ++ c :: r) pre.length (by omega) (by omega)
  rw [htk] at hL
  have hT := cut10_fst r
  have hTl : (r.takeWhile (· != 10)).length ≤ r.length := (List.takeWhile_prefix _).length_le
  generalize Lib.cut r [10] = C at hC hT
  obtain ⟨c1, c2, c3⟩ := C
  simp only at hT
  subst hT
  generalize hTe : r.takeWhile (· != 10) = T at *
  ((conv => whnf); (repeat ((first | refine BoxN.own ?_ | refine VrN.norm (wrap_i64 (by omega)) ?_ | refine VrN.keep ?_ | refine DrawN.calm (by decide +kernel) ?_ | refine Nd.mk (by decide +kernel) ?_ | refine Nd.mk (by omega) ?_ | (refine Nd.mk ?_ ?_; focus ((repeat' (first | exact trivial | exact wkE_refl _ | refine And.intro ?_ ?_)); done)) | refine RdN.intro _ rfl (by rfl) ?_); (conv => whnf))))
  refine callG (close_c (pre ++ c :: r) pre.length text from_ whole out o ok ha (by omega) (by omega)) [0, 1] rfl ⟨rfl, rfl, trivial⟩ rfl fun o' ok' => ?_
  obtain ⟨ob, oc⟩ := o'
  ((conv => whnf); (repeat ((first | refine BoxN.own ?_ | refine VrN.norm (wrap_i64 (by omega)) ?_ | refine VrN.keep ?_ | refine DrawN.calm (by decide +kernel) ?_ | refine Nd.mk (by decide +kernel) ?_ | refine Nd.mk (by omega) ?_ | (refine Nd.mk ?_ ?_; focus ((repeat' (first | exact trivial | exact wkE_refl _ | refine And.intro ?_ ?_)); done)) | refine RdN.intro _ rfl (by rfl) ?_); (conv => whnf))))
  rw [hw1]
  refine ReadW.sl_l (pre.length + 1) rfl (by kernel_rfl) rfl rfl ⟨rfl, by show pre.length + 1 ≤ (pre ++ c :: r).length; omega⟩ ?_
  rw [hd]
  (((conv => whnf); (repeat ((first | refine BoxN.own ?_ | refine VrN.norm (wrap_i64 (by omega)) ?_ | refine VrN.keep ?_ | refine DrawN.calm (by decide +kernel) ?_ | refine Nd.mk (by decide +kernel) ?_ | refine Nd.mk (by omega) ?_ | (refine Nd.mk ?_ ?_; focus ((repeat' (first | exact trivial | exact wkE_refl _ | refine And.intro ?_ ?_)); done)) | refine RdN.intro _ rfl (by rfl) ?_); (conv => whnf)))); first | refine call1 (hC _ fun w hw => hw.2.1) ?_ | refine callQ (hC _ fun w hw => hw.2.1) ?_)
  ((conv => whnf); (repeat ((first | refine BoxN.own ?_ | refine VrN.norm (wrap_i64 (by omega)) ?_ | refine VrN.keep ?_ | refine DrawN.calm (by decide +kernel) ?_ | refine Nd.mk (by decide +kernel) ?_ | refine Nd.mk (by omega) ?_ | (refine Nd.mk ?_ ?_; focus ((repeat' (first | exact trivial | exact wkE_refl _ | refine And.intro ?_ ?_)); done)) | refine RdN.intro _ rfl (by rfl) ?_); (conv => whnf))))
  refine DrawN.plan [0, 1, 5, 9, 14] [(2, 1), (3, 1), (4, 1), (6, 1), (7, 1), (8, 1), (10, 1), (11, 1), (12, 1), (13, 0), (15, 1), (16, 0)] [(17, 0), (18, 0), (19, 0), (20, 0)] (by decide +kernel) ?_
  (((conv => whnf); (repeat ((first | refine BoxN.own ?_ | refine VrN.norm (wrap_i64 (by omega)) ?_ | refine VrN.keep ?_ | refine DrawN.calm (by decide +kernel) ?_ | refine Nd.mk (by decide +kernel) ?_ | refine Nd.mk (by omega) ?_ | (refine Nd.mk ?_ ?_; focus ((repeat' (first | exact trivial | exact wkE_refl _ | refine And.intro ?_ ?_)); done)) | refine RdN.intro _ rfl (by rfl) ?_); (conv => whnf)))); first | refine call1 (hL _) ?_ | refine callQ (hL _) ?_)
  ((conv => whnf); (repeat ((first | refine BoxN.own ?_ | refine VrN.norm (wrap_i64 (by omega)) ?_ | refine VrN.keep ?_ | refine DrawN.calm (by decide +kernel) ?_ | refine Nd.mk (by decide +kernel) ?_ | refine Nd.mk (by omega) ?_ | (refine Nd.mk ?_ ?_; focus ((repeat' (first | exact trivial | exact wkE_refl _ | refine And.intro ?_ ?_)); done)) | refine RdN.intro _ rfl (by rfl) ?_); (conv => whnf))))
  refine Nd.mk ⟨by omega, rfl, rfl⟩ ?_
  (conv => whnf)
  refine AppN.grow 1 (partsC (outC out text (ln ((pre ++ c :: r).take from_)))) _ rfl rfl ⟨by omega, ⟨by show ((outC out text (ln ((pre ++ c :: r).take from_))).length + 1) * 32 ≤ _; omega, by show (outC out text (ln ((pre ++ c :: r).take from_))).length + 1 < _; omega⟩, by decide⟩ fun b' cap' h3 h4 => ?_
  ((conv => whnf); (repeat ((first | refine BoxN.own ?_ | refine VrN.norm (wrap_i64 (by omega)) ?_ | refine VrN.keep ?_ | refine DrawN.calm (by decide +kernel) ?_ | refine Nd.mk (by decide +kernel) ?_ | refine Nd.mk (by omega) ?_ | (refine Nd.mk ?_ ?_; focus ((repeat' (first | exact trivial | exact wkE_refl _ | refine And.intro ?_ ?_)); done)) | refine RdN.intro _ rfl (by rfl) ?_); (conv => whnf))))
  refine DrawN.plan [0, 1, 5, 9] [(2, 1), (3, 1), (4, 1), (6, 1), (7, 1), (8, 1), (10, 1), (11, 1), (12, 1), (13, 1), (14, 1), (15, 1), (16, 1)] [(17, 0)] (by decide +kernel) ?_
  ((conv => whnf); (repeat ((first | refine BoxN.own ?_ | refine VrN.norm (wrap_i64 (by omega)) ?_ | refine VrN.keep ?_ | refine DrawN.calm (by decide +kernel) ?_ | refine Nd.mk (by decide +kernel) ?_ | refine Nd.mk (by omega) ?_ | (refine Nd.mk ?_ ?_; focus ((repeat' (first | exact trivial | exact wkE_refl _ | refine And.intro ?_ ?_)); done)) | refine RdN.intro _ rfl (by rfl) ?_); (conv => whnf))))
  refine ⟨⟨some b', cap'⟩, ⟨(fun h => by cases h), by rw [List.length_append]; exact h3, fun h => by have h : cap' = 0 := h; omega⟩, rfl, ?_⟩
  have e1 : minI (IntKind.wrap .i64 (IntKind.wrap .i64 ((pre.length : Int) + ((bs T).size : Int)) + 2)) ((bs (pre ++ c :: r)).size : Int) = ((pre ++ (c :: r).take (1 + T.length + 1)).length : Int) := by
    rw [bs_size, bs_size, wrap_i64 (x := (pre.length : Int) + (T.length : Int)) (by omega), wrap_i64 (by omega), hlen]
    simp only [List.length_append, List.length_take, List.length_cons]
    unfold minI
    split <;> omega
  refine wkH_cons ?_ (wkH_cons ?_ (wkH_cons rfl (wkH_nil _)))
  · simp only [rnCs, rnC]
    rw [e1]
    simp [at0, bs]
  · simp [at0, partsC_app]
    exact ⟨rfl, rfl⟩
end Go.Proofs.YtfcjgklghgpddaaGreatDoor
