/-
  Lemmas (G8).
-/
import Derived.Test.YtfcjgklghgpddaaGreatDoorGm5
/-
  Contract: the program's reader: a tag.
-/
namespace Go.AX
theorem ReadW.sl_at {P : Program} {o : Oper} {s : List AV} {H : List Ent} {K : AV → Prop} {t : TypeId} {x y : Operand} {b : List UInt8} {k : IntKind} {i : Int} (p q : List UInt8) (hb : b = p ++ q) (ho : o.op = .slice t x (some y) none none) (hu : P.underlying t = some .string) (hx : opv s x = .c (.v (.string (bs b)))) (hy : opv s y = .c (.v (.int k i)))
    (h : i = (p.length : Int)) (hk : K (.c (.v (.string (bs q))))) : ReadW P o s H K :=
  ReadW.sl_l p.length ho hu hx hy ⟨h, by rw [hb, List.length_append]; omega⟩ (by rw [hb, List.drop_left]; exact hk)
end Go.AX
namespace Go.Proofs.YtfcjgklghgpddaaGreatDoor
open Go.AX Go.RowKit Go.Erb
set_option maxRecDepth 20000

theorem tgN_len {pre r acc p' r' c' : List UInt8} (h : tgN pre r acc = some (p', r', c')) : p' ++ r' = pre ++ r := by
  obtain ⟨_, x, h1, h2⟩ := tg_out _ _ _ _ _ _ _ h
  rw [h1, h2]; simp
/-- What a tag leaves of the reader. -/
def TP (s : List UInt8) (lines : Bool) (l0 : Int) (k : Int) (out1 : List Part) (X : Option (List UInt8 × List UInt8 × List UInt8)) (r' : RS) : Prop :=
  r'.s = s ∧ r'.lines = lines ∧ match X with
    | none => r'.line = l0
    | some (p', _, c) => r'.at_ = p'.length ∧ r'.line = ln p' ∧ r'.plain = [] ∧ r'.out = out1 ++ [⟨k, l0, c⟩]
theorem ln_snoc (p : List UInt8) (c : UInt8) : ln (p ++ [c]) = if c = 10 then ln p + 1 else ln p := by
  rw [ln_app]
  split
  · rename_i h; subst h; rfl
  · rename_i h
    rw [List.count_cons_of_ne h]; simp
theorem pfx_take {x l : List UInt8} (h : x.isPrefixOf l = true) : l.take x.length = x := by
  rw [List.isPrefixOf_iff_prefix] at h
  exact (List.prefix_iff_eq_take.1 h).symm
theorem pfx_split {x l : List UInt8} (h : x.isPrefixOf l = true) : ∃ q, l = x ++ q := by
  rw [List.isPrefixOf_iff_prefix] at h
  obtain ⟨q, hq⟩ := h
  exact ⟨q, hq.symm⟩

set_option maxHeartbeats 2000000 in
theorem tag_c (pre r : List UInt8) (lines : Bool) (out : List Part) (plain fp : List UInt8) (begun : Int) (m : MS) (ok : m.ok ⟨pre ++ 60 :: 37 :: r, pre.length, ln pre, lines, out, plain, begun⟩) (hs : (pre ++ 60 :: 37 :: r).length ≤ 100000) (ho : out.length ≤ 900000) (hp : plain.length ≤ 900000) (hbl : Bl pre plain fp) :
    SpecH Tryz.prog 32 [.c (.lp 0 0)] (RH ⟨pre ++ 60 :: 37 :: r, pre.length, ln pre, lines, out, plain, begun⟩ m ++ [.fact MaxF])
    (RetG (ι := RS × MS) (fun i => i.2.ok i.1 ∧ TP (pre ++ 60 :: 37 :: r) lines (ln pre) (opn r).1 (outC out (if (opn r).2.1 then trim plain fp else plain) begun) (tgN (pre ++ (60 :: 37 :: r).take (2 + (opn r).2.2)) (r.drop (opn r).2.2) []) i.1)
      (fun _ => .bool (tgN (pre ++ (60 :: 37 :: r).take (2 + (opn r).2.2)) (r.drop (opn r).2.2) []).isSome) (fun i => RH i.1 i.2 ++ [.fact MaxF])) := by
  refine ownC hm Tryz.func32 (by kernel_rfl) rfl rfl (fun _ _ => RHf_ok _ _) (fun _ _ => Nat.le_refl _) ?_
  have hln := ln_bd pre
  have hpl : pre.length + r.length + 2 ≤ 100000 := by simp at hs; omega
  have hw1 : IntKind.wrap .i64 ((pre.length : Int) + 2) = ((pre.length + 2 : Nat) : Int) := by rw [wrap_i64 (by omega)]; omega
  ((conv => whnf); (repeat ((first | refine BoxN.own ?_ | refine VrN.norm (wrap_i64 (by omega)) ?_ | refine VrN.keep ?_ | refine DrawN.calm (by decide +kernel) ?_ | refine Nd.mk (by decide +kernel) ?_ | refine Nd.mk (by omega) ?_ | (refine Nd.mk ?_ ?_; focus ((repeat' (first | exact trivial | exact wkE_refl _ | refine And.intro ?_ ?_)); done)) | refine RdN.intro _ rfl (by rfl) ?_); (conv => whnf))))
  rw [hw1]
  refine ReadW.sl_at (pre ++ [60, 37]) r (by simp) rfl (by kernel_rfl) rfl rfl (by simp) ?_
  ((conv => whnf); (repeat ((first | refine BoxN.own ?_ | refine VrN.norm (wrap_i64 (by omega)) ?_ | refine VrN.keep ?_ | refine DrawN.calm (by decide +kernel) ?_ | refine Nd.mk (by decide +kernel) ?_ | refine Nd.mk (by omega) ?_ | (refine Nd.mk ?_ ?_; focus ((repeat' (first | exact trivial | exact wkE_refl _ | refine And.intro ?_ ?_)); done)) | refine RdN.intro _ rfl (by rfl) ?_); (conv => whnf)))); refine call1 (HasPrefix_c r [45] _) ?_
  ((conv => whnf); (repeat ((first | refine BoxN.own ?_ | refine VrN.norm (wrap_i64 (by omega)) ?_ | refine VrN.keep ?_ | refine DrawN.calm (by decide +kernel) ?_ | refine Nd.mk (by decide +kernel) ?_ | refine Nd.mk (by omega) ?_ | (refine Nd.mk ?_ ?_; focus ((repeat' (first | exact trivial | exact wkE_refl _ | refine And.intro ?_ ?_)); done)) | refine RdN.intro _ rfl (by rfl) ?_); (conv => whnf))))
  refine brd_intro (fun h => ?_) (fun h => ?_)
  · obtain ⟨q, rfl⟩ := pfx_split h
    have hop : opn ([45] ++ q) = (1, true, 1) := rfl
    rw [hop]
    simp only [if_true]
    obtain ⟨f, hf, hmb, hme⟩ := margin_eq hbl
    generalize hXd : tgN (pre ++ (60 :: 37 :: ([45] ++ q)).take (2 + 1)) (([45] ++ q).drop 1) [] = X
    have htk : (pre ++ 60 :: 37 :: ([45] ++ q)).take pre.length = pre := List.take_left
    have htr : (trim plain fp).length ≤ plain.length := by
      unfold trim
      split
      · unfold trimR
        rw [List.length_reverse]
        refine Nat.le_trans (List.dropWhile_suffix _).length_le (by simp)
      · exact Nat.le_refl _
    ((conv => whnf); (repeat ((first | refine BoxN.own ?_ | refine VrN.norm (wrap_i64 (by omega)) ?_ | refine VrN.keep ?_ | refine DrawN.calm (by decide +kernel) ?_ | refine Nd.mk (by decide +kernel) ?_ | refine Nd.mk (by omega) ?_ | (refine Nd.mk ?_ ?_; focus ((repeat' (first | exact trivial | exact wkE_refl _ | refine And.intro ?_ ?_)); done)) | refine RdN.intro _ rfl (by rfl) ?_); (conv => whnf))))
    refine callG (margin_c (pre ++ 60 :: 37 :: ([45] ++ q)) pre.length (ln pre) lines out plain begun m f (by rw [htk]; exact hf) ok (by simp) (by omega) (by rw [htk]; exact hmb) (by omega)) [0, 1, 2] rfl ⟨rfl, rfl, rfl, trivial⟩ rfl fun m1 ok1 => ?_
    rw [htk, hme] at ok1
    simp only [htk, hme]
    generalize hr : ([45] ++ q : List UInt8) = r at *
    have hat1 : IntKind.wrap .i64 ((pre.length : Int) + 1) = ((pre.length + 1 : Nat) : Int) := by rw [wrap_i64 (by omega)]; omega
    have hat : IntKind.wrap .i64 (((pre.length + 1 : Nat) : Int) + 2) = ((pre ++ (60 :: 37 :: r).take (2 + 1)).length : Int) := by
      rw [wrap_i64 (by omega), ← hr]; simp; omega
    have hlt : ln pre = ln (pre ++ (60 :: 37 :: r).take (2 + 1)) := by rw [ln_app, ← hr]; rfl
    have hsp0 : pre ++ (60 :: 37 :: r).take (2 + 1) ++ r.drop 1 = pre ++ 60 :: 37 :: r := by rw [← hr]; simp
    -- 1: bytes behind '<%' · 1: the kind · (trim plain fp): the text
    ((conv => whnf); (repeat ((first | refine BoxN.own ?_ | refine VrN.norm (wrap_i64 (by omega)) ?_ | refine VrN.keep ?_ | refine DrawN.calm (by decide +kernel) ?_ | refine Nd.mk (by decide +kernel) ?_ | refine Nd.mk (by omega) ?_ | (refine Nd.mk ?_ ?_; focus ((repeat' (first | exact trivial | exact wkE_refl _ | refine And.intro ?_ ?_)); done)) | refine RdN.intro _ rfl (by rfl) ?_); (conv => whnf))))
    simp only [rnCs, rnC, hat1]
    refine callG (flush_x (pre ++ 60 :: 37 :: r) (pre.length + 1) (ln pre) lines out (trim plain fp) begun m1 ok1 (by omega) (by omega)) [0, 1, 2] rfl ⟨rfl, rfl, rfl, trivial⟩ rfl fun m2 ok2 => ?_
    obtain ⟨⟨ob, oc⟩, ⟨pb, pc⟩⟩ := m2
    ((conv => whnf); (repeat ((first | refine BoxN.own ?_ | refine VrN.norm (wrap_i64 (by omega)) ?_ | refine VrN.keep ?_ | refine DrawN.calm (by decide +kernel) ?_ | refine Nd.mk (by decide +kernel) ?_ | refine Nd.mk (by omega) ?_ | (refine Nd.mk ?_ ?_; focus ((repeat' (first | exact trivial | exact wkE_refl _ | refine And.intro ?_ ?_)); done)) | refine RdN.intro _ rfl (by rfl) ?_); (conv => whnf))))
    refine LoopN.intro (List UInt8 × List UInt8 × List UInt8 × Bool × BSt) (fun ⟨p2, r2, acc, _, b⟩ => p2 ++ r2 = pre ++ 60 :: 37 :: r ∧ tgN p2 r2 acc = X ∧ b.ok acc.length ∧ acc.length ≤ p2.length) (fun ⟨_, _, _, _, _⟩ => mkS Tryz.f32.ntmps 0 [(0, .c (.lp 0 0)), (3, .c (.lp 4 0)), (5, .c (.lp 5 0))])
      (fun ⟨p2, _, acc, u, b⟩ => [.blk 44 [.v (.string (bs (pre ++ 60 :: 37 :: r))), .v (.int .i64 (p2.length : Int)), .v (.int .i64 (ln p2)), .v (.bool lines), .v (.slice (at0 ob) (outC out (trim plain fp) begun).length oc), .v (.slice (at0 pb) 0 pc), .v (.int .i64 begun)],
        .app 40 3 (partsC (outC out (trim plain fp) begun)) (at0 ob) (outC out (trim plain fp) begun).length oc, .app 5 1 [] (at0 pb) 0 pc, .fact MaxF, .blk 40 [.v (.int .i64 1), .v (.int .i64 (ln pre)), .v (.string ⟨#[]⟩)], .blk 52 [match u with | true => .lp 5 0 | false => .v (.pointer none), .v (.slice (at0 b.ob) acc.length b.cap)], .app 5 1 (u8s acc) (at0 b.ob) acc.length b.cap])
      (fun ⟨_, r2, _, _, _⟩ => r2.length) [.app 0 0 [] none 0 0] rfl
      (fun _ => rfl) (fun _ => rfl) (fun ⟨_, _, _, u, _⟩ _ => by cases u <;> exact okHB_eq rfl) ⟨⟨pre ++ (60 :: 37 :: r).take (2 + 1), r.drop 1, [], false, ⟨none, 0⟩⟩, ⟨hsp0, hXd, ⟨fun _ => ⟨rfl, rfl⟩, Nat.le_refl _, fun _ => rfl⟩, by simp⟩, ?_, ?_⟩ ?_
    · (repeat' (first | exact trivial | refine And.intro (by with_reducible rfl) ?_ | (with_reducible exact wkC_refl _) | (with_reducible exact wkCs_refl _) | refine And.intro ?_ ?_))
      all_goals rfl
    · refine wkH_cons ?_ (wkH_cons rfl (wkH_cons rfl (wkH_cons rfl (wkH_cons rfl (wkH_cons rfl ⟨wkE_nil, wkH_nil _⟩)))))
      simp only [rnCs, rnC]
      rw [hat, ← hlt]
      try rfl
    rintro ⟨p2, r2, acc, u, b⟩ ⟨hsp, hX, hb, hal⟩
    have hol := outC_len out (trim plain fp) begun
    cases u with
    | false =>
      ((conv => whnf); (repeat ((first | refine BoxN.own ?_ | refine VrN.norm (wrap_i64 (by omega)) ?_ | refine VrN.keep ?_ | refine DrawN.calm (by decide +kernel) ?_ | refine Nd.mk (by decide +kernel) ?_ | refine Nd.mk (by omega) ?_ | (refine Nd.mk ?_ ?_; focus ((repeat' (first | exact trivial | exact wkE_refl _ | refine And.intro ?_ ?_)); done)) | refine RdN.intro _ rfl (by rfl) ?_); (conv => whnf))))
      refine ReadW.sl_at p2 r2 hsp.symm rfl (by kernel_rfl) rfl rfl rfl ?_
      ((conv => whnf); (repeat ((first | refine BoxN.own ?_ | refine VrN.norm (wrap_i64 (by omega)) ?_ | refine VrN.keep ?_ | refine DrawN.calm (by decide +kernel) ?_ | refine Nd.mk (by decide +kernel) ?_ | refine Nd.mk (by omega) ?_ | (refine Nd.mk ?_ ?_; focus ((repeat' (first | exact trivial | exact wkE_refl _ | refine And.intro ?_ ?_)); done)) | refine RdN.intro _ rfl (by rfl) ?_); (conv => whnf))))
      rw [bs_list]
      refine brd_intro (fun h0 => ?_) (fun h0 => ?_)
      · have h0 : r2 = [] := by simpa using h0
        subst h0
        have hX : X = none := by rw [← hX]; rfl
        subst hX
        ((conv => whnf); (repeat ((first | refine BoxN.own ?_ | refine VrN.norm (wrap_i64 (by omega)) ?_ | refine VrN.keep ?_ | refine DrawN.calm (by decide +kernel) ?_ | refine Nd.mk (by decide +kernel) ?_ | refine Nd.mk (by omega) ?_ | (refine Nd.mk ?_ ?_; focus ((repeat' (first | exact trivial | exact wkE_refl _ | refine And.intro ?_ ?_)); done)) | refine RdN.intro _ rfl (by rfl) ?_); (conv => whnf))))
        refine ⟨(⟨pre ++ 60 :: 37 :: r, p2.length, ln pre, lines, outC out (trim plain fp) begun, [], begun⟩, ⟨⟨ob, oc⟩, ⟨pb, pc⟩⟩), ⟨⟨ok2.1, ok2.2⟩, rfl, rfl, rfl⟩, rfl, ?_⟩
        exact wkH_cons rfl (wkH_cons rfl (wkH_cons rfl (wkH_cons rfl (wkH_nil _))))
      obtain ⟨c, r3, rfl⟩ : ∃ c r3, r2 = c :: r3 := by
        cases r2 with
        | nil => simp at h0
        | cons c r3 => exact ⟨c, r3, rfl⟩
      have hlen := congrArg List.length hsp
      simp only [List.length_append, List.length_cons] at hlen
      have hlp := ln_bd p2
      rw [tgN_cons] at hX
      ((conv => whnf); (repeat ((first | refine BoxN.own ?_ | refine VrN.norm (wrap_i64 (by omega)) ?_ | refine VrN.keep ?_ | refine DrawN.calm (by decide +kernel) ?_ | refine Nd.mk (by decide +kernel) ?_ | refine Nd.mk (by omega) ?_ | (refine Nd.mk ?_ ?_; focus ((repeat' (first | exact trivial | exact wkE_refl _ | refine And.intro ?_ ?_)); done)) | refine RdN.intro _ rfl (by rfl) ?_); (conv => whnf)))); refine call1 (HasPrefix_c (c :: r3) [37, 37, 62] _) ?_
      ((conv => whnf); (repeat ((first | refine BoxN.own ?_ | refine VrN.norm (wrap_i64 (by omega)) ?_ | refine VrN.keep ?_ | refine DrawN.calm (by decide +kernel) ?_ | refine Nd.mk (by decide +kernel) ?_ | refine Nd.mk (by omega) ?_ | (refine Nd.mk ?_ ?_; focus ((repeat' (first | exact trivial | exact wkE_refl _ | refine And.intro ?_ ?_)); done)) | refine RdN.intro _ rfl (by rfl) ?_); (conv => whnf))))
      refine brd_intro (fun h1 => ?_) (fun h1 => ?_)
      · rw [if_pos h1] at hX
        obtain ⟨q, hq⟩ := pfx_split h1
        have htk : (c :: r3).take 3 = [37, 37, 62] := pfx_take h1
        have hdr : (c :: r3).drop 3 = q := by rw [hq]; rfl
        rw [htk, hdr] at hX
        have hq3 := congrArg List.length hq
        simp only [List.length_append, List.length_cons, List.length_nil] at hq3
        have ha : IntKind.wrap .i64 ((p2.length : Int) + 3) = ((p2 ++ [37, 37, 62]).length : Int) := by rw [wrap_i64 (by omega)]; simp
        ((conv => whnf); (repeat ((first | refine BoxN.own ?_ | refine VrN.norm (wrap_i64 (by omega)) ?_ | refine VrN.keep ?_ | refine DrawN.calm (by decide +kernel) ?_ | refine Nd.mk (by decide +kernel) ?_ | refine Nd.mk (by omega) ?_ | (refine Nd.mk ?_ ?_; focus ((repeat' (first | exact trivial | exact wkE_refl _ | refine And.intro ?_ ?_)); done)) | refine RdN.intro _ rfl (by rfl) ?_); (conv => whnf))))
        refine callG (WriteString_c false acc [37, 62] b hb (by simp; omega)) [5, 6] rfl ⟨rfl, rfl, trivial⟩ rfl fun b1 hb1 => ?_
        ((conv => whnf); (repeat ((first | refine BoxN.own ?_ | refine VrN.norm (wrap_i64 (by omega)) ?_ | refine VrN.keep ?_ | refine DrawN.calm (by decide +kernel) ?_ | refine Nd.mk (by decide +kernel) ?_ | refine Nd.mk (by omega) ?_ | (refine Nd.mk ?_ ?_; focus ((repeat' (first | exact trivial | exact wkE_refl _ | refine And.intro ?_ ?_)); done)) | refine RdN.intro _ rfl (by rfl) ?_); (conv => whnf))))
        refine ⟨⟨p2 ++ [37, 37, 62], q, acc ++ [37, 62], true, b1⟩, ⟨by rw [← hsp, hq]; simp, hX, hb1, by simp; omega⟩, by show q.length < (c :: r3).length; rw [hq]; simp; omega, ?_, ?_⟩
        · (repeat' (first | exact trivial | refine And.intro (by with_reducible rfl) ?_ | (with_reducible exact wkC_refl _) | (with_reducible exact wkCs_refl _) | refine And.intro ?_ ?_))
          all_goals rfl
        · have hl : ln (p2 ++ [37, 37, 62]) = ln p2 := by rw [ln_app]; rfl
          refine wkH_cons ?_ (wkH_cons rfl (wkH_cons rfl (wkH_cons rfl (wkH_cons rfl (wkH_cons rfl (wkH_cons rfl (wkH_nil _)))))))
          rw [ha, hl]
      rw [if_neg (by simp [h1])] at hX
      ((conv => whnf); (repeat ((first | refine BoxN.own ?_ | refine VrN.norm (wrap_i64 (by omega)) ?_ | refine VrN.keep ?_ | refine DrawN.calm (by decide +kernel) ?_ | refine Nd.mk (by decide +kernel) ?_ | refine Nd.mk (by omega) ?_ | (refine Nd.mk ?_ ?_; focus ((repeat' (first | exact trivial | exact wkE_refl _ | refine And.intro ?_ ?_)); done)) | refine RdN.intro _ rfl (by rfl) ?_); (conv => whnf)))); refine call1 (HasPrefix_c (c :: r3) [45, 37, 62] _) ?_
      ((conv => whnf); (repeat ((first | refine BoxN.own ?_ | refine VrN.norm (wrap_i64 (by omega)) ?_ | refine VrN.keep ?_ | refine DrawN.calm (by decide +kernel) ?_ | refine Nd.mk (by decide +kernel) ?_ | refine Nd.mk (by omega) ?_ | (refine Nd.mk ?_ ?_; focus ((repeat' (first | exact trivial | exact wkE_refl _ | refine And.intro ?_ ?_)); done)) | refine RdN.intro _ rfl (by rfl) ?_); (conv => whnf))))
      refine brd_intro (fun h2 => ?_) (fun h2 => ?_)
      · rw [if_pos h2] at hX
        obtain ⟨q, hq⟩ := pfx_split h2
        have htk : (c :: r3).take 3 = [45, 37, 62] := pfx_take h2
        have hdr : (c :: r3).drop 3 = q := by rw [hq]; rfl
        have hq3 := congrArg List.length hq
        simp only [List.length_append, List.length_cons, List.length_nil] at hq3
        have ha : IntKind.wrap .i64 ((p2.length : Int) + 3) = ((p2 ++ [45, 37, 62]).length : Int) := by rw [wrap_i64 (by omega)]; simp
        rw [hdr] at hX
        have hsq : pre ++ 60 :: 37 :: r = (p2 ++ [45, 37, 62]) ++ q := by rw [← hsp, hq]; simp
        ((conv => whnf); (repeat ((first | refine BoxN.own ?_ | refine VrN.norm (wrap_i64 (by omega)) ?_ | refine VrN.keep ?_ | refine DrawN.calm (by decide +kernel) ?_ | refine Nd.mk (by decide +kernel) ?_ | refine Nd.mk (by omega) ?_ | (refine Nd.mk ?_ ?_; focus ((repeat' (first | exact trivial | exact wkE_refl _ | refine And.intro ?_ ?_)); done)) | refine RdN.intro _ rfl (by rfl) ?_); (conv => whnf))))
        rw [ha]
        refine ReadW.sl_at (p2 ++ [45, 37, 62]) q hsq rfl (by kernel_rfl) rfl rfl rfl ?_
        ((conv => whnf); (repeat ((first | refine BoxN.own ?_ | refine VrN.norm (wrap_i64 (by omega)) ?_ | refine VrN.keep ?_ | refine DrawN.calm (by decide +kernel) ?_ | refine Nd.mk (by decide +kernel) ?_ | refine Nd.mk (by omega) ?_ | (refine Nd.mk ?_ ?_; focus ((repeat' (first | exact trivial | exact wkE_refl _ | refine And.intro ?_ ?_)); done)) | refine RdN.intro _ rfl (by rfl) ?_); (conv => whnf)))); refine callQ (HasPrefix_c q [10] _) ?_
        ((conv => whnf); (repeat ((first | refine BoxN.own ?_ | refine VrN.norm (wrap_i64 (by omega)) ?_ | refine VrN.keep ?_ | refine DrawN.calm (by decide +kernel) ?_ | refine Nd.mk (by decide +kernel) ?_ | refine Nd.mk (by omega) ?_ | (refine Nd.mk ?_ ?_; focus ((repeat' (first | exact trivial | exact wkE_refl _ | refine And.intro ?_ ?_)); done)) | refine RdN.intro _ rfl (by rfl) ?_); (conv => whnf))))
        refine brd_intro (fun h3 => ?_) (fun h3 => ?_)
        · rw [if_pos h3] at hX
          obtain ⟨q', hq'⟩ := pfx_split h3
          have htk4 : (c :: r3).take 4 = [45, 37, 62, 10] := by rw [hq, hq']; rfl
          rw [htk4] at hX
          have ha4 : IntKind.wrap .i64 (IntKind.wrap .i64 ((p2.length : Int) + 3) + 1) = ((p2 ++ [45, 37, 62, 10]).length : Int) := by rw [ha, wrap_i64 (by simp; omega)]; simp; omega
          rw [ha] at ha4
          have hl4 : IntKind.wrap .i64 (ln p2 + 1) = ln (p2 ++ [45, 37, 62, 10]) := by rw [wrap_i64 (by omega), ln_app]; rfl
          -- 1: the kind · (trim plain fp): the text ahead · false: is the builder used · (p2 ++ [45, 37, 62, 10]): the prefix behind the tag · rw [ha4, hl4]: its place and line
          ((conv => whnf); (repeat ((first | refine BoxN.own ?_ | refine VrN.norm (wrap_i64 (by omega)) ?_ | refine VrN.keep ?_ | refine DrawN.calm (by decide +kernel) ?_ | refine Nd.mk (by decide +kernel) ?_ | refine Nd.mk (by omega) ?_ | (refine Nd.mk ?_ ?_; focus ((repeat' (first | exact trivial | exact wkE_refl _ | refine And.intro ?_ ?_)); done)) | refine RdN.intro _ rfl (by rfl) ?_); (conv => whnf))))
          refine callG (BString_c false acc b hb) [5, 6] rfl ⟨rfl, rfl, trivial⟩ rfl fun _ _ => ?_
          ((conv => whnf); (repeat ((first | refine BoxN.own ?_ | refine VrN.norm (wrap_i64 (by omega)) ?_ | refine VrN.keep ?_ | refine DrawN.calm (by decide +kernel) ?_ | refine Nd.mk (by decide +kernel) ?_ | refine Nd.mk (by omega) ?_ | (refine Nd.mk ?_ ?_; focus ((repeat' (first | exact trivial | exact wkE_refl _ | refine And.intro ?_ ?_)); done)) | refine RdN.intro _ rfl (by rfl) ?_); (conv => whnf))))
          refine DrawN.plan [0, 1] [(2, 1), (3, 1), (4, 1), (5, 1), (6, 0)] [(7, 0), (8, 0), (9, 0), (10, 0)] (by decide +kernel) ?_
          ((conv => whnf); (repeat ((first | refine BoxN.own ?_ | refine VrN.norm (wrap_i64 (by omega)) ?_ | refine VrN.keep ?_ | refine DrawN.calm (by decide +kernel) ?_ | refine Nd.mk (by decide +kernel) ?_ | refine Nd.mk (by omega) ?_ | (refine Nd.mk ?_ ?_; focus ((repeat' (first | exact trivial | exact wkE_refl _ | refine And.intro ?_ ?_)); done)) | refine RdN.intro _ rfl (by rfl) ?_); (conv => whnf))))
          refine Nd.mk ⟨by omega, rfl, rfl⟩ ?_
          (conv => whnf)
          refine AppN.grow 1 (partsC (outC out (trim plain fp) begun)) _ rfl rfl ⟨by omega, ⟨by show ((outC out (trim plain fp) begun).length + 1) * 32 ≤ _; omega, by show (outC out (trim plain fp) begun).length + 1 < _; omega⟩, by decide⟩ fun b' cap' h3 h4 => ?_
          ((conv => whnf); (repeat ((first | refine BoxN.own ?_ | refine VrN.norm (wrap_i64 (by omega)) ?_ | refine VrN.keep ?_ | refine DrawN.calm (by decide +kernel) ?_ | refine Nd.mk (by decide +kernel) ?_ | refine Nd.mk (by omega) ?_ | (refine Nd.mk ?_ ?_; focus ((repeat' (first | exact trivial | exact wkE_refl _ | refine And.intro ?_ ?_)); done)) | refine RdN.intro _ rfl (by rfl) ?_); (conv => whnf))))
          refine ⟨(⟨pre ++ 60 :: 37 :: r, ((p2 ++ [45, 37, 62, 10])).length, ln ((p2 ++ [45, 37, 62, 10])), lines, outC out (trim plain fp) begun ++ [⟨1, ln pre, acc⟩], [], begun⟩, ⟨⟨some b', cap'⟩, ⟨pb, pc⟩⟩), ⟨⟨⟨(fun h => by cases h), by rw [List.length_append]; exact h3, fun h => by have h : cap' = 0 := h; omega⟩, ok2.2⟩, rfl, rfl, by rw [← hX]; exact ⟨rfl, rfl, rfl, rfl⟩⟩, by rw [← hX]; rfl, ?_⟩
          refine wkH_cons ?_ (wkH_cons ?_ (wkH_cons rfl (wkH_cons rfl (wkH_nil _))))
          · rw [ha4, hl4]
            simp [at0]
          · simp [at0, partsC_app]
            exact ⟨rfl, rfl⟩
        · rw [if_neg (by simp [h3]), htk] at hX
          have hl3 : ln p2 = ln (p2 ++ [45, 37, 62]) := by rw [ln_app]; rfl
          -- 1: the kind · (trim plain fp): the text ahead · false: is the builder used · (p2 ++ [45, 37, 62]): the prefix behind the tag · rw [hl3]: its place and line
          ((conv => whnf); (repeat ((first | refine BoxN.own ?_ | refine VrN.norm (wrap_i64 (by omega)) ?_ | refine VrN.keep ?_ | refine DrawN.calm (by decide +kernel) ?_ | refine Nd.mk (by decide +kernel) ?_ | refine Nd.mk (by omega) ?_ | (refine Nd.mk ?_ ?_; focus ((repeat' (first | exact trivial | exact wkE_refl _ | refine And.intro ?_ ?_)); done)) | refine RdN.intro _ rfl (by rfl) ?_); (conv => whnf))))
          refine callG (BString_c false acc b hb) [5, 6] rfl ⟨rfl, rfl, trivial⟩ rfl fun _ _ => ?_
          ((conv => whnf); (repeat ((first | refine BoxN.own ?_ | refine VrN.norm (wrap_i64 (by omega)) ?_ | refine VrN.keep ?_ | refine DrawN.calm (by decide +kernel) ?_ | refine Nd.mk (by decide +kernel) ?_ | refine Nd.mk (by omega) ?_ | (refine Nd.mk ?_ ?_; focus ((repeat' (first | exact trivial | exact wkE_refl _ | refine And.intro ?_ ?_)); done)) | refine RdN.intro _ rfl (by rfl) ?_); (conv => whnf))))
          refine DrawN.plan [0, 1] [(2, 1), (3, 1), (4, 1), (5, 1), (6, 0)] [(7, 0), (8, 0), (9, 0), (10, 0)] (by decide +kernel) ?_
          ((conv => whnf); (repeat ((first | refine BoxN.own ?_ | refine VrN.norm (wrap_i64 (by omega)) ?_ | refine VrN.keep ?_ | refine DrawN.calm (by decide +kernel) ?_ | refine Nd.mk (by decide +kernel) ?_ | refine Nd.mk (by omega) ?_ | (refine Nd.mk ?_ ?_; focus ((repeat' (first | exact trivial | exact wkE_refl _ | refine And.intro ?_ ?_)); done)) | refine RdN.intro _ rfl (by rfl) ?_); (conv => whnf))))
          refine Nd.mk ⟨by omega, rfl, rfl⟩ ?_
          (conv => whnf)
          refine AppN.grow 1 (partsC (outC out (trim plain fp) begun)) _ rfl rfl ⟨by omega, ⟨by show ((outC out (trim plain fp) begun).length + 1) * 32 ≤ _; omega, by show (outC out (trim plain fp) begun).length + 1 < _; omega⟩, by decide⟩ fun b' cap' h3 h4 => ?_
          ((conv => whnf); (repeat ((first | refine BoxN.own ?_ | refine VrN.norm (wrap_i64 (by omega)) ?_ | refine VrN.keep ?_ | refine DrawN.calm (by decide +kernel) ?_ | refine Nd.mk (by decide +kernel) ?_ | refine Nd.mk (by omega) ?_ | (refine Nd.mk ?_ ?_; focus ((repeat' (first | exact trivial | exact wkE_refl _ | refine And.intro ?_ ?_)); done)) | refine RdN.intro _ rfl (by rfl) ?_); (conv => whnf))))
          refine ⟨(⟨pre ++ 60 :: 37 :: r, ((p2 ++ [45, 37, 62])).length, ln ((p2 ++ [45, 37, 62])), lines, outC out (trim plain fp) begun ++ [⟨1, ln pre, acc⟩], [], begun⟩, ⟨⟨some b', cap'⟩, ⟨pb, pc⟩⟩), ⟨⟨⟨(fun h => by cases h), by rw [List.length_append]; exact h3, fun h => by have h : cap' = 0 := h; omega⟩, ok2.2⟩, rfl, rfl, by rw [← hX]; exact ⟨rfl, rfl, rfl, rfl⟩⟩, by rw [← hX]; rfl, ?_⟩
          refine wkH_cons ?_ (wkH_cons ?_ (wkH_cons rfl (wkH_cons rfl (wkH_nil _))))
          · rw [hl3]
            simp [at0]
          · simp [at0, partsC_app]
            exact ⟨rfl, rfl⟩
      rw [if_neg (by simp [h2])] at hX
      ((conv => whnf); (repeat ((first | refine BoxN.own ?_ | refine VrN.norm (wrap_i64 (by omega)) ?_ | refine VrN.keep ?_ | refine DrawN.calm (by decide +kernel) ?_ | refine Nd.mk (by decide +kernel) ?_ | refine Nd.mk (by omega) ?_ | (refine Nd.mk ?_ ?_; focus ((repeat' (first | exact trivial | exact wkE_refl _ | refine And.intro ?_ ?_)); done)) | refine RdN.intro _ rfl (by rfl) ?_); (conv => whnf)))); refine call1 (HasPrefix_c (c :: r3) [37, 62] _) ?_
      ((conv => whnf); (repeat ((first | refine BoxN.own ?_ | refine VrN.norm (wrap_i64 (by omega)) ?_ | refine VrN.keep ?_ | refine DrawN.calm (by decide +kernel) ?_ | refine Nd.mk (by decide +kernel) ?_ | refine Nd.mk (by omega) ?_ | (refine Nd.mk ?_ ?_; focus ((repeat' (first | exact trivial | exact wkE_refl _ | refine And.intro ?_ ?_)); done)) | refine RdN.intro _ rfl (by rfl) ?_); (conv => whnf))))
      refine brd_intro (fun h3 => ?_) (fun h3 => ?_)
      · rw [if_pos h3] at hX
        have htk : (c :: r3).take 2 = [37, 62] := pfx_take h3
        rw [htk] at hX
        have ha : IntKind.wrap .i64 ((p2.length : Int) + 2) = ((p2 ++ [37, 62]).length : Int) := by rw [wrap_i64 (by omega)]; simp
        have hl3 : ln p2 = ln (p2 ++ [37, 62]) := by rw [ln_app]; rfl
        -- 1: the kind · (trim plain fp): the text ahead · false: is the builder used · (p2 ++ [37, 62]): the prefix behind the tag · rw [ha, hl3]: its place and line
        ((conv => whnf); (repeat ((first | refine BoxN.own ?_ | refine VrN.norm (wrap_i64 (by omega)) ?_ | refine VrN.keep ?_ | refine DrawN.calm (by decide +kernel) ?_ | refine Nd.mk (by decide +kernel) ?_ | refine Nd.mk (by omega) ?_ | (refine Nd.mk ?_ ?_; focus ((repeat' (first | exact trivial | exact wkE_refl _ | refine And.intro ?_ ?_)); done)) | refine RdN.intro _ rfl (by rfl) ?_); (conv => whnf))))
        refine callG (BString_c false acc b hb) [5, 6] rfl ⟨rfl, rfl, trivial⟩ rfl fun _ _ => ?_
        ((conv => whnf); (repeat ((first | refine BoxN.own ?_ | refine VrN.norm (wrap_i64 (by omega)) ?_ | refine VrN.keep ?_ | refine DrawN.calm (by decide +kernel) ?_ | refine Nd.mk (by decide +kernel) ?_ | refine Nd.mk (by omega) ?_ | (refine Nd.mk ?_ ?_; focus ((repeat' (first | exact trivial | exact wkE_refl _ | refine And.intro ?_ ?_)); done)) | refine RdN.intro _ rfl (by rfl) ?_); (conv => whnf))))
        refine DrawN.plan [0, 1] [(2, 1), (3, 1), (4, 1), (5, 1), (6, 0)] [(7, 0), (8, 0), (9, 0), (10, 0)] (by decide +kernel) ?_
        ((conv => whnf); (repeat ((first | refine BoxN.own ?_ | refine VrN.norm (wrap_i64 (by omega)) ?_ | refine VrN.keep ?_ | refine DrawN.calm (by decide +kernel) ?_ | refine Nd.mk (by decide +kernel) ?_ | refine Nd.mk (by omega) ?_ | (refine Nd.mk ?_ ?_; focus ((repeat' (first | exact trivial | exact wkE_refl _ | refine And.intro ?_ ?_)); done)) | refine RdN.intro _ rfl (by rfl) ?_); (conv => whnf))))
        refine Nd.mk ⟨by omega, rfl, rfl⟩ ?_
        (conv => whnf)
        refine AppN.grow 1 (partsC (outC out (trim plain fp) begun)) _ rfl rfl ⟨by omega, ⟨by show ((outC out (trim plain fp) begun).length + 1) * 32 ≤ _; omega, by show (outC out (trim plain fp) begun).length + 1 < _; omega⟩, by decide⟩ fun b' cap' h3 h4 => ?_
        ((conv => whnf); (repeat ((first | refine BoxN.own ?_ | refine VrN.norm (wrap_i64 (by omega)) ?_ | refine VrN.keep ?_ | refine DrawN.calm (by decide +kernel) ?_ | refine Nd.mk (by decide +kernel) ?_ | refine Nd.mk (by omega) ?_ | (refine Nd.mk ?_ ?_; focus ((repeat' (first | exact trivial | exact wkE_refl _ | refine And.intro ?_ ?_)); done)) | refine RdN.intro _ rfl (by rfl) ?_); (conv => whnf))))
        refine ⟨(⟨pre ++ 60 :: 37 :: r, ((p2 ++ [37, 62])).length, ln ((p2 ++ [37, 62])), lines, outC out (trim plain fp) begun ++ [⟨1, ln pre, acc⟩], [], begun⟩, ⟨⟨some b', cap'⟩, ⟨pb, pc⟩⟩), ⟨⟨⟨(fun h => by cases h), by rw [List.length_append]; exact h3, fun h => by have h : cap' = 0 := h; omega⟩, ok2.2⟩, rfl, rfl, by rw [← hX]; exact ⟨rfl, rfl, rfl, rfl⟩⟩, by rw [← hX]; rfl, ?_⟩
        refine wkH_cons ?_ (wkH_cons ?_ (wkH_cons rfl (wkH_cons rfl (wkH_nil _))))
        · rw [ha, hl3]
          simp [at0]
        · simp [at0, partsC_app]
          exact ⟨rfl, rfl⟩
      rw [if_neg (by simp [h3])] at hX
      have hb0 : byteAt (bs (c :: r3)) 0 = (c.toNat : Int) := byteAt_get rfl
      have ha : IntKind.wrap .i64 ((p2.length : Int) + 1) = ((p2 ++ [c]).length : Int) := by rw [wrap_i64 (by omega)]; simp
      have hl1 : IntKind.wrap .i64 (ln p2 + 1) = ln p2 + 1 := wrap_i64 (by omega)
      ((conv => whnf); (repeat ((first | refine BoxN.own ?_ | refine VrN.norm (wrap_i64 (by omega)) ?_ | refine VrN.keep ?_ | refine DrawN.calm (by decide +kernel) ?_ | refine Nd.mk (by decide +kernel) ?_ | refine Nd.mk (by omega) ?_ | (refine Nd.mk ?_ ?_; focus ((repeat' (first | exact trivial | exact wkE_refl _ | refine And.intro ?_ ?_)); done)) | refine RdN.intro _ rfl (by rfl) ?_); (conv => whnf))))
      refine Nd.mk ⟨by omega, by rw [bs_size]; simp⟩ ?_
      rw [show ((0 : Int).toNat) = 0 from rfl, hb0]
      ((conv => whnf); (repeat ((first | refine BoxN.own ?_ | refine VrN.norm (wrap_i64 (by omega)) ?_ | refine VrN.keep ?_ | refine DrawN.calm (by decide +kernel) ?_ | refine Nd.mk (by decide +kernel) ?_ | refine Nd.mk (by omega) ?_ | (refine Nd.mk ?_ ?_; focus ((repeat' (first | exact trivial | exact wkE_refl _ | refine And.intro ?_ ?_)); done)) | refine RdN.intro _ rfl (by rfl) ?_); (conv => whnf))))
      refine brd_eq (fun h4 => ?_) (fun h4 => ?_)
      · have hc : c = 10 := UInt8.toNat_inj.1 (by show c.toNat = 10; omega)
        have hl : ln (p2 ++ [c]) = ln p2 + 1 := by rw [ln_snoc, if_pos hc]
        ((conv => whnf); (repeat ((first | refine BoxN.own ?_ | refine VrN.norm (wrap_i64 (by omega)) ?_ | refine VrN.keep ?_ | refine DrawN.calm (by decide +kernel) ?_ | refine Nd.mk (by decide +kernel) ?_ | refine Nd.mk (by omega) ?_ | (refine Nd.mk ?_ ?_; focus ((repeat' (first | exact trivial | exact wkE_refl _ | refine And.intro ?_ ?_)); done)) | refine RdN.intro _ rfl (by rfl) ?_); (conv => whnf))))
        refine Nd.mk ⟨by omega, by rw [bs_size]; simp⟩ ?_
        rw [show ((0 : Int).toNat) = 0 from rfl, hb0]
        ((conv => whnf); (repeat ((first | refine BoxN.own ?_ | refine VrN.norm (wrap_i64 (by omega)) ?_ | refine VrN.keep ?_ | refine DrawN.calm (by decide +kernel) ?_ | refine Nd.mk (by decide +kernel) ?_ | refine Nd.mk (by omega) ?_ | (refine Nd.mk ?_ ?_; focus ((repeat' (first | exact trivial | exact wkE_refl _ | refine And.intro ?_ ?_)); done)) | refine RdN.intro _ rfl (by rfl) ?_); (conv => whnf))))
        refine callG (WriteByte_c false acc c b (by omega)) [5, 6] rfl ⟨rfl, rfl, trivial⟩ rfl fun b1 hb1 => ?_
        ((conv => whnf); (repeat ((first | refine BoxN.own ?_ | refine VrN.norm (wrap_i64 (by omega)) ?_ | refine VrN.keep ?_ | refine DrawN.calm (by decide +kernel) ?_ | refine Nd.mk (by decide +kernel) ?_ | refine Nd.mk (by omega) ?_ | (refine Nd.mk ?_ ?_; focus ((repeat' (first | exact trivial | exact wkE_refl _ | refine And.intro ?_ ?_)); done)) | refine RdN.intro _ rfl (by rfl) ?_); (conv => whnf))))
        refine ⟨⟨p2 ++ [c], r3, acc ++ [c], true, b1⟩, ⟨by rw [← hsp]; simp, hX, hb1, by simp; omega⟩, by show r3.length < (c :: r3).length; simp, ?_, ?_⟩
        · (repeat' (first | exact trivial | refine And.intro (by with_reducible rfl) ?_ | (with_reducible exact wkC_refl _) | (with_reducible exact wkCs_refl _) | refine And.intro ?_ ?_))
          all_goals rfl
        · refine wkH_cons ?_ (wkH_cons rfl (wkH_cons rfl (wkH_cons rfl (wkH_cons rfl (wkH_cons rfl (wkH_cons rfl (wkH_nil _)))))))
          rw [ha, hl1, hl]
      · have hc : ¬ c = 10 := fun h => h4 (by rw [h]; rfl)
        have hl : ln (p2 ++ [c]) = ln p2 := by rw [ln_snoc, if_neg hc]
        ((conv => whnf); (repeat ((first | refine BoxN.own ?_ | refine VrN.norm (wrap_i64 (by omega)) ?_ | refine VrN.keep ?_ | refine DrawN.calm (by decide +kernel) ?_ | refine Nd.mk (by decide +kernel) ?_ | refine Nd.mk (by omega) ?_ | (refine Nd.mk ?_ ?_; focus ((repeat' (first | exact trivial | exact wkE_refl _ | refine And.intro ?_ ?_)); done)) | refine RdN.intro _ rfl (by rfl) ?_); (conv => whnf))))
        refine Nd.mk ⟨by omega, by rw [bs_size]; simp⟩ ?_
        rw [show ((0 : Int).toNat) = 0 from rfl, hb0]
        ((conv => whnf); (repeat ((first | refine BoxN.own ?_ | refine VrN.norm (wrap_i64 (by omega)) ?_ | refine VrN.keep ?_ | refine DrawN.calm (by decide +kernel) ?_ | refine Nd.mk (by decide +kernel) ?_ | refine Nd.mk (by omega) ?_ | (refine Nd.mk ?_ ?_; focus ((repeat' (first | exact trivial | exact wkE_refl _ | refine And.intro ?_ ?_)); done)) | refine RdN.intro _ rfl (by rfl) ?_); (conv => whnf))))
        refine callG (WriteByte_c false acc c b (by omega)) [5, 6] rfl ⟨rfl, rfl, trivial⟩ rfl fun b1 hb1 => ?_
        ((conv => whnf); (repeat ((first | refine BoxN.own ?_ | refine VrN.norm (wrap_i64 (by omega)) ?_ | refine VrN.keep ?_ | refine DrawN.calm (by decide +kernel) ?_ | refine Nd.mk (by decide +kernel) ?_ | refine Nd.mk (by omega) ?_ | (refine Nd.mk ?_ ?_; focus ((repeat' (first | exact trivial | exact wkE_refl _ | refine And.intro ?_ ?_)); done)) | refine RdN.intro _ rfl (by rfl) ?_); (conv => whnf))))
        refine ⟨⟨p2 ++ [c], r3, acc ++ [c], true, b1⟩, ⟨by rw [← hsp]; simp, hX, hb1, by simp; omega⟩, by show r3.length < (c :: r3).length; simp, ?_, ?_⟩
        · (repeat' (first | exact trivial | refine And.intro (by with_reducible rfl) ?_ | (with_reducible exact wkC_refl _) | (with_reducible exact wkCs_refl _) | refine And.intro ?_ ?_))
          all_goals rfl
        · refine wkH_cons ?_ (wkH_cons rfl (wkH_cons rfl (wkH_cons rfl (wkH_cons rfl (wkH_cons rfl (wkH_cons rfl (wkH_nil _)))))))
          rw [ha, hl]
    | true =>
      ((conv => whnf); (repeat ((first | refine BoxN.own ?_ | refine VrN.norm (wrap_i64 (by omega)) ?_ | refine VrN.keep ?_ | refine DrawN.calm (by decide +kernel) ?_ | refine Nd.mk (by decide +kernel) ?_ | refine Nd.mk (by omega) ?_ | (refine Nd.mk ?_ ?_; focus ((repeat' (first | exact trivial | exact wkE_refl _ | refine And.intro ?_ ?_)); done)) | refine RdN.intro _ rfl (by rfl) ?_); (conv => whnf))))
      refine ReadW.sl_at p2 r2 hsp.symm rfl (by kernel_rfl) rfl rfl rfl ?_
      ((conv => whnf); (repeat ((first | refine BoxN.own ?_ | refine VrN.norm (wrap_i64 (by omega)) ?_ | refine VrN.keep ?_ | refine DrawN.calm (by decide +kernel) ?_ | refine Nd.mk (by decide +kernel) ?_ | refine Nd.mk (by omega) ?_ | (refine Nd.mk ?_ ?_; focus ((repeat' (first | exact trivial | exact wkE_refl _ | refine And.intro ?_ ?_)); done)) | refine RdN.intro _ rfl (by rfl) ?_); (conv => whnf))))
      rw [bs_list]
      refine brd_intro (fun h0 => ?_) (fun h0 => ?_)
      · have h0 : r2 = [] := by simpa using h0
        subst h0
        have hX : X = none := by rw [← hX]; rfl
        subst hX
        ((conv => whnf); (repeat ((first | refine BoxN.own ?_ | refine VrN.norm (wrap_i64 (by omega)) ?_ | refine VrN.keep ?_ | refine DrawN.calm (by decide +kernel) ?_ | refine Nd.mk (by decide +kernel) ?_ | refine Nd.mk (by omega) ?_ | (refine Nd.mk ?_ ?_; focus ((repeat' (first | exact trivial | exact wkE_refl _ | refine And.intro ?_ ?_)); done)) | refine RdN.intro _ rfl (by rfl) ?_); (conv => whnf))))
        refine ⟨(⟨pre ++ 60 :: 37 :: r, p2.length, ln pre, lines, outC out (trim plain fp) begun, [], begun⟩, ⟨⟨ob, oc⟩, ⟨pb, pc⟩⟩), ⟨⟨ok2.1, ok2.2⟩, rfl, rfl, rfl⟩, rfl, ?_⟩
        exact wkH_cons rfl (wkH_cons rfl (wkH_cons rfl (wkH_cons rfl (wkH_nil _))))
      obtain ⟨c, r3, rfl⟩ : ∃ c r3, r2 = c :: r3 := by
        cases r2 with
        | nil => simp at h0
        | cons c r3 => exact ⟨c, r3, rfl⟩
      have hlen := congrArg List.length hsp
      simp only [List.length_append, List.length_cons] at hlen
      have hlp := ln_bd p2
      rw [tgN_cons] at hX
      ((conv => whnf); (repeat ((first | refine BoxN.own ?_ | refine VrN.norm (wrap_i64 (by omega)) ?_ | refine VrN.keep ?_ | refine DrawN.calm (by decide +kernel) ?_ | refine Nd.mk (by decide +kernel) ?_ | refine Nd.mk (by omega) ?_ | (refine Nd.mk ?_ ?_; focus ((repeat' (first | exact trivial | exact wkE_refl _ | refine And.intro ?_ ?_)); done)) | refine RdN.intro _ rfl (by rfl) ?_); (conv => whnf)))); refine call1 (HasPrefix_c (c :: r3) [37, 37, 62] _) ?_
      ((conv => whnf); (repeat ((first | refine BoxN.own ?_ | refine VrN.norm (wrap_i64 (by omega)) ?_ | refine VrN.keep ?_ | refine DrawN.calm (by decide +kernel) ?_ | refine Nd.mk (by decide +kernel) ?_ | refine Nd.mk (by omega) ?_ | (refine Nd.mk ?_ ?_; focus ((repeat' (first | exact trivial | exact wkE_refl _ | refine And.intro ?_ ?_)); done)) | refine RdN.intro _ rfl (by rfl) ?_); (conv => whnf))))
      refine brd_intro (fun h1 => ?_) (fun h1 => ?_)
      · rw [if_pos h1] at hX
        obtain ⟨q, hq⟩ := pfx_split h1
        have htk : (c :: r3).take 3 = [37, 37, 62] := pfx_take h1
        have hdr : (c :: r3).drop 3 = q := by rw [hq]; rfl
        rw [htk, hdr] at hX
        have hq3 := congrArg List.length hq
        simp only [List.length_append, List.length_cons, List.length_nil] at hq3
        have ha : IntKind.wrap .i64 ((p2.length : Int) + 3) = ((p2 ++ [37, 37, 62]).length : Int) := by rw [wrap_i64 (by omega)]; simp
        ((conv => whnf); (repeat ((first | refine BoxN.own ?_ | refine VrN.norm (wrap_i64 (by omega)) ?_ | refine VrN.keep ?_ | refine DrawN.calm (by decide +kernel) ?_ | refine Nd.mk (by decide +kernel) ?_ | refine Nd.mk (by omega) ?_ | (refine Nd.mk ?_ ?_; focus ((repeat' (first | exact trivial | exact wkE_refl _ | refine And.intro ?_ ?_)); done)) | refine RdN.intro _ rfl (by rfl) ?_); (conv => whnf))))
        refine callG (WriteString_c true acc [37, 62] b hb (by simp; omega)) [5, 6] rfl ⟨rfl, rfl, trivial⟩ rfl fun b1 hb1 => ?_
        ((conv => whnf); (repeat ((first | refine BoxN.own ?_ | refine VrN.norm (wrap_i64 (by omega)) ?_ | refine VrN.keep ?_ | refine DrawN.calm (by decide +kernel) ?_ | refine Nd.mk (by decide +kernel) ?_ | refine Nd.mk (by omega) ?_ | (refine Nd.mk ?_ ?_; focus ((repeat' (first | exact trivial | exact wkE_refl _ | refine And.intro ?_ ?_)); done)) | refine RdN.intro _ rfl (by rfl) ?_); (conv => whnf))))
        refine ⟨⟨p2 ++ [37, 37, 62], q, acc ++ [37, 62], true, b1⟩, ⟨by rw [← hsp, hq]; simp, hX, hb1, by simp; omega⟩, by show q.length < (c :: r3).length; rw [hq]; simp; omega, ?_, ?_⟩
        · (repeat' (first | exact trivial | refine And.intro (by with_reducible rfl) ?_ | (with_reducible exact wkC_refl _) | (with_reducible exact wkCs_refl _) | refine And.intro ?_ ?_))
          all_goals rfl
        · have hl : ln (p2 ++ [37, 37, 62]) = ln p2 := by rw [ln_app]; rfl
          refine wkH_cons ?_ (wkH_cons rfl (wkH_cons rfl (wkH_cons rfl (wkH_cons rfl (wkH_cons rfl (wkH_cons rfl (wkH_nil _)))))))
          rw [ha, hl]
      rw [if_neg (by simp [h1])] at hX
      ((conv => whnf); (repeat ((first | refine BoxN.own ?_ | refine VrN.norm (wrap_i64 (by omega)) ?_ | refine VrN.keep ?_ | refine DrawN.calm (by decide +kernel) ?_ | refine Nd.mk (by decide +kernel) ?_ | refine Nd.mk (by omega) ?_ | (refine Nd.mk ?_ ?_; focus ((repeat' (first | exact trivial | exact wkE_refl _ | refine And.intro ?_ ?_)); done)) | refine RdN.intro _ rfl (by rfl) ?_); (conv => whnf)))); refine call1 (HasPrefix_c (c :: r3) [45, 37, 62] _) ?_
      ((conv => whnf); (repeat ((first | refine BoxN.own ?_ | refine VrN.norm (wrap_i64 (by omega)) ?_ | refine VrN.keep ?_ | refine DrawN.calm (by decide +kernel) ?_ | refine Nd.mk (by decide +kernel) ?_ | refine Nd.mk (by omega) ?_ | (refine Nd.mk ?_ ?_; focus ((repeat' (first | exact trivial | exact wkE_refl _ | refine And.intro ?_ ?_)); done)) | refine RdN.intro _ rfl (by rfl) ?_); (conv => whnf))))
      refine brd_intro (fun h2 => ?_) (fun h2 => ?_)
      · rw [if_pos h2] at hX
        obtain ⟨q, hq⟩ := pfx_split h2
        have htk : (c :: r3).take 3 = [45, 37, 62] := pfx_take h2
        have hdr : (c :: r3).drop 3 = q := by rw [hq]; rfl
        have hq3 := congrArg List.length hq
        simp only [List.length_append, List.length_cons, List.length_nil] at hq3
        have ha : IntKind.wrap .i64 ((p2.length : Int) + 3) = ((p2 ++ [45, 37, 62]).length : Int) := by rw [wrap_i64 (by omega)]; simp
        rw [hdr] at hX
        have hsq : pre ++ 60 :: 37 :: r = (p2 ++ [45, 37, 62]) ++ q := by rw [← hsp, hq]; simp
        ((conv => whnf); (repeat ((first | refine BoxN.own ?_ | refine VrN.norm (wrap_i64 (by omega)) ?_ | refine VrN.keep ?_ | refine DrawN.calm (by decide +kernel) ?_ | refine Nd.mk (by decide +kernel) ?_ | refine Nd.mk (by omega) ?_ | (refine Nd.mk ?_ ?_; focus ((repeat' (first | exact trivial | exact wkE_refl _ | refine And.intro ?_ ?_)); done)) | refine RdN.intro _ rfl (by rfl) ?_); (conv => whnf))))
        rw [ha]
        refine ReadW.sl_at (p2 ++ [45, 37, 62]) q hsq rfl (by kernel_rfl) rfl rfl rfl ?_
        ((conv => whnf); (repeat ((first | refine BoxN.own ?_ | refine VrN.norm (wrap_i64 (by omega)) ?_ | refine VrN.keep ?_ | refine DrawN.calm (by decide +kernel) ?_ | refine Nd.mk (by decide +kernel) ?_ | refine Nd.mk (by omega) ?_ | (refine Nd.mk ?_ ?_; focus ((repeat' (first | exact trivial | exact wkE_refl _ | refine And.intro ?_ ?_)); done)) | refine RdN.intro _ rfl (by rfl) ?_); (conv => whnf)))); refine callQ (HasPrefix_c q [10] _) ?_
        ((conv => whnf); (repeat ((first | refine BoxN.own ?_ | refine VrN.norm (wrap_i64 (by omega)) ?_ | refine VrN.keep ?_ | refine DrawN.calm (by decide +kernel) ?_ | refine Nd.mk (by decide +kernel) ?_ | refine Nd.mk (by omega) ?_ | (refine Nd.mk ?_ ?_; focus ((repeat' (first | exact trivial | exact wkE_refl _ | refine And.intro ?_ ?_)); done)) | refine RdN.intro _ rfl (by rfl) ?_); (conv => whnf))))
        refine brd_intro (fun h3 => ?_) (fun h3 => ?_)
        · rw [if_pos h3] at hX
          obtain ⟨q', hq'⟩ := pfx_split h3
          have htk4 : (c :: r3).take 4 = [45, 37, 62, 10] := by rw [hq, hq']; rfl
          rw [htk4] at hX
          have ha4 : IntKind.wrap .i64 (IntKind.wrap .i64 ((p2.length : Int) + 3) + 1) = ((p2 ++ [45, 37, 62, 10]).length : Int) := by rw [ha, wrap_i64 (by simp; omega)]; simp; omega
          rw [ha] at ha4
          have hl4 : IntKind.wrap .i64 (ln p2 + 1) = ln (p2 ++ [45, 37, 62, 10]) := by rw [wrap_i64 (by omega), ln_app]; rfl
          -- 1: the kind · (trim plain fp): the text ahead · true: is the builder used · (p2 ++ [45, 37, 62, 10]): the prefix behind the tag · rw [ha4, hl4]: its place and line
          ((conv => whnf); (repeat ((first | refine BoxN.own ?_ | refine VrN.norm (wrap_i64 (by omega)) ?_ | refine VrN.keep ?_ | refine DrawN.calm (by decide +kernel) ?_ | refine Nd.mk (by decide +kernel) ?_ | refine Nd.mk (by omega) ?_ | (refine Nd.mk ?_ ?_; focus ((repeat' (first | exact trivial | exact wkE_refl _ | refine And.intro ?_ ?_)); done)) | refine RdN.intro _ rfl (by rfl) ?_); (conv => whnf))))
          refine callG (BString_c true acc b hb) [5, 6] rfl ⟨rfl, rfl, trivial⟩ rfl fun _ _ => ?_
          ((conv => whnf); (repeat ((first | refine BoxN.own ?_ | refine VrN.norm (wrap_i64 (by omega)) ?_ | refine VrN.keep ?_ | refine DrawN.calm (by decide +kernel) ?_ | refine Nd.mk (by decide +kernel) ?_ | refine Nd.mk (by omega) ?_ | (refine Nd.mk ?_ ?_; focus ((repeat' (first | exact trivial | exact wkE_refl _ | refine And.intro ?_ ?_)); done)) | refine RdN.intro _ rfl (by rfl) ?_); (conv => whnf))))
          refine DrawN.plan [0, 1] [(2, 1), (3, 1), (4, 1), (5, 1), (6, 0)] [(7, 0), (8, 0), (9, 0), (10, 0)] (by decide +kernel) ?_
          ((conv => whnf); (repeat ((first | refine BoxN.own ?_ | refine VrN.norm (wrap_i64 (by omega)) ?_ | refine VrN.keep ?_ | refine DrawN.calm (by decide +kernel) ?_ | refine Nd.mk (by decide +kernel) ?_ | refine Nd.mk (by omega) ?_ | (refine Nd.mk ?_ ?_; focus ((repeat' (first | exact trivial | exact wkE_refl _ | refine And.intro ?_ ?_)); done)) | refine RdN.intro _ rfl (by rfl) ?_); (conv => whnf))))
          refine Nd.mk ⟨by omega, rfl, rfl⟩ ?_
          (conv => whnf)
          refine AppN.grow 1 (partsC (outC out (trim plain fp) begun)) _ rfl rfl ⟨by omega, ⟨by show ((outC out (trim plain fp) begun).length + 1) * 32 ≤ _; omega, by show (outC out (trim plain fp) begun).length + 1 < _; omega⟩, by decide⟩ fun b' cap' h3 h4 => ?_
          ((conv => whnf); (repeat ((first | refine BoxN.own ?_ | refine VrN.norm (wrap_i64 (by omega)) ?_ | refine VrN.keep ?_ | refine DrawN.calm (by decide +kernel) ?_ | refine Nd.mk (by decide +kernel) ?_ | refine Nd.mk (by omega) ?_ | (refine Nd.mk ?_ ?_; focus ((repeat' (first | exact trivial | exact wkE_refl _ | refine And.intro ?_ ?_)); done)) | refine RdN.intro _ rfl (by rfl) ?_); (conv => whnf))))
          refine ⟨(⟨pre ++ 60 :: 37 :: r, ((p2 ++ [45, 37, 62, 10])).length, ln ((p2 ++ [45, 37, 62, 10])), lines, outC out (trim plain fp) begun ++ [⟨1, ln pre, acc⟩], [], begun⟩, ⟨⟨some b', cap'⟩, ⟨pb, pc⟩⟩), ⟨⟨⟨(fun h => by cases h), by rw [List.length_append]; exact h3, fun h => by have h : cap' = 0 := h; omega⟩, ok2.2⟩, rfl, rfl, by rw [← hX]; exact ⟨rfl, rfl, rfl, rfl⟩⟩, by rw [← hX]; rfl, ?_⟩
          refine wkH_cons ?_ (wkH_cons ?_ (wkH_cons rfl (wkH_cons rfl (wkH_nil _))))
          · rw [ha4, hl4]
            simp [at0]
          · simp [at0, partsC_app]
            exact ⟨rfl, rfl⟩
        · rw [if_neg (by simp [h3]), htk] at hX
          have hl3 : ln p2 = ln (p2 ++ [45, 37, 62]) := by rw [ln_app]; rfl
          -- 1: the kind · (trim plain fp): the text ahead · true: is the builder used · (p2 ++ [45, 37, 62]): the prefix behind the tag · rw [hl3]: its place and line
          ((conv => whnf); (repeat ((first | refine BoxN.own ?_ | refine VrN.norm (wrap_i64 (by omega)) ?_ | refine VrN.keep ?_ | refine DrawN.calm (by decide +kernel) ?_ | refine Nd.mk (by decide +kernel) ?_ | refine Nd.mk (by omega) ?_ | (refine Nd.mk ?_ ?_; focus ((repeat' (first | exact trivial | exact wkE_refl _ | refine And.intro ?_ ?_)); done)) | refine RdN.intro _ rfl (by rfl) ?_); (conv => whnf))))
          refine callG (BString_c true acc b hb) [5, 6] rfl ⟨rfl, rfl, trivial⟩ rfl fun _ _ => ?_
          ((conv => whnf); (repeat ((first | refine BoxN.own ?_ | refine VrN.norm (wrap_i64 (by omega)) ?_ | refine VrN.keep ?_ | refine DrawN.calm (by decide +kernel) ?_ | refine Nd.mk (by decide +kernel) ?_ | refine Nd.mk (by omega) ?_ | (refine Nd.mk ?_ ?_; focus ((repeat' (first | exact trivial | exact wkE_refl _ | refine And.intro ?_ ?_)); done)) | refine RdN.intro _ rfl (by rfl) ?_); (conv => whnf))))
          refine DrawN.plan [0, 1] [(2, 1), (3, 1), (4, 1), (5, 1), (6, 0)] [(7, 0), (8, 0), (9, 0), (10, 0)] (by decide +kernel) ?_
          ((conv => whnf); (repeat ((first | refine BoxN.own ?_ | refine VrN.norm (wrap_i64 (by omega)) ?_ | refine VrN.keep ?_ | refine DrawN.calm (by decide +kernel) ?_ | refine Nd.mk (by decide +kernel) ?_ | refine Nd.mk (by omega) ?_ | (refine Nd.mk ?_ ?_; focus ((repeat' (first | exact trivial | exact wkE_refl _ | refine And.intro ?_ ?_)); done)) | refine RdN.intro _ rfl (by rfl) ?_); (conv => whnf))))
          refine Nd.mk ⟨by omega, rfl, rfl⟩ ?_
          (conv => whnf)
          refine AppN.grow 1 (partsC (outC out (trim plain fp) begun)) _ rfl rfl ⟨by omega, ⟨by show ((outC out (trim plain fp) begun).length + 1) * 32 ≤ _; omega, by show (outC out (trim plain fp) begun).length + 1 < _; omega⟩, by decide⟩ fun b' cap' h3 h4 => ?_
          ((conv => whnf); (repeat ((first | refine BoxN.own ?_ | refine VrN.norm (wrap_i64 (by omega)) ?_ | refine VrN.keep ?_ | refine DrawN.calm (by decide +kernel) ?_ | refine Nd.mk (by decide +kernel) ?_ | refine Nd.mk (by omega) ?_ | (refine Nd.mk ?_ ?_; focus ((repeat' (first | exact trivial | exact wkE_refl _ | refine And.intro ?_ ?_)); done)) | refine RdN.intro _ rfl (by rfl) ?_); (conv => whnf))))
          refine ⟨(⟨pre ++ 60 :: 37 :: r, ((p2 ++ [45, 37, 62])).length, ln ((p2 ++ [45, 37, 62])), lines, outC out (trim plain fp) begun ++ [⟨1, ln pre, acc⟩], [], begun⟩, ⟨⟨some b', cap'⟩, ⟨pb, pc⟩⟩), ⟨⟨⟨(fun h => by cases h), by rw [List.length_append]; exact h3, fun h => by have h : cap' = 0 := h; omega⟩, ok2.2⟩, rfl, rfl, by rw [← hX]; exact ⟨rfl, rfl, rfl, rfl⟩⟩, by rw [← hX]; rfl, ?_⟩
          refine wkH_cons ?_ (wkH_cons ?_ (wkH_cons rfl (wkH_cons rfl (wkH_nil _))))
          · rw [hl3]
            simp [at0]
          · simp [at0, partsC_app]
            exact ⟨rfl, rfl⟩
      rw [if_neg (by simp [h2])] at hX
      ((conv => whnf); (repeat ((first | refine BoxN.own ?_ | refine VrN.norm (wrap_i64 (by omega)) ?_ | refine VrN.keep ?_ | refine DrawN.calm (by decide +kernel) ?_ | refine Nd.mk (by decide +kernel) ?_ | refine Nd.mk (by omega) ?_ | (refine Nd.mk ?_ ?_; focus ((repeat' (first | exact trivial | exact wkE_refl _ | refine And.intro ?_ ?_)); done)) | refine RdN.intro _ rfl (by rfl) ?_); (conv => whnf)))); refine call1 (HasPrefix_c (c :: r3) [37, 62] _) ?_
      ((conv => whnf); (repeat ((first | refine BoxN.own ?_ | refine VrN.norm (wrap_i64 (by omega)) ?_ | refine VrN.keep ?_ | refine DrawN.calm (by decide +kernel) ?_ | refine Nd.mk (by decide +kernel) ?_ | refine Nd.mk (by omega) ?_ | (refine Nd.mk ?_ ?_; focus ((repeat' (first | exact trivial | exact wkE_refl _ | refine And.intro ?_ ?_)); done)) | refine RdN.intro _ rfl (by rfl) ?_); (conv => whnf))))
      refine brd_intro (fun h3 => ?_) (fun h3 => ?_)
      · rw [if_pos h3] at hX
        have htk : (c :: r3).take 2 = [37, 62] := pfx_take h3
        rw [htk] at hX
        have ha : IntKind.wrap .i64 ((p2.length : Int) + 2) = ((p2 ++ [37, 62]).length : Int) := by rw [wrap_i64 (by omega)]; simp
        have hl3 : ln p2 = ln (p2 ++ [37, 62]) := by rw [ln_app]; rfl
        -- 1: the kind · (trim plain fp): the text ahead · true: is the builder used · (p2 ++ [37, 62]): the prefix behind the tag · rw [ha, hl3]: its place and line
        ((conv => whnf); (repeat ((first | refine BoxN.own ?_ | refine VrN.norm (wrap_i64 (by omega)) ?_ | refine VrN.keep ?_ | refine DrawN.calm (by decide +kernel) ?_ | refine Nd.mk (by decide +kernel) ?_ | refine Nd.mk (by omega) ?_ | (refine Nd.mk ?_ ?_; focus ((repeat' (first | exact trivial | exact wkE_refl _ | refine And.intro ?_ ?_)); done)) | refine RdN.intro _ rfl (by rfl) ?_); (conv => whnf))))
        refine callG (BString_c true acc b hb) [5, 6] rfl ⟨rfl, rfl, trivial⟩ rfl fun _ _ => ?_
        ((conv => whnf); (repeat ((first | refine BoxN.own ?_ | refine VrN.norm (wrap_i64 (by omega)) ?_ | refine VrN.keep ?_ | refine DrawN.calm (by decide +kernel) ?_ | refine Nd.mk (by decide +kernel) ?_ | refine Nd.mk (by omega) ?_ | (refine Nd.mk ?_ ?_; focus ((repeat' (first | exact trivial | exact wkE_refl _ | refine And.intro ?_ ?_)); done)) | refine RdN.intro _ rfl (by rfl) ?_); (conv => whnf))))
        refine DrawN.plan [0, 1] [(2, 1), (3, 1), (4, 1), (5, 1), (6, 0)] [(7, 0), (8, 0), (9, 0), (10, 0)] (by decide +kernel) ?_
        ((conv => whnf); (repeat ((first | refine BoxN.own ?_ | refine VrN.norm (wrap_i64 (by omega)) ?_ | refine VrN.keep ?_ | refine DrawN.calm (by decide +kernel) ?_ | refine Nd.mk (by decide +kernel) ?_ | refine Nd.mk (by omega) ?_ | (refine Nd.mk ?_ ?_; focus ((repeat' (first | exact trivial | exact wkE_refl _ | refine And.intro ?_ ?_)); done)) | refine RdN.intro _ rfl (by rfl) ?_); (conv => whnf))))
        refine Nd.mk ⟨by omega, rfl, rfl⟩ ?_
        (conv => whnf)
        refine AppN.grow 1 (partsC (outC out (trim plain fp) begun)) _ rfl rfl ⟨by omega, ⟨by show ((outC out (trim plain fp) begun).length + 1) * 32 ≤ _; omega, by show (outC out (trim plain fp) begun).length + 1 < _; omega⟩, by decide⟩ fun b' cap' h3 h4 => ?_
        ((conv => whnf); (repeat ((first | refine BoxN.own ?_ | refine VrN.norm (wrap_i64 (by omega)) ?_ | refine VrN.keep ?_ | refine DrawN.calm (by decide +kernel) ?_ | refine Nd.mk (by decide +kernel) ?_ | refine Nd.mk (by omega) ?_ | (refine Nd.mk ?_ ?_; focus ((repeat' (first | exact trivial | exact wkE_refl _ | refine And.intro ?_ ?_)); done)) | refine RdN.intro _ rfl (by rfl) ?_); (conv => whnf))))
        refine ⟨(⟨pre ++ 60 :: 37 :: r, ((p2 ++ [37, 62])).length, ln ((p2 ++ [37, 62])), lines, outC out (trim plain fp) begun ++ [⟨1, ln pre, acc⟩], [], begun⟩, ⟨⟨some b', cap'⟩, ⟨pb, pc⟩⟩), ⟨⟨⟨(fun h => by cases h), by rw [List.length_append]; exact h3, fun h => by have h : cap' = 0 := h; omega⟩, ok2.2⟩, rfl, rfl, by rw [← hX]; exact ⟨rfl, rfl, rfl, rfl⟩⟩, by rw [← hX]; rfl, ?_⟩
        refine wkH_cons ?_ (wkH_cons ?_ (wkH_cons rfl (wkH_cons rfl (wkH_nil _))))
        · rw [ha, hl3]
          simp [at0]
        · simp [at0, partsC_app]
          exact ⟨rfl, rfl⟩
      rw [if_neg (by simp [h3])] at hX
      have hb0 : byteAt (bs (c :: r3)) 0 = (c.toNat : Int) := byteAt_get rfl
      have ha : IntKind.wrap .i64 ((p2.length : Int) + 1) = ((p2 ++ [c]).length : Int) := by rw [wrap_i64 (by omega)]; simp
      have hl1 : IntKind.wrap .i64 (ln p2 + 1) = ln p2 + 1 := wrap_i64 (by omega)
      ((conv => whnf); (repeat ((first | refine BoxN.own ?_ | refine VrN.norm (wrap_i64 (by omega)) ?_ | refine VrN.keep ?_ | refine DrawN.calm (by decide +kernel) ?_ | refine Nd.mk (by decide +kernel) ?_ | refine Nd.mk (by omega) ?_ | (refine Nd.mk ?_ ?_; focus ((repeat' (first | exact trivial | exact wkE_refl _ | refine And.intro ?_ ?_)); done)) | refine RdN.intro _ rfl (by rfl) ?_); (conv => whnf))))
      refine Nd.mk ⟨by omega, by rw [bs_size]; simp⟩ ?_
      rw [show ((0 : Int).toNat) = 0 from rfl, hb0]
      ((conv => whnf); (repeat ((first | refine BoxN.own ?_ | refine VrN.norm (wrap_i64 (by omega)) ?_ | refine VrN.keep ?_ | refine DrawN.calm (by decide +kernel) ?_ | refine Nd.mk (by decide +kernel) ?_ | refine Nd.mk (by omega) ?_ | (refine Nd.mk ?_ ?_; focus ((repeat' (first | exact trivial | exact wkE_refl _ | refine And.intro ?_ ?_)); done)) | refine RdN.intro _ rfl (by rfl) ?_); (conv => whnf))))
      refine brd_eq (fun h4 => ?_) (fun h4 => ?_)
      · have hc : c = 10 := UInt8.toNat_inj.1 (by show c.toNat = 10; omega)
        have hl : ln (p2 ++ [c]) = ln p2 + 1 := by rw [ln_snoc, if_pos hc]
        ((conv => whnf); (repeat ((first | refine BoxN.own ?_ | refine VrN.norm (wrap_i64 (by omega)) ?_ | refine VrN.keep ?_ | refine DrawN.calm (by decide +kernel) ?_ | refine Nd.mk (by decide +kernel) ?_ | refine Nd.mk (by omega) ?_ | (refine Nd.mk ?_ ?_; focus ((repeat' (first | exact trivial | exact wkE_refl _ | refine And.intro ?_ ?_)); done)) | refine RdN.intro _ rfl (by rfl) ?_); (conv => whnf))))
        refine Nd.mk ⟨by omega, by rw [bs_size]; simp⟩ ?_
        rw [show ((0 : Int).toNat) = 0 from rfl, hb0]
        ((conv => whnf); (repeat ((first | refine BoxN.own ?_ | refine VrN.norm (wrap_i64 (by omega)) ?_ | refine VrN.keep ?_ | refine DrawN.calm (by decide +kernel) ?_ | refine Nd.mk (by decide +kernel) ?_ | refine Nd.mk (by omega) ?_ | (refine Nd.mk ?_ ?_; focus ((repeat' (first | exact trivial | exact wkE_refl _ | refine And.intro ?_ ?_)); done)) | refine RdN.intro _ rfl (by rfl) ?_); (conv => whnf))))
        refine callG (WriteByte_c true acc c b (by omega)) [5, 6] rfl ⟨rfl, rfl, trivial⟩ rfl fun b1 hb1 => ?_
        ((conv => whnf); (repeat ((first | refine BoxN.own ?_ | refine VrN.norm (wrap_i64 (by omega)) ?_ | refine VrN.keep ?_ | refine DrawN.calm (by decide +kernel) ?_ | refine Nd.mk (by decide +kernel) ?_ | refine Nd.mk (by omega) ?_ | (refine Nd.mk ?_ ?_; focus ((repeat' (first | exact trivial | exact wkE_refl _ | refine And.intro ?_ ?_)); done)) | refine RdN.intro _ rfl (by rfl) ?_); (conv => whnf))))
        refine ⟨⟨p2 ++ [c], r3, acc ++ [c], true, b1⟩, ⟨by rw [← hsp]; simp, hX, hb1, by simp; omega⟩, by show r3.length < (c :: r3).length; simp, ?_, ?_⟩
        · (repeat' (first | exact trivial | refine And.intro (by with_reducible rfl) ?_ | (with_reducible exact wkC_refl _) | (with_reducible exact wkCs_refl _) | refine And.intro ?_ ?_))
          all_goals rfl
        · refine wkH_cons ?_ (wkH_cons rfl (wkH_cons rfl (wkH_cons rfl (wkH_cons rfl (wkH_cons rfl (wkH_cons rfl (wkH_nil _)))))))
          rw [ha, hl1, hl]
      · have hc : ¬ c = 10 := fun h => h4 (by rw [h]; rfl)
        have hl : ln (p2 ++ [c]) = ln p2 := by rw [ln_snoc, if_neg hc]
        ((conv => whnf); (repeat ((first | refine BoxN.own ?_ | refine VrN.norm (wrap_i64 (by omega)) ?_ | refine VrN.keep ?_ | refine DrawN.calm (by decide +kernel) ?_ | refine Nd.mk (by decide +kernel) ?_ | refine Nd.mk (by omega) ?_ | (refine Nd.mk ?_ ?_; focus ((repeat' (first | exact trivial | exact wkE_refl _ | refine And.intro ?_ ?_)); done)) | refine RdN.intro _ rfl (by rfl) ?_); (conv => whnf))))
        refine Nd.mk ⟨by omega, by rw [bs_size]; simp⟩ ?_
        rw [show ((0 : Int).toNat) = 0 from rfl, hb0]
        ((conv => whnf); (repeat ((first | refine BoxN.own ?_ | refine VrN.norm (wrap_i64 (by omega)) ?_ | refine VrN.keep ?_ | refine DrawN.calm (by decide +kernel) ?_ | refine Nd.mk (by decide +kernel) ?_ | refine Nd.mk (by omega) ?_ | (refine Nd.mk ?_ ?_; focus ((repeat' (first | exact trivial | exact wkE_refl _ | refine And.intro ?_ ?_)); done)) | refine RdN.intro _ rfl (by rfl) ?_); (conv => whnf))))
        refine callG (WriteByte_c true acc c b (by omega)) [5, 6] rfl ⟨rfl, rfl, trivial⟩ rfl fun b1 hb1 => ?_
        ((conv => whnf); (repeat ((first | refine BoxN.own ?_ | refine VrN.norm (wrap_i64 (by omega)) ?_ | refine VrN.keep ?_ | refine DrawN.calm (by decide +kernel) ?_ | refine Nd.mk (by decide +kernel) ?_ | refine Nd.mk (by omega) ?_ | (refine Nd.mk ?_ ?_; focus ((repeat' (first | exact trivial | exact wkE_refl _ | refine And.intro ?_ ?_)); done)) | refine RdN.intro _ rfl (by rfl) ?_); (conv => whnf))))
        refine ⟨⟨p2 ++ [c], r3, acc ++ [c], true, b1⟩, ⟨by rw [← hsp]; simp, hX, hb1, by simp; omega⟩, by show r3.length < (c :: r3).length; simp, ?_, ?_⟩
        · (repeat' (first | exact trivial | refine And.intro (by with_reducible rfl) ?_ | (with_reducible exact wkC_refl _) | (with_reducible exact wkCs_refl _) | refine And.intro ?_ ?_))
          all_goals rfl
        · refine wkH_cons ?_ (wkH_cons rfl (wkH_cons rfl (wkH_cons rfl (wkH_cons rfl (wkH_cons rfl (wkH_cons rfl (wkH_nil _)))))))
          rw [ha, hl]
  ((conv => whnf); (repeat ((first | refine BoxN.own ?_ | refine VrN.norm (wrap_i64 (by omega)) ?_ | refine VrN.keep ?_ | refine DrawN.calm (by decide +kernel) ?_ | refine Nd.mk (by decide +kernel) ?_ | refine Nd.mk (by omega) ?_ | (refine Nd.mk ?_ ?_; focus ((repeat' (first | exact trivial | exact wkE_refl _ | refine And.intro ?_ ?_)); done)) | refine RdN.intro _ rfl (by rfl) ?_); (conv => whnf)))); refine call1 (HasPrefix_c r [61] _) ?_
  ((conv => whnf); (repeat ((first | refine BoxN.own ?_ | refine VrN.norm (wrap_i64 (by omega)) ?_ | refine VrN.keep ?_ | refine DrawN.calm (by decide +kernel) ?_ | refine Nd.mk (by decide +kernel) ?_ | refine Nd.mk (by omega) ?_ | (refine Nd.mk ?_ ?_; focus ((repeat' (first | exact trivial | exact wkE_refl _ | refine And.intro ?_ ?_)); done)) | refine RdN.intro _ rfl (by rfl) ?_); (conv => whnf))))
  refine brd_intro (fun h2 => ?_) (fun h2 => ?_)
  · obtain ⟨q, rfl⟩ := pfx_split h2
    have hop : opn ([61] ++ q) = (2, false, 1) := rfl
    rw [hop]
    simp only [Bool.false_eq_true, if_false]
    generalize hXd : tgN (pre ++ (60 :: 37 :: ([61] ++ q)).take (2 + 1)) (([61] ++ q).drop 1) [] = X
    have ok1 := ok
    generalize m = m1 at ok1
    generalize hr : ([61] ++ q : List UInt8) = r at *
    have hat1 : IntKind.wrap .i64 ((pre.length : Int) + 1) = ((pre.length + 1 : Nat) : Int) := by rw [wrap_i64 (by omega)]; omega
    have hat : IntKind.wrap .i64 (((pre.length + 1 : Nat) : Int) + 2) = ((pre ++ (60 :: 37 :: r).take (2 + 1)).length : Int) := by
      rw [wrap_i64 (by omega), ← hr]; simp; omega
    have hlt : ln pre = ln (pre ++ (60 :: 37 :: r).take (2 + 1)) := by rw [ln_app, ← hr]; rfl
    have hsp0 : pre ++ (60 :: 37 :: r).take (2 + 1) ++ r.drop 1 = pre ++ 60 :: 37 :: r := by rw [← hr]; simp
    -- 1: bytes behind '<%' · 2: the kind · plain: the text
    ((conv => whnf); (repeat ((first | refine BoxN.own ?_ | refine VrN.norm (wrap_i64 (by omega)) ?_ | refine VrN.keep ?_ | refine DrawN.calm (by decide +kernel) ?_ | refine Nd.mk (by decide +kernel) ?_ | refine Nd.mk (by omega) ?_ | (refine Nd.mk ?_ ?_; focus ((repeat' (first | exact trivial | exact wkE_refl _ | refine And.intro ?_ ?_)); done)) | refine RdN.intro _ rfl (by rfl) ?_); (conv => whnf))))
    rw [hat1]
    refine callG (flush_x (pre ++ 60 :: 37 :: r) (pre.length + 1) (ln pre) lines out plain begun m1 ok1 (by omega) (by omega)) [0, 1, 2] rfl ⟨rfl, rfl, rfl, trivial⟩ rfl fun m2 ok2 => ?_
    obtain ⟨⟨ob, oc⟩, ⟨pb, pc⟩⟩ := m2
    ((conv => whnf); (repeat ((first | refine BoxN.own ?_ | refine VrN.norm (wrap_i64 (by omega)) ?_ | refine VrN.keep ?_ | refine DrawN.calm (by decide +kernel) ?_ | refine Nd.mk (by decide +kernel) ?_ | refine Nd.mk (by omega) ?_ | (refine Nd.mk ?_ ?_; focus ((repeat' (first | exact trivial | exact wkE_refl _ | refine And.intro ?_ ?_)); done)) | refine RdN.intro _ rfl (by rfl) ?_); (conv => whnf))))
    refine LoopN.intro (List UInt8 × List UInt8 × List UInt8 × Bool × BSt) (fun ⟨p2, r2, acc, _, b⟩ => p2 ++ r2 = pre ++ 60 :: 37 :: r ∧ tgN p2 r2 acc = X ∧ b.ok acc.length ∧ acc.length ≤ p2.length) (fun ⟨_, _, _, _, _⟩ => mkS Tryz.f32.ntmps 0 [(0, .c (.lp 0 0)), (3, .c (.lp 4 0)), (5, .c (.lp 5 0))])
      (fun ⟨p2, _, acc, u, b⟩ => [.blk 44 [.v (.string (bs (pre ++ 60 :: 37 :: r))), .v (.int .i64 (p2.length : Int)), .v (.int .i64 (ln p2)), .v (.bool lines), .v (.slice (at0 ob) (outC out plain begun).length oc), .v (.slice (at0 pb) 0 pc), .v (.int .i64 begun)],
        .app 40 3 (partsC (outC out plain begun)) (at0 ob) (outC out plain begun).length oc, .app 5 1 [] (at0 pb) 0 pc, .fact MaxF, .blk 40 [.v (.int .i64 2), .v (.int .i64 (ln pre)), .v (.string ⟨#[]⟩)], .blk 52 [match u with | true => .lp 5 0 | false => .v (.pointer none), .v (.slice (at0 b.ob) acc.length b.cap)], .app 5 1 (u8s acc) (at0 b.ob) acc.length b.cap])
      (fun ⟨_, r2, _, _, _⟩ => r2.length) [.app 0 0 [] none 0 0] rfl
      (fun _ => rfl) (fun _ => rfl) (fun ⟨_, _, _, u, _⟩ _ => by cases u <;> exact okHB_eq rfl) ⟨⟨pre ++ (60 :: 37 :: r).take (2 + 1), r.drop 1, [], false, ⟨none, 0⟩⟩, ⟨hsp0, hXd, ⟨fun _ => ⟨rfl, rfl⟩, Nat.le_refl _, fun _ => rfl⟩, by simp⟩, ?_, ?_⟩ ?_
    · (repeat' (first | exact trivial | refine And.intro (by with_reducible rfl) ?_ | (with_reducible exact wkC_refl _) | (with_reducible exact wkCs_refl _) | refine And.intro ?_ ?_))
      all_goals rfl
    · refine wkH_cons ?_ (wkH_cons rfl (wkH_cons rfl (wkH_cons rfl (wkH_cons rfl (wkH_cons rfl ⟨wkE_nil, wkH_nil _⟩)))))
      simp only [rnCs, rnC]
      rw [hat, ← hlt]
      try rfl
    rintro ⟨p2, r2, acc, u, b⟩ ⟨hsp, hX, hb, hal⟩
    have hol := outC_len out plain begun
    cases u with
    | false =>
      ((conv => whnf); (repeat ((first | refine BoxN.own ?_ | refine VrN.norm (wrap_i64 (by omega)) ?_ | refine VrN.keep ?_ | refine DrawN.calm (by decide +kernel) ?_ | refine Nd.mk (by decide +kernel) ?_ | refine Nd.mk (by omega) ?_ | (refine Nd.mk ?_ ?_; focus ((repeat' (first | exact trivial | exact wkE_refl _ | refine And.intro ?_ ?_)); done)) | refine RdN.intro _ rfl (by rfl) ?_); (conv => whnf))))
      refine ReadW.sl_at p2 r2 hsp.symm rfl (by kernel_rfl) rfl rfl rfl ?_
      ((conv => whnf); (repeat ((first | refine BoxN.own ?_ | refine VrN.norm (wrap_i64 (by omega)) ?_ | refine VrN.keep ?_ | refine DrawN.calm (by decide +kernel) ?_ | refine Nd.mk (by decide +kernel) ?_ | refine Nd.mk (by omega) ?_ | (refine Nd.mk ?_ ?_; focus ((repeat' (first | exact trivial | exact wkE_refl _ | refine And.intro ?_ ?_)); done)) | refine RdN.intro _ rfl (by rfl) ?_); (conv => whnf))))
      rw [bs_list]
      refine brd_intro (fun h0 => ?_) (fun h0 => ?_)
      · have h0 : r2 = [] := by simpa using h0
        subst h0
        have hX : X = none := by rw [← hX]; rfl
        subst hX
        ((conv => whnf); (repeat ((first | refine BoxN.own ?_ | refine VrN.norm (wrap_i64 (by omega)) ?_ | refine VrN.keep ?_ | refine DrawN.calm (by decide +kernel) ?_ | refine Nd.mk (by decide +kernel) ?_ | refine Nd.mk (by omega) ?_ | (refine Nd.mk ?_ ?_; focus ((repeat' (first | exact trivial | exact wkE_refl _ | refine And.intro ?_ ?_)); done)) | refine RdN.intro _ rfl (by rfl) ?_); (conv => whnf))))
        refine ⟨(⟨pre ++ 60 :: 37 :: r, p2.length, ln pre, lines, outC out plain begun, [], begun⟩, ⟨⟨ob, oc⟩, ⟨pb, pc⟩⟩), ⟨⟨ok2.1, ok2.2⟩, rfl, rfl, rfl⟩, rfl, ?_⟩
        exact wkH_cons rfl (wkH_cons rfl (wkH_cons rfl (wkH_cons rfl (wkH_nil _))))
      obtain ⟨c, r3, rfl⟩ : ∃ c r3, r2 = c :: r3 := by
        cases r2 with
        | nil => simp at h0
        | cons c r3 => exact ⟨c, r3, rfl⟩
      have hlen := congrArg List.length hsp
      simp only [List.length_append, List.length_cons] at hlen
      have hlp := ln_bd p2
      rw [tgN_cons] at hX
      ((conv => whnf); (repeat ((first | refine BoxN.own ?_ | refine VrN.norm (wrap_i64 (by omega)) ?_ | refine VrN.keep ?_ | refine DrawN.calm (by decide +kernel) ?_ | refine Nd.mk (by decide +kernel) ?_ | refine Nd.mk (by omega) ?_ | (refine Nd.mk ?_ ?_; focus ((repeat' (first | exact trivial | exact wkE_refl _ | refine And.intro ?_ ?_)); done)) | refine RdN.intro _ rfl (by rfl) ?_); (conv => whnf)))); refine call1 (HasPrefix_c (c :: r3) [37, 37, 62] _) ?_
      ((conv => whnf); (repeat ((first | refine BoxN.own ?_ | refine VrN.norm (wrap_i64 (by omega)) ?_ | refine VrN.keep ?_ | refine DrawN.calm (by decide +kernel) ?_ | refine Nd.mk (by decide +kernel) ?_ | refine Nd.mk (by omega) ?_ | (refine Nd.mk ?_ ?_; focus ((repeat' (first | exact trivial | exact wkE_refl _ | refine And.intro ?_ ?_)); done)) | refine RdN.intro _ rfl (by rfl) ?_); (conv => whnf))))
      refine brd_intro (fun h1 => ?_) (fun h1 => ?_)
      · rw [if_pos h1] at hX
        obtain ⟨q, hq⟩ := pfx_split h1
        have htk : (c :: r3).take 3 = [37, 37, 62] := pfx_take h1
        have hdr : (c :: r3).drop 3 = q := by rw [hq]; rfl
        rw [htk, hdr] at hX
        have hq3 := congrArg List.length hq
        simp only [List.length_append, List.length_cons, List.length_nil] at hq3
        have ha : IntKind.wrap .i64 ((p2.length : Int) + 3) = ((p2 ++ [37, 37, 62]).length : Int) := by rw [wrap_i64 (by omega)]; simp
        ((conv => whnf); (repeat ((first | refine BoxN.own ?_ | refine VrN.norm (wrap_i64 (by omega)) ?_ | refine VrN.keep ?_ | refine DrawN.calm (by decide +kernel) ?_ | refine Nd.mk (by decide +kernel) ?_ | refine Nd.mk (by omega) ?_ | (refine Nd.mk ?_ ?_; focus ((repeat' (first | exact trivial | exact wkE_refl _ | refine And.intro ?_ ?_)); done)) | refine RdN.intro _ rfl (by rfl) ?_); (conv => whnf))))
        refine callG (WriteString_c false acc [37, 62] b hb (by simp; omega)) [5, 6] rfl ⟨rfl, rfl, trivial⟩ rfl fun b1 hb1 => ?_
        ((conv => whnf); (repeat ((first | refine BoxN.own ?_ | refine VrN.norm (wrap_i64 (by omega)) ?_ | refine VrN.keep ?_ | refine DrawN.calm (by decide +kernel) ?_ | refine Nd.mk (by decide +kernel) ?_ | refine Nd.mk (by omega) ?_ | (refine Nd.mk ?_ ?_; focus ((repeat' (first | exact trivial | exact wkE_refl _ | refine And.intro ?_ ?_)); done)) | refine RdN.intro _ rfl (by rfl) ?_); (conv => whnf))))
        refine ⟨⟨p2 ++ [37, 37, 62], q, acc ++ [37, 62], true, b1⟩, ⟨by rw [← hsp, hq]; simp, hX, hb1, by simp; omega⟩, by show q.length < (c :: r3).length; rw [hq]; simp; omega, ?_, ?_⟩
        · (repeat' (first | exact trivial | refine And.intro (by with_reducible rfl) ?_ | (with_reducible exact wkC_refl _) | (with_reducible exact wkCs_refl _) | refine And.intro ?_ ?_))
          all_goals rfl
        · have hl : ln (p2 ++ [37, 37, 62]) = ln p2 := by rw [ln_app]; rfl
          refine wkH_cons ?_ (wkH_cons rfl (wkH_cons rfl (wkH_cons rfl (wkH_cons rfl (wkH_cons rfl (wkH_cons rfl (wkH_nil _)))))))
          rw [ha, hl]
      rw [if_neg (by simp [h1])] at hX
      ((conv => whnf); (repeat ((first | refine BoxN.own ?_ | refine VrN.norm (wrap_i64 (by omega)) ?_ | refine VrN.keep ?_ | refine DrawN.calm (by decide +kernel) ?_ | refine Nd.mk (by decide +kernel) ?_ | refine Nd.mk (by omega) ?_ | (refine Nd.mk ?_ ?_; focus ((repeat' (first | exact trivial | exact wkE_refl _ | refine And.intro ?_ ?_)); done)) | refine RdN.intro _ rfl (by rfl) ?_); (conv => whnf)))); refine call1 (HasPrefix_c (c :: r3) [45, 37, 62] _) ?_
      ((conv => whnf); (repeat ((first | refine BoxN.own ?_ | refine VrN.norm (wrap_i64 (by omega)) ?_ | refine VrN.keep ?_ | refine DrawN.calm (by decide +kernel) ?_ | refine Nd.mk (by decide +kernel) ?_ | refine Nd.mk (by omega) ?_ | (refine Nd.mk ?_ ?_; focus ((repeat' (first | exact trivial | exact wkE_refl _ | refine And.intro ?_ ?_)); done)) | refine RdN.intro _ rfl (by rfl) ?_); (conv => whnf))))
      refine brd_intro (fun h2 => ?_) (fun h2 => ?_)
      · rw [if_pos h2] at hX
        obtain ⟨q, hq⟩ := pfx_split h2
        have htk : (c :: r3).take 3 = [45, 37, 62] := pfx_take h2
        have hdr : (c :: r3).drop 3 = q := by rw [hq]; rfl
        have hq3 := congrArg List.length hq
        simp only [List.length_append, List.length_cons, List.length_nil] at hq3
        have ha : IntKind.wrap .i64 ((p2.length : Int) + 3) = ((p2 ++ [45, 37, 62]).length : Int) := by rw [wrap_i64 (by omega)]; simp
        rw [hdr] at hX
        have hsq : pre ++ 60 :: 37 :: r = (p2 ++ [45, 37, 62]) ++ q := by rw [← hsp, hq]; simp
        ((conv => whnf); (repeat ((first | refine BoxN.own ?_ | refine VrN.norm (wrap_i64 (by omega)) ?_ | refine VrN.keep ?_ | refine DrawN.calm (by decide +kernel) ?_ | refine Nd.mk (by decide +kernel) ?_ | refine Nd.mk (by omega) ?_ | (refine Nd.mk ?_ ?_; focus ((repeat' (first | exact trivial | exact wkE_refl _ | refine And.intro ?_ ?_)); done)) | refine RdN.intro _ rfl (by rfl) ?_); (conv => whnf))))
        rw [ha]
        refine ReadW.sl_at (p2 ++ [45, 37, 62]) q hsq rfl (by kernel_rfl) rfl rfl rfl ?_
        ((conv => whnf); (repeat ((first | refine BoxN.own ?_ | refine VrN.norm (wrap_i64 (by omega)) ?_ | refine VrN.keep ?_ | refine DrawN.calm (by decide +kernel) ?_ | refine Nd.mk (by decide +kernel) ?_ | refine Nd.mk (by omega) ?_ | (refine Nd.mk ?_ ?_; focus ((repeat' (first | exact trivial | exact wkE_refl _ | refine And.intro ?_ ?_)); done)) | refine RdN.intro _ rfl (by rfl) ?_); (conv => whnf)))); refine callQ (HasPrefix_c q [10] _) ?_
        ((conv => whnf); (repeat ((first | refine BoxN.own ?_ | refine VrN.norm (wrap_i64 (by omega)) ?_ | refine VrN.keep ?_ | refine DrawN.calm (by decide +kernel) ?_ | refine Nd.mk (by decide +kernel) ?_ | refine Nd.mk (by omega) ?_ | (refine Nd.mk ?_ ?_; focus ((repeat' (first | exact trivial | exact wkE_refl _ | refine And.intro ?_ ?_)); done)) | refine RdN.intro _ rfl (by rfl) ?_); (conv => whnf))))
        refine brd_intro (fun h3 => ?_) (fun h3 => ?_)
        · rw [if_pos h3] at hX
          obtain ⟨q', hq'⟩ := pfx_split h3
          have htk4 : (c :: r3).take 4 = [45, 37, 62, 10] := by rw [hq, hq']; rfl
          rw [htk4] at hX
          have ha4 : IntKind.wrap .i64 (IntKind.wrap .i64 ((p2.length : Int) + 3) + 1) = ((p2 ++ [45, 37, 62, 10]).length : Int) := by rw [ha, wrap_i64 (by simp; omega)]; simp; omega
          rw [ha] at ha4
          have hl4 : IntKind.wrap .i64 (ln p2 + 1) = ln (p2 ++ [45, 37, 62, 10]) := by rw [wrap_i64 (by omega), ln_app]; rfl
          -- 2: the kind · plain: the text ahead · false: is the builder used · (p2 ++ [45, 37, 62, 10]): the prefix behind the tag · rw [ha4, hl4]: its place and line
          ((conv => whnf); (repeat ((first | refine BoxN.own ?_ | refine VrN.norm (wrap_i64 (by omega)) ?_ | refine VrN.keep ?_ | refine DrawN.calm (by decide +kernel) ?_ | refine Nd.mk (by decide +kernel) ?_ | refine Nd.mk (by omega) ?_ | (refine Nd.mk ?_ ?_; focus ((repeat' (first | exact trivial | exact wkE_refl _ | refine And.intro ?_ ?_)); done)) | refine RdN.intro _ rfl (by rfl) ?_); (conv => whnf))))
          refine callG (BString_c false acc b hb) [5, 6] rfl ⟨rfl, rfl, trivial⟩ rfl fun _ _ => ?_
          ((conv => whnf); (repeat ((first | refine BoxN.own ?_ | refine VrN.norm (wrap_i64 (by omega)) ?_ | refine VrN.keep ?_ | refine DrawN.calm (by decide +kernel) ?_ | refine Nd.mk (by decide +kernel) ?_ | refine Nd.mk (by omega) ?_ | (refine Nd.mk ?_ ?_; focus ((repeat' (first | exact trivial | exact wkE_refl _ | refine And.intro ?_ ?_)); done)) | refine RdN.intro _ rfl (by rfl) ?_); (conv => whnf))))
          refine DrawN.plan [0, 1] [(2, 1), (3, 1), (4, 1), (5, 1), (6, 0)] [(7, 0), (8, 0), (9, 0), (10, 0)] (by decide +kernel) ?_
          ((conv => whnf); (repeat ((first | refine BoxN.own ?_ | refine VrN.norm (wrap_i64 (by omega)) ?_ | refine VrN.keep ?_ | refine DrawN.calm (by decide +kernel) ?_ | refine Nd.mk (by decide +kernel) ?_ | refine Nd.mk (by omega) ?_ | (refine Nd.mk ?_ ?_; focus ((repeat' (first | exact trivial | exact wkE_refl _ | refine And.intro ?_ ?_)); done)) | refine RdN.intro _ rfl (by rfl) ?_); (conv => whnf))))
          refine Nd.mk ⟨by omega, rfl, rfl⟩ ?_
          (conv => whnf)
          refine AppN.grow 1 (partsC (outC out plain begun)) _ rfl rfl ⟨by omega, ⟨by show ((outC out plain begun).length + 1) * 32 ≤ _; omega, by show (outC out plain begun).length + 1 < _; omega⟩, by decide⟩ fun b' cap' h3 h4 => ?_
          ((conv => whnf); (repeat ((first | refine BoxN.own ?_ | refine VrN.norm (wrap_i64 (by omega)) ?_ | refine VrN.keep ?_ | refine DrawN.calm (by decide +kernel) ?_ | refine Nd.mk (by decide +kernel) ?_ | refine Nd.mk (by omega) ?_ | (refine Nd.mk ?_ ?_; focus ((repeat' (first | exact trivial | exact wkE_refl _ | refine And.intro ?_ ?_)); done)) | refine RdN.intro _ rfl (by rfl) ?_); (conv => whnf))))
          refine ⟨(⟨pre ++ 60 :: 37 :: r, ((p2 ++ [45, 37, 62, 10])).length, ln ((p2 ++ [45, 37, 62, 10])), lines, outC out plain begun ++ [⟨2, ln pre, acc⟩], [], begun⟩, ⟨⟨some b', cap'⟩, ⟨pb, pc⟩⟩), ⟨⟨⟨(fun h => by cases h), by rw [List.length_append]; exact h3, fun h => by have h : cap' = 0 := h; omega⟩, ok2.2⟩, rfl, rfl, by rw [← hX]; exact ⟨rfl, rfl, rfl, rfl⟩⟩, by rw [← hX]; rfl, ?_⟩
          refine wkH_cons ?_ (wkH_cons ?_ (wkH_cons rfl (wkH_cons rfl (wkH_nil _))))
          · rw [ha4, hl4]
            simp [at0]
          · simp [at0, partsC_app]
            exact ⟨rfl, rfl⟩
        · rw [if_neg (by simp [h3]), htk] at hX
          have hl3 : ln p2 = ln (p2 ++ [45, 37, 62]) := by rw [ln_app]; rfl
          -- 2: the kind · plain: the text ahead · false: is the builder used · (p2 ++ [45, 37, 62]): the prefix behind the tag · rw [hl3]: its place and line
          ((conv => whnf); (repeat ((first | refine BoxN.own ?_ | refine VrN.norm (wrap_i64 (by omega)) ?_ | refine VrN.keep ?_ | refine DrawN.calm (by decide +kernel) ?_ | refine Nd.mk (by decide +kernel) ?_ | refine Nd.mk (by omega) ?_ | (refine Nd.mk ?_ ?_; focus ((repeat' (first | exact trivial | exact wkE_refl _ | refine And.intro ?_ ?_)); done)) | refine RdN.intro _ rfl (by rfl) ?_); (conv => whnf))))
          refine callG (BString_c false acc b hb) [5, 6] rfl ⟨rfl, rfl, trivial⟩ rfl fun _ _ => ?_
          ((conv => whnf); (repeat ((first | refine BoxN.own ?_ | refine VrN.norm (wrap_i64 (by omega)) ?_ | refine VrN.keep ?_ | refine DrawN.calm (by decide +kernel) ?_ | refine Nd.mk (by decide +kernel) ?_ | refine Nd.mk (by omega) ?_ | (refine Nd.mk ?_ ?_; focus ((repeat' (first | exact trivial | exact wkE_refl _ | refine And.intro ?_ ?_)); done)) | refine RdN.intro _ rfl (by rfl) ?_); (conv => whnf))))
          refine DrawN.plan [0, 1] [(2, 1), (3, 1), (4, 1), (5, 1), (6, 0)] [(7, 0), (8, 0), (9, 0), (10, 0)] (by decide +kernel) ?_
          ((conv => whnf); (repeat ((first | refine BoxN.own ?_ | refine VrN.norm (wrap_i64 (by omega)) ?_ | refine VrN.keep ?_ | refine DrawN.calm (by decide +kernel) ?_ | refine Nd.mk (by decide +kernel) ?_ | refine Nd.mk (by omega) ?_ | (refine Nd.mk ?_ ?_; focus ((repeat' (first | exact trivial | exact wkE_refl _ | refine And.intro ?_ ?_)); done)) | refine RdN.intro _ rfl (by rfl) ?_); (conv => whnf))))
          refine Nd.mk ⟨by omega, rfl, rfl⟩ ?_
          (conv => whnf)
          refine AppN.grow 1 (partsC (outC out plain begun)) _ rfl rfl ⟨by omega, ⟨by show ((outC out plain begun).length + 1) * 32 ≤ _; omega, by show (outC out plain begun).length + 1 < _; omega⟩, by decide⟩ fun b' cap' h3 h4 => ?_
          ((conv => whnf); (repeat ((first | refine BoxN.own ?_ | refine VrN.norm (wrap_i64 (by omega)) ?_ | refine VrN.keep ?_ | refine DrawN.calm (by decide +kernel) ?_ | refine Nd.mk (by decide +kernel) ?_ | refine Nd.mk (by omega) ?_ | (refine Nd.mk ?_ ?_; focus ((repeat' (first | exact trivial | exact wkE_refl _ | refine And.intro ?_ ?_)); done)) | refine RdN.intro _ rfl (by rfl) ?_); (conv => whnf))))
          refine ⟨(⟨pre ++ 60 :: 37 :: r, ((p2 ++ [45, 37, 62])).length, ln ((p2 ++ [45, 37, 62])), lines, outC out plain begun ++ [⟨2, ln pre, acc⟩], [], begun⟩, ⟨⟨some b', cap'⟩, ⟨pb, pc⟩⟩), ⟨⟨⟨(fun h => by cases h), by rw [List.length_append]; exact h3, fun h => by have h : cap' = 0 := h; omega⟩, ok2.2⟩, rfl, rfl, by rw [← hX]; exact ⟨rfl, rfl, rfl, rfl⟩⟩, by rw [← hX]; rfl, ?_⟩
          refine wkH_cons ?_ (wkH_cons ?_ (wkH_cons rfl (wkH_cons rfl (wkH_nil _))))
          · rw [hl3]
            simp [at0]
          · simp [at0, partsC_app]
            exact ⟨rfl, rfl⟩
      rw [if_neg (by simp [h2])] at hX
      ((conv => whnf); (repeat ((first | refine BoxN.own ?_ | refine VrN.norm (wrap_i64 (by omega)) ?_ | refine VrN.keep ?_ | refine DrawN.calm (by decide +kernel) ?_ | refine Nd.mk (by decide +kernel) ?_ | refine Nd.mk (by omega) ?_ | (refine Nd.mk ?_ ?_; focus ((repeat' (first | exact trivial | exact wkE_refl _ | refine And.intro ?_ ?_)); done)) | refine RdN.intro _ rfl (by rfl) ?_); (conv => whnf)))); refine call1 (HasPrefix_c (c :: r3) [37, 62] _) ?_
      ((conv => whnf); (repeat ((first | refine BoxN.own ?_ | refine VrN.norm (wrap_i64 (by omega)) ?_ | refine VrN.keep ?_ | refine DrawN.calm (by decide +kernel) ?_ | refine Nd.mk (by decide +kernel) ?_ | refine Nd.mk (by omega) ?_ | (refine Nd.mk ?_ ?_; focus ((repeat' (first | exact trivial | exact wkE_refl _ | refine And.intro ?_ ?_)); done)) | refine RdN.intro _ rfl (by rfl) ?_); (conv => whnf))))
      refine brd_intro (fun h3 => ?_) (fun h3 => ?_)
      · rw [if_pos h3] at hX
        have htk : (c :: r3).take 2 = [37, 62] := pfx_take h3
        rw [htk] at hX
        have ha : IntKind.wrap .i64 ((p2.length : Int) + 2) = ((p2 ++ [37, 62]).length : Int) := by rw [wrap_i64 (by omega)]; simp
        have hl3 : ln p2 = ln (p2 ++ [37, 62]) := by rw [ln_app]; rfl
        -- 2: the kind · plain: the text ahead · false: is the builder used · (p2 ++ [37, 62]): the prefix behind the tag · rw [ha, hl3]: its place and line
        ((conv => whnf); (repeat ((first | refine BoxN.own ?_ | refine VrN.norm (wrap_i64 (by omega)) ?_ | refine VrN.keep ?_ | refine DrawN.calm (by decide +kernel) ?_ | refine Nd.mk (by decide +kernel) ?_ | refine Nd.mk (by omega) ?_ | (refine Nd.mk ?_ ?_; focus ((repeat' (first | exact trivial | exact wkE_refl _ | refine And.intro ?_ ?_)); done)) | refine RdN.intro _ rfl (by rfl) ?_); (conv => whnf))))
        refine callG (BString_c false acc b hb) [5, 6] rfl ⟨rfl, rfl, trivial⟩ rfl fun _ _ => ?_
        ((conv => whnf); (repeat ((first | refine BoxN.own ?_ | refine VrN.norm (wrap_i64 (by omega)) ?_ | refine VrN.keep ?_ | refine DrawN.calm (by decide +kernel) ?_ | refine Nd.mk (by decide +kernel) ?_ | refine Nd.mk (by omega) ?_ | (refine Nd.mk ?_ ?_; focus ((repeat' (first | exact trivial | exact wkE_refl _ | refine And.intro ?_ ?_)); done)) | refine RdN.intro _ rfl (by rfl) ?_); (conv => whnf))))
        refine DrawN.plan [0, 1] [(2, 1), (3, 1), (4, 1), (5, 1), (6, 0)] [(7, 0), (8, 0), (9, 0), (10, 0)] (by decide +kernel) ?_
        ((conv => whnf); (repeat ((first | refine BoxN.own ?_ | refine VrN.norm (wrap_i64 (by omega)) ?_ | refine VrN.keep ?_ | refine DrawN.calm (by decide +kernel) ?_ | refine Nd.mk (by decide +kernel) ?_ | refine Nd.mk (by omega) ?_ | (refine Nd.mk ?_ ?_; focus ((repeat' (first | exact trivial | exact wkE_refl _ | refine And.intro ?_ ?_)); done)) | refine RdN.intro _ rfl (by rfl) ?_); (conv => whnf))))
        refine Nd.mk ⟨by omega, rfl, rfl⟩ ?_
        (conv => whnf)
        refine AppN.grow 1 (partsC (outC out plain begun)) _ rfl rfl ⟨by omega, ⟨by show ((outC out plain begun).length + 1) * 32 ≤ _; omega, by show (outC out plain begun).length + 1 < _; omega⟩, by decide⟩ fun b' cap' h3 h4 => ?_
        ((conv => whnf); (repeat ((first | refine BoxN.own ?_ | refine VrN.norm (wrap_i64 (by omega)) ?_ | refine VrN.keep ?_ | refine DrawN.calm (by decide +kernel) ?_ | refine Nd.mk (by decide +kernel) ?_ | refine Nd.mk (by omega) ?_ | (refine Nd.mk ?_ ?_; focus ((repeat' (first | exact trivial | exact wkE_refl _ | refine And.intro ?_ ?_)); done)) | refine RdN.intro _ rfl (by rfl) ?_); (conv => whnf))))
        refine ⟨(⟨pre ++ 60 :: 37 :: r, ((p2 ++ [37, 62])).length, ln ((p2 ++ [37, 62])), lines, outC out plain begun ++ [⟨2, ln pre, acc⟩], [], begun⟩, ⟨⟨some b', cap'⟩, ⟨pb, pc⟩⟩), ⟨⟨⟨(fun h => by cases h), by rw [List.length_append]; exact h3, fun h => by have h : cap' = 0 := h; omega⟩, ok2.2⟩, rfl, rfl, by rw [← hX]; exact ⟨rfl, rfl, rfl, rfl⟩⟩, by rw [← hX]; rfl, ?_⟩
        refine wkH_cons ?_ (wkH_cons ?_ (wkH_cons rfl (wkH_cons rfl (wkH_nil _))))
        · rw [ha, hl3]
          simp [at0]
        · simp [at0, partsC_app]
          exact ⟨rfl, rfl⟩
      rw [if_neg (by simp [h3])] at hX
      have hb0 : byteAt (bs (c :: r3)) 0 = (c.toNat : Int) := byteAt_get rfl
      have ha : IntKind.wrap .i64 ((p2.length : Int) + 1) = ((p2 ++ [c]).length : Int) := by rw [wrap_i64 (by omega)]; simp
      have hl1 : IntKind.wrap .i64 (ln p2 + 1) = ln p2 + 1 := wrap_i64 (by omega)
      ((conv => whnf); (repeat ((first | refine BoxN.own ?_ | refine VrN.norm (wrap_i64 (by omega)) ?_ | refine VrN.keep ?_ | refine DrawN.calm (by decide +kernel) ?_ | refine Nd.mk (by decide +kernel) ?_ | refine Nd.mk (by omega) ?_ | (refine Nd.mk ?_ ?_; focus ((repeat' (first | exact trivial | exact wkE_refl _ | refine And.intro ?_ ?_)); done)) | refine RdN.intro _ rfl (by rfl) ?_); (conv => whnf))))
      refine Nd.mk ⟨by omega, by rw [bs_size]; simp⟩ ?_
      rw [show ((0 : Int).toNat) = 0 from rfl, hb0]
      ((conv => whnf); (repeat ((first | refine BoxN.own ?_ | refine VrN.norm (wrap_i64 (by omega)) ?_ | refine VrN.keep ?_ | refine DrawN.calm (by decide +kernel) ?_ | refine Nd.mk (by decide +kernel) ?_ | refine Nd.mk (by omega) ?_ | (refine Nd.mk ?_ ?_; focus ((repeat' (first | exact trivial | exact wkE_refl _ | refine And.intro ?_ ?_)); done)) | refine RdN.intro _ rfl (by rfl) ?_); (conv => whnf))))
      refine brd_eq (fun h4 => ?_) (fun h4 => ?_)
      · have hc : c = 10 := UInt8.toNat_inj.1 (by show c.toNat = 10; omega)
        have hl : ln (p2 ++ [c]) = ln p2 + 1 := by rw [ln_snoc, if_pos hc]
        ((conv => whnf); (repeat ((first | refine BoxN.own ?_ | refine VrN.norm (wrap_i64 (by omega)) ?_ | refine VrN.keep ?_ | refine DrawN.calm (by decide +kernel) ?_ | refine Nd.mk (by decide +kernel) ?_ | refine Nd.mk (by omega) ?_ | (refine Nd.mk ?_ ?_; focus ((repeat' (first | exact trivial | exact wkE_refl _ | refine And.intro ?_ ?_)); done)) | refine RdN.intro _ rfl (by rfl) ?_); (conv => whnf))))
        refine Nd.mk ⟨by omega, by rw [bs_size]; simp⟩ ?_
        rw [show ((0 : Int).toNat) = 0 from rfl, hb0]
        ((conv => whnf); (repeat ((first | refine BoxN.own ?_ | refine VrN.norm (wrap_i64 (by omega)) ?_ | refine VrN.keep ?_ | refine DrawN.calm (by decide +kernel) ?_ | refine Nd.mk (by decide +kernel) ?_ | refine Nd.mk (by omega) ?_ | (refine Nd.mk ?_ ?_; focus ((repeat' (first | exact trivial | exact wkE_refl _ | refine And.intro ?_ ?_)); done)) | refine RdN.intro _ rfl (by rfl) ?_); (conv => whnf))))
        refine callG (WriteByte_c false acc c b (by omega)) [5, 6] rfl ⟨rfl, rfl, trivial⟩ rfl fun b1 hb1 => ?_
        ((conv => whnf); (repeat ((first | refine BoxN.own ?_ | refine VrN.norm (wrap_i64 (by omega)) ?_ | refine VrN.keep ?_ | refine DrawN.calm (by decide +kernel) ?_ | refine Nd.mk (by decide +kernel) ?_ | refine Nd.mk (by omega) ?_ | (refine Nd.mk ?_ ?_; focus ((repeat' (first | exact trivial | exact wkE_refl _ | refine And.intro ?_ ?_)); done)) | refine RdN.intro _ rfl (by rfl) ?_); (conv => whnf))))
        refine ⟨⟨p2 ++ [c], r3, acc ++ [c], true, b1⟩, ⟨by rw [← hsp]; simp, hX, hb1, by simp; omega⟩, by show r3.length < (c :: r3).length; simp, ?_, ?_⟩
        · (repeat' (first | exact trivial | refine And.intro (by with_reducible rfl) ?_ | (with_reducible exact wkC_refl _) | (with_reducible exact wkCs_refl _) | refine And.intro ?_ ?_))
          all_goals rfl
        · refine wkH_cons ?_ (wkH_cons rfl (wkH_cons rfl (wkH_cons rfl (wkH_cons rfl (wkH_cons rfl (wkH_cons rfl (wkH_nil _)))))))
          rw [ha, hl1, hl]
      · have hc : ¬ c = 10 := fun h => h4 (by rw [h]; rfl)
        have hl : ln (p2 ++ [c]) = ln p2 := by rw [ln_snoc, if_neg hc]
        ((conv => whnf); (repeat ((first | refine BoxN.own ?_ | refine VrN.norm (wrap_i64 (by omega)) ?_ | refine VrN.keep ?_ | refine DrawN.calm (by decide +kernel) ?_ | refine Nd.mk (by decide +kernel) ?_ | refine Nd.mk (by omega) ?_ | (refine Nd.mk ?_ ?_; focus ((repeat' (first | exact trivial | exact wkE_refl _ | refine And.intro ?_ ?_)); done)) | refine RdN.intro _ rfl (by rfl) ?_); (conv => whnf))))
        refine Nd.mk ⟨by omega, by rw [bs_size]; simp⟩ ?_
        rw [show ((0 : Int).toNat) = 0 from rfl, hb0]
        ((conv => whnf); (repeat ((first | refine BoxN.own ?_ | refine VrN.norm (wrap_i64 (by omega)) ?_ | refine VrN.keep ?_ | refine DrawN.calm (by decide +kernel) ?_ | refine Nd.mk (by decide +kernel) ?_ | refine Nd.mk (by omega) ?_ | (refine Nd.mk ?_ ?_; focus ((repeat' (first | exact trivial | exact wkE_refl _ | refine And.intro ?_ ?_)); done)) | refine RdN.intro _ rfl (by rfl) ?_); (conv => whnf))))
        refine callG (WriteByte_c false acc c b (by omega)) [5, 6] rfl ⟨rfl, rfl, trivial⟩ rfl fun b1 hb1 => ?_
        ((conv => whnf); (repeat ((first | refine BoxN.own ?_ | refine VrN.norm (wrap_i64 (by omega)) ?_ | refine VrN.keep ?_ | refine DrawN.calm (by decide +kernel) ?_ | refine Nd.mk (by decide +kernel) ?_ | refine Nd.mk (by omega) ?_ | (refine Nd.mk ?_ ?_; focus ((repeat' (first | exact trivial | exact wkE_refl _ | refine And.intro ?_ ?_)); done)) | refine RdN.intro _ rfl (by rfl) ?_); (conv => whnf))))
        refine ⟨⟨p2 ++ [c], r3, acc ++ [c], true, b1⟩, ⟨by rw [← hsp]; simp, hX, hb1, by simp; omega⟩, by show r3.length < (c :: r3).length; simp, ?_, ?_⟩
        · (repeat' (first | exact trivial | refine And.intro (by with_reducible rfl) ?_ | (with_reducible exact wkC_refl _) | (with_reducible exact wkCs_refl _) | refine And.intro ?_ ?_))
          all_goals rfl
        · refine wkH_cons ?_ (wkH_cons rfl (wkH_cons rfl (wkH_cons rfl (wkH_cons rfl (wkH_cons rfl (wkH_cons rfl (wkH_nil _)))))))
          rw [ha, hl]
    | true =>
      ((conv => whnf); (repeat ((first | refine BoxN.own ?_ | refine VrN.norm (wrap_i64 (by omega)) ?_ | refine VrN.keep ?_ | refine DrawN.calm (by decide +kernel) ?_ | refine Nd.mk (by decide +kernel) ?_ | refine Nd.mk (by omega) ?_ | (refine Nd.mk ?_ ?_; focus ((repeat' (first | exact trivial | exact wkE_refl _ | refine And.intro ?_ ?_)); done)) | refine RdN.intro _ rfl (by rfl) ?_); (conv => whnf))))
      refine ReadW.sl_at p2 r2 hsp.symm rfl (by kernel_rfl) rfl rfl rfl ?_
      ((conv => whnf); (repeat ((first | refine BoxN.own ?_ | refine VrN.norm (wrap_i64 (by omega)) ?_ | refine VrN.keep ?_ | refine DrawN.calm (by decide +kernel) ?_ | refine Nd.mk (by decide +kernel) ?_ | refine Nd.mk (by omega) ?_ | (refine Nd.mk ?_ ?_; focus ((repeat' (first | exact trivial | exact wkE_refl _ | refine And.intro ?_ ?_)); done)) | refine RdN.intro _ rfl (by rfl) ?_); (conv => whnf))))
      rw [bs_list]
      refine brd_intro (fun h0 => ?_) (fun h0 => ?_)
      · have h0 : r2 = [] := by simpa using h0
        subst h0
        have hX : X = none := by rw [← hX]; rfl
        subst hX
        ((conv => whnf); (repeat ((first | refine BoxN.own ?_ | refine VrN.norm (wrap_i64 (by omega)) ?_ | refine VrN.keep ?_ | refine DrawN.calm (by decide +kernel) ?_ | refine Nd.mk (by decide +kernel) ?_ | refine Nd.mk (by omega) ?_ | (refine Nd.mk ?_ ?_; focus ((repeat' (first | exact trivial | exact wkE_refl _ | refine And.intro ?_ ?_)); done)) | refine RdN.intro _ rfl (by rfl) ?_); (conv => whnf))))
        refine ⟨(⟨pre ++ 60 :: 37 :: r, p2.length, ln pre, lines, outC out plain begun, [], begun⟩, ⟨⟨ob, oc⟩, ⟨pb, pc⟩⟩), ⟨⟨ok2.1, ok2.2⟩, rfl, rfl, rfl⟩, rfl, ?_⟩
        exact wkH_cons rfl (wkH_cons rfl (wkH_cons rfl (wkH_cons rfl (wkH_nil _))))
      obtain ⟨c, r3, rfl⟩ : ∃ c r3, r2 = c :: r3 := by
        cases r2 with
        | nil => simp at h0
        | cons c r3 => exact ⟨c, r3, rfl⟩
      have hlen := congrArg List.length hsp
      simp only [List.length_append, List.length_cons] at hlen
      have hlp := ln_bd p2
      rw [tgN_cons] at hX
      ((conv => whnf); (repeat ((first | refine BoxN.own ?_ | refine VrN.norm (wrap_i64 (by omega)) ?_ | refine VrN.keep ?_ | refine DrawN.calm (by decide +kernel) ?_ | refine Nd.mk (by decide +kernel) ?_ | refine Nd.mk (by omega) ?_ | (refine Nd.mk ?_ ?_; focus ((repeat' (first | exact trivial | exact wkE_refl _ | refine And.intro ?_ ?_)); done)) | refine RdN.intro _ rfl (by rfl) ?_); (conv => whnf)))); refine call1 (HasPrefix_c (c :: r3) [37, 37, 62] _) ?_
      ((conv => whnf); (repeat ((first | refine BoxN.own ?_ | refine VrN.norm (wrap_i64 (by omega)) ?_ | refine VrN.keep ?_ | refine DrawN.calm (by decide +kernel) ?_ | refine Nd.mk (by decide +kernel) ?_ | refine Nd.mk (by omega) ?_ | (refine Nd.mk ?_ ?_; focus ((repeat' (first | exact trivial | exact wkE_refl _ | refine And.intro ?_ ?_)); done)) | refine RdN.intro _ rfl (by rfl) ?_); (conv => whnf))))
      refine brd_intro (fun h1 => ?_) (fun h1 => ?_)
      · rw [if_pos h1] at hX
        obtain ⟨q, hq⟩ := pfx_split h1
        have htk : (c :: r3).take 3 = [37, 37, 62] := pfx_take h1
        have hdr : (c :: r3).drop 3 = q := by rw [hq]; rfl
        rw [htk, hdr] at hX
        have hq3 := congrArg List.length hq
        simp only [List.length_append, List.length_cons, List.length_nil] at hq3
        have ha : IntKind.wrap .i64 ((p2.length : Int) + 3) = ((p2 ++ [37, 37, 62]).length : Int) := by rw [wrap_i64 (by omega)]; simp
        ((conv => whnf); (repeat ((first | refine BoxN.own ?_ | refine VrN.norm (wrap_i64 (by omega)) ?_ | refine VrN.keep ?_ | refine DrawN.calm (by decide +kernel) ?_ | refine Nd.mk (by decide +kernel) ?_ | refine Nd.mk (by omega) ?_ | (refine Nd.mk ?_ ?_; focus ((repeat' (first | exact trivial | exact wkE_refl _ | refine And.intro ?_ ?_)); done)) | refine RdN.intro _ rfl (by rfl) ?_); (conv => whnf))))
        refine callG (WriteString_c true acc [37, 62] b hb (by simp; omega)) [5, 6] rfl ⟨rfl, rfl, trivial⟩ rfl fun b1 hb1 => ?_
        ((conv => whnf); (repeat ((first | refine BoxN.own ?_ | refine VrN.norm (wrap_i64 (by omega)) ?_ | refine VrN.keep ?_ | refine DrawN.calm (by decide +kernel) ?_ | refine Nd.mk (by decide +kernel) ?_ | refine Nd.mk (by omega) ?_ | (refine Nd.mk ?_ ?_; focus ((repeat' (first | exact trivial | exact wkE_refl _ | refine And.intro ?_ ?_)); done)) | refine RdN.intro _ rfl (by rfl) ?_); (conv => whnf))))
        refine ⟨⟨p2 ++ [37, 37, 62], q, acc ++ [37, 62], true, b1⟩, ⟨by rw [← hsp, hq]; simp, hX, hb1, by simp; omega⟩, by show q.length < (c :: r3).length; rw [hq]; simp; omega, ?_, ?_⟩
        · (repeat' (first | exact trivial | refine And.intro (by with_reducible rfl) ?_ | (with_reducible exact wkC_refl _) | (with_reducible exact wkCs_refl _) | refine And.intro ?_ ?_))
          all_goals rfl
        · have hl : ln (p2 ++ [37, 37, 62]) = ln p2 := by rw [ln_app]; rfl
          refine wkH_cons ?_ (wkH_cons rfl (wkH_cons rfl (wkH_cons rfl (wkH_cons rfl (wkH_cons rfl (wkH_cons rfl (wkH_nil _)))))))
          rw [ha, hl]
      rw [if_neg (by simp [h1])] at hX
      ((conv => whnf); (repeat ((first | refine BoxN.own ?_ | refine VrN.norm (wrap_i64 (by omega)) ?_ | refine VrN.keep ?_ | refine DrawN.calm (by decide +kernel) ?_ | refine Nd.mk (by decide +kernel) ?_ | refine Nd.mk (by omega) ?_ | (refine Nd.mk ?_ ?_; focus ((repeat' (first | exact trivial | exact wkE_refl _ | refine And.intro ?_ ?_)); done)) | refine RdN.intro _ rfl (by rfl) ?_); (conv => whnf)))); refine call1 (HasPrefix_c (c :: r3) [45, 37, 62] _) ?_
      ((conv => whnf); (repeat ((first | refine BoxN.own ?_ | refine VrN.norm (wrap_i64 (by omega)) ?_ | refine VrN.keep ?_ | refine DrawN.calm (by decide +kernel) ?_ | refine Nd.mk (by decide +kernel) ?_ | refine Nd.mk (by omega) ?_ | (refine Nd.mk ?_ ?_; focus ((repeat' (first | exact trivial | exact wkE_refl _ | refine And.intro ?_ ?_)); done)) | refine RdN.intro _ rfl (by rfl) ?_); (conv => whnf))))
      refine brd_intro (fun h2 => ?_) (fun h2 => ?_)
      · rw [if_pos h2] at hX
        obtain ⟨q, hq⟩ := pfx_split h2
        have htk : (c :: r3).take 3 = [45, 37, 62] := pfx_take h2
        have hdr : (c :: r3).drop 3 = q := by rw [hq]; rfl
        have hq3 := congrArg List.length hq
        simp only [List.length_append, List.length_cons, List.length_nil] at hq3
        have ha : IntKind.wrap .i64 ((p2.length : Int) + 3) = ((p2 ++ [45, 37, 62]).length : Int) := by rw [wrap_i64 (by omega)]; simp
        rw [hdr] at hX
        have hsq : pre ++ 60 :: 37 :: r = (p2 ++ [45, 37, 62]) ++ q := by rw [← hsp, hq]; simp
        ((conv => whnf); (repeat ((first | refine BoxN.own ?_ | refine VrN.norm (wrap_i64 (by omega)) ?_ | refine VrN.keep ?_ | refine DrawN.calm (by decide +kernel) ?_ | refine Nd.mk (by decide +kernel) ?_ | refine Nd.mk (by omega) ?_ | (refine Nd.mk ?_ ?_; focus ((repeat' (first | exact trivial | exact wkE_refl _ | refine And.intro ?_ ?_)); done)) | refine RdN.intro _ rfl (by rfl) ?_); (conv => whnf))))
        rw [ha]
        refine ReadW.sl_at (p2 ++ [45, 37, 62]) q hsq rfl (by kernel_rfl) rfl rfl rfl ?_
        ((conv => whnf); (repeat ((first | refine BoxN.own ?_ | refine VrN.norm (wrap_i64 (by omega)) ?_ | refine VrN.keep ?_ | refine DrawN.calm (by decide +kernel) ?_ | refine Nd.mk (by decide +kernel) ?_ | refine Nd.mk (by omega) ?_ | (refine Nd.mk ?_ ?_; focus ((repeat' (first | exact trivial | exact wkE_refl _ | refine And.intro ?_ ?_)); done)) | refine RdN.intro _ rfl (by rfl) ?_); (conv => whnf)))); refine callQ (HasPrefix_c q [10] _) ?_
        ((conv => whnf); (repeat ((first | refine BoxN.own ?_ | refine VrN.norm (wrap_i64 (by omega)) ?_ | refine VrN.keep ?_ | refine DrawN.calm (by decide +kernel) ?_ | refine Nd.mk (by decide +kernel) ?_ | refine Nd.mk (by omega) ?_ | (refine Nd.mk ?_ ?_; focus ((repeat' (first | exact trivial | exact wkE_refl _ | refine And.intro ?_ ?_)); done)) | refine RdN.intro _ rfl (by rfl) ?_); (conv => whnf))))
        refine brd_intro (fun h3 => ?_) (fun h3 => ?_)
        · rw [if_pos h3] at hX
          obtain ⟨q', hq'⟩ := pfx_split h3
          have htk4 : (c :: r3).take 4 = [45, 37, 62, 10] := by rw [hq, hq']; rfl
          rw [htk4] at hX
          have ha4 : IntKind.wrap .i64 (IntKind.wrap .i64 ((p2.length : Int) + 3) + 1) = ((p2 ++ [45, 37, 62, 10]).length : Int) := by rw [ha, wrap_i64 (by simp; omega)]; simp; omega
          rw [ha] at ha4
          have hl4 : IntKind.wrap .i64 (ln p2 + 1) = ln (p2 ++ [45, 37, 62, 10]) := by rw [wrap_i64 (by omega), ln_app]; rfl
          -- 2: the kind · plain: the text ahead · true: is the builder used · (p2 ++ [45, 37, 62, 10]): the prefix behind the tag · rw [ha4, hl4]: its place and line
          ((conv => whnf); (repeat ((first | refine BoxN.own ?_ | refine VrN.norm (wrap_i64 (by omega)) ?_ | refine VrN.keep ?_ | refine DrawN.calm (by decide +kernel) ?_ | refine Nd.mk (by decide +kernel) ?_ | refine Nd.mk (by omega) ?_ | (refine Nd.mk ?_ ?_; focus ((repeat' (first | exact trivial | exact wkE_refl _ | refine And.intro ?_ ?_)); done)) | refine RdN.intro _ rfl (by rfl) ?_); (conv => whnf))))
          refine callG (BString_c true acc b hb) [5, 6] rfl ⟨rfl, rfl, trivial⟩ rfl fun _ _ => ?_
          ((conv => whnf); (repeat ((first | refine BoxN.own ?_ | refine VrN.norm (wrap_i64 (by omega)) ?_ | refine VrN.keep ?_ | refine DrawN.calm (by decide +kernel) ?_ | refine Nd.mk (by decide +kernel) ?_ | refine Nd.mk (by omega) ?_ | (refine Nd.mk ?_ ?_; focus ((repeat' (first | exact trivial | exact wkE_refl _ | refine And.intro ?_ ?_)); done)) | refine RdN.intro _ rfl (by rfl) ?_); (conv => whnf))))
          refine DrawN.plan [0, 1] [(2, 1), (3, 1), (4, 1), (5, 1), (6, 0)] [(7, 0), (8, 0), (9, 0), (10, 0)] (by decide +kernel) ?_
          ((conv => whnf); (repeat ((first | refine BoxN.own ?_ | refine VrN.norm (wrap_i64 (by omega)) ?_ | refine VrN.keep ?_ | refine DrawN.calm (by decide +kernel) ?_ | refine Nd.mk (by decide +kernel) ?_ | refine Nd.mk (by omega) ?_ | (refine Nd.mk ?_ ?_; focus ((repeat' (first | exact trivial | exact wkE_refl _ | refine And.intro ?_ ?_)); done)) | refine RdN.intro _ rfl (by rfl) ?_); (conv => whnf))))
          refine Nd.mk ⟨by omega, rfl, rfl⟩ ?_
          (conv => whnf)
          refine AppN.grow 1 (partsC (outC out plain begun)) _ rfl rfl ⟨by omega, ⟨by show ((outC out plain begun).length + 1) * 32 ≤ _; omega, by show (outC out plain begun).length + 1 < _; omega⟩, by decide⟩ fun b' cap' h3 h4 => ?_
          ((conv => whnf); (repeat ((first | refine BoxN.own ?_ | refine VrN.norm (wrap_i64 (by omega)) ?_ | refine VrN.keep ?_ | refine DrawN.calm (by decide +kernel) ?_ | refine Nd.mk (by decide +kernel) ?_ | refine Nd.mk (by omega) ?_ | (refine Nd.mk ?_ ?_; focus ((repeat' (first | exact trivial | exact wkE_refl _ | refine And.intro ?_ ?_)); done)) | refine RdN.intro _ rfl (by rfl) ?_); (conv => whnf))))
          refine ⟨(⟨pre ++ 60 :: 37 :: r, ((p2 ++ [45, 37, 62, 10])).length, ln ((p2 ++ [45, 37, 62, 10])), lines, outC out plain begun ++ [⟨2, ln pre, acc⟩], [], begun⟩, ⟨⟨some b', cap'⟩, ⟨pb, pc⟩⟩), ⟨⟨⟨(fun h => by cases h), by rw [List.length_append]; exact h3, fun h => by have h : cap' = 0 := h; omega⟩, ok2.2⟩, rfl, rfl, by rw [← hX]; exact ⟨rfl, rfl, rfl, rfl⟩⟩, by rw [← hX]; rfl, ?_⟩
          refine wkH_cons ?_ (wkH_cons ?_ (wkH_cons rfl (wkH_cons rfl (wkH_nil _))))
          · rw [ha4, hl4]
            simp [at0]
          · simp [at0, partsC_app]
            exact ⟨rfl, rfl⟩
        · rw [if_neg (by simp [h3]), htk] at hX
          have hl3 : ln p2 = ln (p2 ++ [45, 37, 62]) := by rw [ln_app]; rfl
          -- 2: the kind · plain: the text ahead · true: is the builder used · (p2 ++ [45, 37, 62]): the prefix behind the tag · rw [hl3]: its place and line
          ((conv => whnf); (repeat ((first | refine BoxN.own ?_ | refine VrN.norm (wrap_i64 (by omega)) ?_ | refine VrN.keep ?_ | refine DrawN.calm (by decide +kernel) ?_ | refine Nd.mk (by decide +kernel) ?_ | refine Nd.mk (by omega) ?_ | (refine Nd.mk ?_ ?_; focus ((repeat' (first | exact trivial | exact wkE_refl _ | refine And.intro ?_ ?_)); done)) | refine RdN.intro _ rfl (by rfl) ?_); (conv => whnf))))
          refine callG (BString_c true acc b hb) [5, 6] rfl ⟨rfl, rfl, trivial⟩ rfl fun _ _ => ?_
          ((conv => whnf); (repeat ((first | refine BoxN.own ?_ | refine VrN.norm (wrap_i64 (by omega)) ?_ | refine VrN.keep ?_ | refine DrawN.calm (by decide +kernel) ?_ | refine Nd.mk (by decide +kernel) ?_ | refine Nd.mk (by omega) ?_ | (refine Nd.mk ?_ ?_; focus ((repeat' (first | exact trivial | exact wkE_refl _ | refine And.intro ?_ ?_)); done)) | refine RdN.intro _ rfl (by rfl) ?_); (conv => whnf))))
          refine DrawN.plan [0, 1] [(2, 1), (3, 1), (4, 1), (5, 1), (6, 0)] [(7, 0), (8, 0), (9, 0), (10, 0)] (by decide +kernel) ?_
          ((conv => whnf); (repeat ((first | refine BoxN.own ?_ | refine VrN.norm (wrap_i64 (by omega)) ?_ | refine VrN.keep ?_ | refine DrawN.calm (by decide +kernel) ?_ | refine Nd.mk (by decide +kernel) ?_ | refine Nd.mk (by omega) ?_ | (refine Nd.mk ?_ ?_; focus ((repeat' (first | exact trivial | exact wkE_refl _ | refine And.intro ?_ ?_)); done)) | refine RdN.intro _ rfl (by rfl) ?_); (conv => whnf))))
          refine Nd.mk ⟨by omega, rfl, rfl⟩ ?_
          (conv => whnf)
          refine AppN.grow 1 (partsC (outC out plain begun)) _ rfl rfl ⟨by omega, ⟨by show ((outC out plain begun).length + 1) * 32 ≤ _; omega, by show (outC out plain begun).length + 1 < _; omega⟩, by decide⟩ fun b' cap' h3 h4 => ?_
          ((conv => whnf); (repeat ((first | refine BoxN.own ?_ | refine VrN.norm (wrap_i64 (by omega)) ?_ | refine VrN.keep ?_ | refine DrawN.calm (by decide +kernel) ?_ | refine Nd.mk (by decide +kernel) ?_ | refine Nd.mk (by omega) ?_ | (refine Nd.mk ?_ ?_; focus ((repeat' (first | exact trivial | exact wkE_refl _ | refine And.intro ?_ ?_)); done)) | refine RdN.intro _ rfl (by rfl) ?_); (conv => whnf))))
          refine ⟨(⟨pre ++ 60 :: 37 :: r, ((p2 ++ [45, 37, 62])).length, ln ((p2 ++ [45, 37, 62])), lines, outC out plain begun ++ [⟨2, ln pre, acc⟩], [], begun⟩, ⟨⟨some b', cap'⟩, ⟨pb, pc⟩⟩), ⟨⟨⟨(fun h => by cases h), by rw [List.length_append]; exact h3, fun h => by have h : cap' = 0 := h; omega⟩, ok2.2⟩, rfl, rfl, by rw [← hX]; exact ⟨rfl, rfl, rfl, rfl⟩⟩, by rw [← hX]; rfl, ?_⟩
          refine wkH_cons ?_ (wkH_cons ?_ (wkH_cons rfl (wkH_cons rfl (wkH_nil _))))
          · rw [hl3]
            simp [at0]
          · simp [at0, partsC_app]
            exact ⟨rfl, rfl⟩
      rw [if_neg (by simp [h2])] at hX
      ((conv => whnf); (repeat ((first | refine BoxN.own ?_ | refine VrN.norm (wrap_i64 (by omega)) ?_ | refine VrN.keep ?_ | refine DrawN.calm (by decide +kernel) ?_ | refine Nd.mk (by decide +kernel) ?_ | refine Nd.mk (by omega) ?_ | (refine Nd.mk ?_ ?_; focus ((repeat' (first | exact trivial | exact wkE_refl _ | refine And.intro ?_ ?_)); done)) | refine RdN.intro _ rfl (by rfl) ?_); (conv => whnf)))); refine call1 (HasPrefix_c (c :: r3) [37, 62] _) ?_
      ((conv => whnf); (repeat ((first | refine BoxN.own ?_ | refine VrN.norm (wrap_i64 (by omega)) ?_ | refine VrN.keep ?_ | refine DrawN.calm (by decide +kernel) ?_ | refine Nd.mk (by decide +kernel) ?_ | refine Nd.mk (by omega) ?_ | (refine Nd.mk ?_ ?_; focus ((repeat' (first | exact trivial | exact wkE_refl _ | refine And.intro ?_ ?_)); done)) | refine RdN.intro _ rfl (by rfl) ?_); (conv => whnf))))
      refine brd_intro (fun h3 => ?_) (fun h3 => ?_)
      · rw [if_pos h3] at hX
        have htk : (c :: r3).take 2 = [37, 62] := pfx_take h3
        rw [htk] at hX
        have ha : IntKind.wrap .i64 ((p2.length : Int) + 2) = ((p2 ++ [37, 62]).length : Int) := by rw [wrap_i64 (by omega)]; simp
        have hl3 : ln p2 = ln (p2 ++ [37, 62]) := by rw [ln_app]; rfl
        -- 2: the kind · plain: the text ahead · true: is the builder used · (p2 ++ [37, 62]): the prefix behind the tag · rw [ha, hl3]: its place and line
        ((conv => whnf); (repeat ((first | refine BoxN.own ?_ | refine VrN.norm (wrap_i64 (by omega)) ?_ | refine VrN.keep ?_ | refine DrawN.calm (by decide +kernel) ?_ | refine Nd.mk (by decide +kernel) ?_ | refine Nd.mk (by omega) ?_ | (refine Nd.mk ?_ ?_; focus ((repeat' (first | exact trivial | exact wkE_refl _ | refine And.intro ?_ ?_)); done)) | refine RdN.intro _ rfl (by rfl) ?_); (conv => whnf))))
        refine callG (BString_c true acc b hb) [5, 6] rfl ⟨rfl, rfl, trivial⟩ rfl fun _ _ => ?_
        ((conv => whnf); (repeat ((first | refine BoxN.own ?_ | refine VrN.norm (wrap_i64 (by omega)) ?_ | refine VrN.keep ?_ | refine DrawN.calm (by decide +kernel) ?_ | refine Nd.mk (by decide +kernel) ?_ | refine Nd.mk (by omega) ?_ | (refine Nd.mk ?_ ?_; focus ((repeat' (first | exact trivial | exact wkE_refl _ | refine And.intro ?_ ?_)); done)) | refine RdN.intro _ rfl (by rfl) ?_); (conv => whnf))))
        refine DrawN.plan [0, 1] [(2, 1), (3, 1), (4, 1), (5, 1), (6, 0)] [(7, 0), (8, 0), (9, 0), (10, 0)] (by decide +kernel) ?_
        ((conv => whnf); (repeat ((first | refine BoxN.own ?_ | refine VrN.norm (wrap_i64 (by omega)) ?_ | refine VrN.keep ?_ | refine DrawN.calm (by decide +kernel) ?_ | refine Nd.mk (by decide +kernel) ?_ | refine Nd.mk (by omega) ?_ | (refine Nd.mk ?_ ?_; focus ((repeat' (first | exact trivial | exact wkE_refl _ | refine And.intro ?_ ?_)); done)) | refine RdN.intro _ rfl (by rfl) ?_); (conv => whnf))))
        refine Nd.mk ⟨by omega, rfl, rfl⟩ ?_
        (conv => whnf)
        refine AppN.grow 1 (partsC (outC out plain begun)) _ rfl rfl ⟨by omega, ⟨by show ((outC out plain begun).length + 1) * 32 ≤ _; omega, by show (outC out plain begun).length + 1 < _; omega⟩, by decide⟩ fun b' cap' h3 h4 => ?_
        ((conv => whnf); (repeat ((first | refine BoxN.own ?_ | refine VrN.norm (wrap_i64 (by omega)) ?_ | refine VrN.keep ?_ | refine DrawN.calm (by decide +kernel) ?_ | refine Nd.mk (by decide +kernel) ?_ | refine Nd.mk (by omega) ?_ | (refine Nd.mk ?_ ?_; focus ((repeat' (first | exact trivial | exact wkE_refl _ | refine And.intro ?_ ?_)); done)) | refine RdN.intro _ rfl (by rfl) ?_); (conv => whnf))))
        refine ⟨(⟨pre ++ 60 :: 37 :: r, ((p2 ++ [37, 62])).length, ln ((p2 ++ [37, 62])), lines, outC out plain begun ++ [⟨2, ln pre, acc⟩], [], begun⟩, ⟨⟨some b', cap'⟩, ⟨pb, pc⟩⟩), ⟨⟨⟨(fun h => by cases h), by rw [List.length_append]; exact h3, fun h => by have h : cap' = 0 := h; omega⟩, ok2.2⟩, rfl, rfl, by rw [← hX]; exact ⟨rfl, rfl, rfl, rfl⟩⟩, by rw [← hX]; rfl, ?_⟩
        refine wkH_cons ?_ (wkH_cons ?_ (wkH_cons rfl (wkH_cons rfl (wkH_nil _))))
        · rw [ha, hl3]
          simp [at0]
        · simp [at0, partsC_app]
          exact ⟨rfl, rfl⟩
      rw [if_neg (by simp [h3])] at hX
      have hb0 : byteAt (bs (c :: r3)) 0 = (c.toNat : Int) := byteAt_get rfl
      have ha : IntKind.wrap .i64 ((p2.length : Int) + 1) = ((p2 ++ [c]).length : Int) := by rw [wrap_i64 (by omega)]; simp
      have hl1 : IntKind.wrap .i64 (ln p2 + 1) = ln p2 + 1 := wrap_i64 (by omega)
      ((conv => whnf); (repeat ((first | refine BoxN.own ?_ | refine VrN.norm (wrap_i64 (by omega)) ?_ | refine VrN.keep ?_ | refine DrawN.calm (by decide +kernel) ?_ | refine Nd.mk (by decide +kernel) ?_ | refine Nd.mk (by omega) ?_ | (refine Nd.mk ?_ ?_; focus ((repeat' (first | exact trivial | exact wkE_refl _ | refine And.intro ?_ ?_)); done)) | refine RdN.intro _ rfl (by rfl) ?_); (conv => whnf))))
      refine Nd.mk ⟨by omega, by rw [bs_size]; simp⟩ ?_
      rw [show ((0 : Int).toNat) = 0 from rfl, hb0]
      ((conv => whnf); (repeat ((first | refine BoxN.own ?_ | refine VrN.norm (wrap_i64 (by omega)) ?_ | refine VrN.keep ?_ | refine DrawN.calm (by decide +kernel) ?_ | refine Nd.mk (by decide +kernel) ?_ | refine Nd.mk (by omega) ?_ | (refine Nd.mk ?_ ?_; focus ((repeat' (first | exact trivial | exact wkE_refl _ | refine And.intro ?_ ?_)); done)) | refine RdN.intro _ rfl (by rfl) ?_); (conv => whnf))))
      refine brd_eq (fun h4 => ?_) (fun h4 => ?_)
      · have hc : c = 10 := UInt8.toNat_inj.1 (by show c.toNat = 10; omega)
        have hl : ln (p2 ++ [c]) = ln p2 + 1 := by rw [ln_snoc, if_pos hc]
        ((conv => whnf); (repeat ((first | refine BoxN.own ?_ | refine VrN.norm (wrap_i64 (by omega)) ?_ | refine VrN.keep ?_ | refine DrawN.calm (by decide +kernel) ?_ | refine Nd.mk (by decide +kernel) ?_ | refine Nd.mk (by omega) ?_ | (refine Nd.mk ?_ ?_; focus ((repeat' (first | exact trivial | exact wkE_refl _ | refine And.intro ?_ ?_)); done)) | refine RdN.intro _ rfl (by rfl) ?_); (conv => whnf))))
        refine Nd.mk ⟨by omega, by rw [bs_size]; simp⟩ ?_
        rw [show ((0 : Int).toNat) = 0 from rfl, hb0]
        ((conv => whnf); (repeat ((first | refine BoxN.own ?_ | refine VrN.norm (wrap_i64 (by omega)) ?_ | refine VrN.keep ?_ | refine DrawN.calm (by decide +kernel) ?_ | refine Nd.mk (by decide +kernel) ?_ | refine Nd.mk (by omega) ?_ | (refine Nd.mk ?_ ?_; focus ((repeat' (first | exact trivial | exact wkE_refl _ | refine And.intro ?_ ?_)); done)) | refine RdN.intro _ rfl (by rfl) ?_); (conv => whnf))))
        refine callG (WriteByte_c true acc c b (by omega)) [5, 6] rfl ⟨rfl, rfl, trivial⟩ rfl fun b1 hb1 => ?_
        ((conv => whnf); (repeat ((first | refine BoxN.own ?_ | refine VrN.norm (wrap_i64 (by omega)) ?_ | refine VrN.keep ?_ | refine DrawN.calm (by decide +kernel) ?_ | refine Nd.mk (by decide +kernel) ?_ | refine Nd.mk (by omega) ?_ | (refine Nd.mk ?_ ?_; focus ((repeat' (first | exact trivial | exact wkE_refl _ | refine And.intro ?_ ?_)); done)) | refine RdN.intro _ rfl (by rfl) ?_); (conv => whnf))))
        refine ⟨⟨p2 ++ [c], r3, acc ++ [c], true, b1⟩, ⟨by rw [← hsp]; simp, hX, hb1, by simp; omega⟩, by show r3.length < (c :: r3).length; simp, ?_, ?_⟩
        · (repeat' (first | exact trivial | refine And.intro (by with_reducible rfl) ?_ | (with_reducible exact wkC_refl _) | (with_reducible exact wkCs_refl _) | refine And.intro ?_ ?_))
          all_goals rfl
        · refine wkH_cons ?_ (wkH_cons rfl (wkH_cons rfl (wkH_cons rfl (wkH_cons rfl (wkH_cons rfl (wkH_cons rfl (wkH_nil _)))))))
          rw [ha, hl1, hl]
      · have hc : ¬ c = 10 := fun h => h4 (by rw [h]; rfl)
        have hl : ln (p2 ++ [c]) = ln p2 := by rw [ln_snoc, if_neg hc]
        ((conv => whnf); (repeat ((first | refine BoxN.own ?_ | refine VrN.norm (wrap_i64 (by omega)) ?_ | refine VrN.keep ?_ | refine DrawN.calm (by decide +kernel) ?_ | refine Nd.mk (by decide +kernel) ?_ | refine Nd.mk (by omega) ?_ | (refine Nd.mk ?_ ?_; focus ((repeat' (first | exact trivial | exact wkE_refl _ | refine And.intro ?_ ?_)); done)) | refine RdN.intro _ rfl (by rfl) ?_); (conv => whnf))))
        refine Nd.mk ⟨by omega, by rw [bs_size]; simp⟩ ?_
        rw [show ((0 : Int).toNat) = 0 from rfl, hb0]
        ((conv => whnf); (repeat ((first | refine BoxN.own ?_ | refine VrN.norm (wrap_i64 (by omega)) ?_ | refine VrN.keep ?_ | refine DrawN.calm (by decide +kernel) ?_ | refine Nd.mk (by decide +kernel) ?_ | refine Nd.mk (by omega) ?_ | (refine Nd.mk ?_ ?_; focus ((repeat' (first | exact trivial | exact wkE_refl _ | refine And.intro ?_ ?_)); done)) | refine RdN.intro _ rfl (by rfl) ?_); (conv => whnf))))
        refine callG (WriteByte_c true acc c b (by omega)) [5, 6] rfl ⟨rfl, rfl, trivial⟩ rfl fun b1 hb1 => ?_
        ((conv => whnf); (repeat ((first | refine BoxN.own ?_ | refine VrN.norm (wrap_i64 (by omega)) ?_ | refine VrN.keep ?_ | refine DrawN.calm (by decide +kernel) ?_ | refine Nd.mk (by decide +kernel) ?_ | refine Nd.mk (by omega) ?_ | (refine Nd.mk ?_ ?_; focus ((repeat' (first | exact trivial | exact wkE_refl _ | refine And.intro ?_ ?_)); done)) | refine RdN.intro _ rfl (by rfl) ?_); (conv => whnf))))
        refine ⟨⟨p2 ++ [c], r3, acc ++ [c], true, b1⟩, ⟨by rw [← hsp]; simp, hX, hb1, by simp; omega⟩, by show r3.length < (c :: r3).length; simp, ?_, ?_⟩
        · (repeat' (first | exact trivial | refine And.intro (by with_reducible rfl) ?_ | (with_reducible exact wkC_refl _) | (with_reducible exact wkCs_refl _) | refine And.intro ?_ ?_))
          all_goals rfl
        · refine wkH_cons ?_ (wkH_cons rfl (wkH_cons rfl (wkH_cons rfl (wkH_cons rfl (wkH_cons rfl (wkH_cons rfl (wkH_nil _)))))))
          rw [ha, hl]
  ((conv => whnf); (repeat ((first | refine BoxN.own ?_ | refine VrN.norm (wrap_i64 (by omega)) ?_ | refine VrN.keep ?_ | refine DrawN.calm (by decide +kernel) ?_ | refine Nd.mk (by decide +kernel) ?_ | refine Nd.mk (by omega) ?_ | (refine Nd.mk ?_ ?_; focus ((repeat' (first | exact trivial | exact wkE_refl _ | refine And.intro ?_ ?_)); done)) | refine RdN.intro _ rfl (by rfl) ?_); (conv => whnf)))); refine call1 (HasPrefix_c r [35] _) ?_
  ((conv => whnf); (repeat ((first | refine BoxN.own ?_ | refine VrN.norm (wrap_i64 (by omega)) ?_ | refine VrN.keep ?_ | refine DrawN.calm (by decide +kernel) ?_ | refine Nd.mk (by decide +kernel) ?_ | refine Nd.mk (by omega) ?_ | (refine Nd.mk ?_ ?_; focus ((repeat' (first | exact trivial | exact wkE_refl _ | refine And.intro ?_ ?_)); done)) | refine RdN.intro _ rfl (by rfl) ?_); (conv => whnf))))
  refine brd_intro (fun h3 => ?_) (fun h3 => ?_)
  · obtain ⟨q, rfl⟩ := pfx_split h3
    have hop : opn ([35] ++ q) = (3, false, 1) := rfl
    rw [hop]
    simp only [Bool.false_eq_true, if_false]
    generalize hXd : tgN (pre ++ (60 :: 37 :: ([35] ++ q)).take (2 + 1)) (([35] ++ q).drop 1) [] = X
    have ok1 := ok
    generalize m = m1 at ok1
    generalize hr : ([35] ++ q : List UInt8) = r at *
    have hat1 : IntKind.wrap .i64 ((pre.length : Int) + 1) = ((pre.length + 1 : Nat) : Int) := by rw [wrap_i64 (by omega)]; omega
    have hat : IntKind.wrap .i64 (((pre.length + 1 : Nat) : Int) + 2) = ((pre ++ (60 :: 37 :: r).take (2 + 1)).length : Int) := by
      rw [wrap_i64 (by omega), ← hr]; simp; omega
    have hlt : ln pre = ln (pre ++ (60 :: 37 :: r).take (2 + 1)) := by rw [ln_app, ← hr]; rfl
    have hsp0 : pre ++ (60 :: 37 :: r).take (2 + 1) ++ r.drop 1 = pre ++ 60 :: 37 :: r := by rw [← hr]; simp
    -- 1: bytes behind '<%' · 3: the kind · plain: the text
    ((conv => whnf); (repeat ((first | refine BoxN.own ?_ | refine VrN.norm (wrap_i64 (by omega)) ?_ | refine VrN.keep ?_ | refine DrawN.calm (by decide +kernel) ?_ | refine Nd.mk (by decide +kernel) ?_ | refine Nd.mk (by omega) ?_ | (refine Nd.mk ?_ ?_; focus ((repeat' (first | exact trivial | exact wkE_refl _ | refine And.intro ?_ ?_)); done)) | refine RdN.intro _ rfl (by rfl) ?_); (conv => whnf))))
    rw [hat1]
    refine callG (flush_x (pre ++ 60 :: 37 :: r) (pre.length + 1) (ln pre) lines out plain begun m1 ok1 (by omega) (by omega)) [0, 1, 2] rfl ⟨rfl, rfl, rfl, trivial⟩ rfl fun m2 ok2 => ?_
    obtain ⟨⟨ob, oc⟩, ⟨pb, pc⟩⟩ := m2
    ((conv => whnf); (repeat ((first | refine BoxN.own ?_ | refine VrN.norm (wrap_i64 (by omega)) ?_ | refine VrN.keep ?_ | refine DrawN.calm (by decide +kernel) ?_ | refine Nd.mk (by decide +kernel) ?_ | refine Nd.mk (by omega) ?_ | (refine Nd.mk ?_ ?_; focus ((repeat' (first | exact trivial | exact wkE_refl _ | refine And.intro ?_ ?_)); done)) | refine RdN.intro _ rfl (by rfl) ?_); (conv => whnf))))
    refine LoopN.intro (List UInt8 × List UInt8 × List UInt8 × Bool × BSt) (fun ⟨p2, r2, acc, _, b⟩ => p2 ++ r2 = pre ++ 60 :: 37 :: r ∧ tgN p2 r2 acc = X ∧ b.ok acc.length ∧ acc.length ≤ p2.length) (fun ⟨_, _, _, _, _⟩ => mkS Tryz.f32.ntmps 0 [(0, .c (.lp 0 0)), (3, .c (.lp 4 0)), (5, .c (.lp 5 0))])
      (fun ⟨p2, _, acc, u, b⟩ => [.blk 44 [.v (.string (bs (pre ++ 60 :: 37 :: r))), .v (.int .i64 (p2.length : Int)), .v (.int .i64 (ln p2)), .v (.bool lines), .v (.slice (at0 ob) (outC out plain begun).length oc), .v (.slice (at0 pb) 0 pc), .v (.int .i64 begun)],
        .app 40 3 (partsC (outC out plain begun)) (at0 ob) (outC out plain begun).length oc, .app 5 1 [] (at0 pb) 0 pc, .fact MaxF, .blk 40 [.v (.int .i64 3), .v (.int .i64 (ln pre)), .v (.string ⟨#[]⟩)], .blk 52 [match u with | true => .lp 5 0 | false => .v (.pointer none), .v (.slice (at0 b.ob) acc.length b.cap)], .app 5 1 (u8s acc) (at0 b.ob) acc.length b.cap])
      (fun ⟨_, r2, _, _, _⟩ => r2.length) [.app 0 0 [] none 0 0] rfl
      (fun _ => rfl) (fun _ => rfl) (fun ⟨_, _, _, u, _⟩ _ => by cases u <;> exact okHB_eq rfl) ⟨⟨pre ++ (60 :: 37 :: r).take (2 + 1), r.drop 1, [], false, ⟨none, 0⟩⟩, ⟨hsp0, hXd, ⟨fun _ => ⟨rfl, rfl⟩, Nat.le_refl _, fun _ => rfl⟩, by simp⟩, ?_, ?_⟩ ?_
    · (repeat' (first | exact trivial | refine And.intro (by with_reducible rfl) ?_ | (with_reducible exact wkC_refl _) | (with_reducible exact wkCs_refl _) | refine And.intro ?_ ?_))
      all_goals rfl
    · refine wkH_cons ?_ (wkH_cons rfl (wkH_cons rfl (wkH_cons rfl (wkH_cons rfl (wkH_cons rfl ⟨wkE_nil, wkH_nil _⟩)))))
      simp only [rnCs, rnC]
      rw [hat, ← hlt]
      try rfl
    rintro ⟨p2, r2, acc, u, b⟩ ⟨hsp, hX, hb, hal⟩
    have hol := outC_len out plain begun
    cases u with
    | false =>
      ((conv => whnf); (repeat ((first | refine BoxN.own ?_ | refine VrN.norm (wrap_i64 (by omega)) ?_ | refine VrN.keep ?_ | refine DrawN.calm (by decide +kernel) ?_ | refine Nd.mk (by decide +kernel) ?_ | refine Nd.mk (by omega) ?_ | (refine Nd.mk ?_ ?_; focus ((repeat' (first | exact trivial | exact wkE_refl _ | refine And.intro ?_ ?_)); done)) | refine RdN.intro _ rfl (by rfl) ?_); (conv => whnf))))
      refine ReadW.sl_at p2 r2 hsp.symm rfl (by kernel_rfl) rfl rfl rfl ?_
      ((conv => whnf); (repeat ((first | refine BoxN.own ?_ | refine VrN.norm (wrap_i64 (by omega)) ?_ | refine VrN.keep ?_ | refine DrawN.calm (by decide +kernel) ?_ | refine Nd.mk (by decide +kernel) ?_ | refine Nd.mk (by omega) ?_ | (refine Nd.mk ?_ ?_; focus ((repeat' (first | exact trivial | exact wkE_refl _ | refine And.intro ?_ ?_)); done)) | refine RdN.intro _ rfl (by rfl) ?_); (conv => whnf))))
      rw [bs_list]
      refine brd_intro (fun h0 => ?_) (fun h0 => ?_)
      · have h0 : r2 = [] := by simpa using h0
        subst h0
        have hX : X = none := by rw [← hX]; rfl
        subst hX
        ((conv => whnf); (repeat ((first | refine BoxN.own ?_ | refine VrN.norm (wrap_i64 (by omega)) ?_ | refine VrN.keep ?_ | refine DrawN.calm (by decide +kernel) ?_ | refine Nd.mk (by decide +kernel) ?_ | refine Nd.mk (by omega) ?_ | (refine Nd.mk ?_ ?_; focus ((repeat' (first | exact trivial | exact wkE_refl _ | refine And.intro ?_ ?_)); done)) | refine RdN.intro _ rfl (by rfl) ?_); (conv => whnf))))
        refine ⟨(⟨pre ++ 60 :: 37 :: r, p2.length, ln pre, lines, outC out plain begun, [], begun⟩, ⟨⟨ob, oc⟩, ⟨pb, pc⟩⟩), ⟨⟨ok2.1, ok2.2⟩, rfl, rfl, rfl⟩, rfl, ?_⟩
        exact wkH_cons rfl (wkH_cons rfl (wkH_cons rfl (wkH_cons rfl (wkH_nil _))))
      obtain ⟨c, r3, rfl⟩ : ∃ c r3, r2 = c :: r3 := by
        cases r2 with
        | nil => simp at h0
        | cons c r3 => exact ⟨c, r3, rfl⟩
      have hlen := congrArg List.length hsp
      simp only [List.length_append, List.length_cons] at hlen
      have hlp := ln_bd p2
      rw [tgN_cons] at hX
      ((conv => whnf); (repeat ((first | refine BoxN.own ?_ | refine VrN.norm (wrap_i64 (by omega)) ?_ | refine VrN.keep ?_ | refine DrawN.calm (by decide +kernel) ?_ | refine Nd.mk (by decide +kernel) ?_ | refine Nd.mk (by omega) ?_ | (refine Nd.mk ?_ ?_; focus ((repeat' (first | exact trivial | exact wkE_refl _ | refine And.intro ?_ ?_)); done)) | refine RdN.intro _ rfl (by rfl) ?_); (conv => whnf)))); refine call1 (HasPrefix_c (c :: r3) [37, 37, 62] _) ?_
      ((conv => whnf); (repeat ((first | refine BoxN.own ?_ | refine VrN.norm (wrap_i64 (by omega)) ?_ | refine VrN.keep ?_ | refine DrawN.calm (by decide +kernel) ?_ | refine Nd.mk (by decide +kernel) ?_ | refine Nd.mk (by omega) ?_ | (refine Nd.mk ?_ ?_; focus ((repeat' (first | exact trivial | exact wkE_refl _ | refine And.intro ?_ ?_)); done)) | refine RdN.intro _ rfl (by rfl) ?_); (conv => whnf))))
      refine brd_intro (fun h1 => ?_) (fun h1 => ?_)
      · rw [if_pos h1] at hX
        obtain ⟨q, hq⟩ := pfx_split h1
        have htk : (c :: r3).take 3 = [37, 37, 62] := pfx_take h1
        have hdr : (c :: r3).drop 3 = q := by rw [hq]; rfl
        rw [htk, hdr] at hX
        have hq3 := congrArg List.length hq
        simp only [List.length_append, List.length_cons, List.length_nil] at hq3
        have ha : IntKind.wrap .i64 ((p2.length : Int) + 3) = ((p2 ++ [37, 37, 62]).length : Int) := by rw [wrap_i64 (by omega)]; simp
        ((conv => whnf); (repeat ((first | refine BoxN.own ?_ | refine VrN.norm (wrap_i64 (by omega)) ?_ | refine VrN.keep ?_ | refine DrawN.calm (by decide +kernel) ?_ | refine Nd.mk (by decide +kernel) ?_ | refine Nd.mk (by omega) ?_ | (refine Nd.mk ?_ ?_; focus ((repeat' (first | exact trivial | exact wkE_refl _ | refine And.intro ?_ ?_)); done)) | refine RdN.intro _ rfl (by rfl) ?_); (conv => whnf))))
        refine callG (WriteString_c false acc [37, 62] b hb (by simp; omega)) [5, 6] rfl ⟨rfl, rfl, trivial⟩ rfl fun b1 hb1 => ?_
        ((conv => whnf); (repeat ((first | refine BoxN.own ?_ | refine VrN.norm (wrap_i64 (by omega)) ?_ | refine VrN.keep ?_ | refine DrawN.calm (by decide +kernel) ?_ | refine Nd.mk (by decide +kernel) ?_ | refine Nd.mk (by omega) ?_ | (refine Nd.mk ?_ ?_; focus ((repeat' (first | exact trivial | exact wkE_refl _ | refine And.intro ?_ ?_)); done)) | refine RdN.intro _ rfl (by rfl) ?_); (conv => whnf))))
        refine ⟨⟨p2 ++ [37, 37, 62], q, acc ++ [37, 62], true, b1⟩, ⟨by rw [← hsp, hq]; simp, hX, hb1, by simp; omega⟩, by show q.length < (c :: r3).length; rw [hq]; simp; omega, ?_, ?_⟩
        · (repeat' (first | exact trivial | refine And.intro (by with_reducible rfl) ?_ | (with_reducible exact wkC_refl _) | (with_reducible exact wkCs_refl _) | refine And.intro ?_ ?_))
          all_goals rfl
        · have hl : ln (p2 ++ [37, 37, 62]) = ln p2 := by rw [ln_app]; rfl
          refine wkH_cons ?_ (wkH_cons rfl (wkH_cons rfl (wkH_cons rfl (wkH_cons rfl (wkH_cons rfl (wkH_cons rfl (wkH_nil _)))))))
          rw [ha, hl]
      rw [if_neg (by simp [h1])] at hX
      ((conv => whnf); (repeat ((first | refine BoxN.own ?_ | refine VrN.norm (wrap_i64 (by omega)) ?_ | refine VrN.keep ?_ | refine DrawN.calm (by decide +kernel) ?_ | refine Nd.mk (by decide +kernel) ?_ | refine Nd.mk (by omega) ?_ | (refine Nd.mk ?_ ?_; focus ((repeat' (first | exact trivial | exact wkE_refl _ | refine And.intro ?_ ?_)); done)) | refine RdN.intro _ rfl (by rfl) ?_); (conv => whnf)))); refine call1 (HasPrefix_c (c :: r3) [45, 37, 62] _) ?_
      ((conv => whnf); (repeat ((first | refine BoxN.own ?_ | refine VrN.norm (wrap_i64 (by omega)) ?_ | refine VrN.keep ?_ | refine DrawN.calm (by decide +kernel) ?_ | refine Nd.mk (by decide +kernel) ?_ | refine Nd.mk (by omega) ?_ | (refine Nd.mk ?_ ?_; focus ((repeat' (first | exact trivial | exact wkE_refl _ | refine And.intro ?_ ?_)); done)) | refine RdN.intro _ rfl (by rfl) ?_); (conv => whnf))))
      refine brd_intro (fun h2 => ?_) (fun h2 => ?_)
      · rw [if_pos h2] at hX
        obtain ⟨q, hq⟩ := pfx_split h2
        have htk : (c :: r3).take 3 = [45, 37, 62] := pfx_take h2
        have hdr : (c :: r3).drop 3 = q := by rw [hq]; rfl
        have hq3 := congrArg List.length hq
        simp only [List.length_append, List.length_cons, List.length_nil] at hq3
        have ha : IntKind.wrap .i64 ((p2.length : Int) + 3) = ((p2 ++ [45, 37, 62]).length : Int) := by rw [wrap_i64 (by omega)]; simp
        rw [hdr] at hX
        have hsq : pre ++ 60 :: 37 :: r = (p2 ++ [45, 37, 62]) ++ q := by rw [← hsp, hq]; simp
        ((conv => whnf); (repeat ((first | refine BoxN.own ?_ | refine VrN.norm (wrap_i64 (by omega)) ?_ | refine VrN.keep ?_ | refine DrawN.calm (by decide +kernel) ?_ | refine Nd.mk (by decide +kernel) ?_ | refine Nd.mk (by omega) ?_ | (refine Nd.mk ?_ ?_; focus ((repeat' (first | exact trivial | exact wkE_refl _ | refine And.intro ?_ ?_)); done)) | refine RdN.intro _ rfl (by rfl) ?_); (conv => whnf))))
        rw [ha]
        refine ReadW.sl_at (p2 ++ [45, 37, 62]) q hsq rfl (by kernel_rfl) rfl rfl rfl ?_
        ((conv => whnf); (repeat ((first | refine BoxN.own ?_ | refine VrN.norm (wrap_i64 (by omega)) ?_ | refine VrN.keep ?_ | refine DrawN.calm (by decide +kernel) ?_ | refine Nd.mk (by decide +kernel) ?_ | refine Nd.mk (by omega) ?_ | (refine Nd.mk ?_ ?_; focus ((repeat' (first | exact trivial | exact wkE_refl _ | refine And.intro ?_ ?_)); done)) | refine RdN.intro _ rfl (by rfl) ?_); (conv => whnf)))); refine callQ (HasPrefix_c q [10] _) ?_
        ((conv => whnf); (repeat ((first | refine BoxN.own ?_ | refine VrN.norm (wrap_i64 (by omega)) ?_ | refine VrN.keep ?_ | refine DrawN.calm (by decide +kernel) ?_ | refine Nd.mk (by decide +kernel) ?_ | refine Nd.mk (by omega) ?_ | (refine Nd.mk ?_ ?_; focus ((repeat' (first | exact trivial | exact wkE_refl _ | refine And.intro ?_ ?_)); done)) | refine RdN.intro _ rfl (by rfl) ?_); (conv => whnf))))
        refine brd_intro (fun h3 => ?_) (fun h3 => ?_)
        · rw [if_pos h3] at hX
          obtain ⟨q', hq'⟩ := pfx_split h3
          have htk4 : (c :: r3).take 4 = [45, 37, 62, 10] := by rw [hq, hq']; rfl
          rw [htk4] at hX
          have ha4 : IntKind.wrap .i64 (IntKind.wrap .i64 ((p2.length : Int) + 3) + 1) = ((p2 ++ [45, 37, 62, 10]).length : Int) := by rw [ha, wrap_i64 (by simp; omega)]; simp; omega
          rw [ha] at ha4
          have hl4 : IntKind.wrap .i64 (ln p2 + 1) = ln (p2 ++ [45, 37, 62, 10]) := by rw [wrap_i64 (by omega), ln_app]; rfl
          -- 3: the kind · plain: the text ahead · false: is the builder used · (p2 ++ [45, 37, 62, 10]): the prefix behind the tag · rw [ha4, hl4]: its place and line
          ((conv => whnf); (repeat ((first | refine BoxN.own ?_ | refine VrN.norm (wrap_i64 (by omega)) ?_ | refine VrN.keep ?_ | refine DrawN.calm (by decide +kernel) ?_ | refine Nd.mk (by decide +kernel) ?_ | refine Nd.mk (by omega) ?_ | (refine Nd.mk ?_ ?_; focus ((repeat' (first | exact trivial | exact wkE_refl _ | refine And.intro ?_ ?_)); done)) | refine RdN.intro _ rfl (by rfl) ?_); (conv => whnf))))
          refine callG (BString_c false acc b hb) [5, 6] rfl ⟨rfl, rfl, trivial⟩ rfl fun _ _ => ?_
          ((conv => whnf); (repeat ((first | refine BoxN.own ?_ | refine VrN.norm (wrap_i64 (by omega)) ?_ | refine VrN.keep ?_ | refine DrawN.calm (by decide +kernel) ?_ | refine Nd.mk (by decide +kernel) ?_ | refine Nd.mk (by omega) ?_ | (refine Nd.mk ?_ ?_; focus ((repeat' (first | exact trivial | exact wkE_refl _ | refine And.intro ?_ ?_)); done)) | refine RdN.intro _ rfl (by rfl) ?_); (conv => whnf))))
          refine DrawN.plan [0, 1] [(2, 1), (3, 1), (4, 1), (5, 1), (6, 0)] [(7, 0), (8, 0), (9, 0), (10, 0)] (by decide +kernel) ?_
          ((conv => whnf); (repeat ((first | refine BoxN.own ?_ | refine VrN.norm (wrap_i64 (by omega)) ?_ | refine VrN.keep ?_ | refine DrawN.calm (by decide +kernel) ?_ | refine Nd.mk (by decide +kernel) ?_ | refine Nd.mk (by omega) ?_ | (refine Nd.mk ?_ ?_; focus ((repeat' (first | exact trivial | exact wkE_refl _ | refine And.intro ?_ ?_)); done)) | refine RdN.intro _ rfl (by rfl) ?_); (conv => whnf))))
          refine Nd.mk ⟨by omega, rfl, rfl⟩ ?_
          (conv => whnf)
          refine AppN.grow 1 (partsC (outC out plain begun)) _ rfl rfl ⟨by omega, ⟨by show ((outC out plain begun).length + 1) * 32 ≤ _; omega, by show (outC out plain begun).length + 1 < _; omega⟩, by decide⟩ fun b' cap' h3 h4 => ?_
          ((conv => whnf); (repeat ((first | refine BoxN.own ?_ | refine VrN.norm (wrap_i64 (by omega)) ?_ | refine VrN.keep ?_ | refine DrawN.calm (by decide +kernel) ?_ | refine Nd.mk (by decide +kernel) ?_ | refine Nd.mk (by omega) ?_ | (refine Nd.mk ?_ ?_; focus ((repeat' (first | exact trivial | exact wkE_refl _ | refine And.intro ?_ ?_)); done)) | refine RdN.intro _ rfl (by rfl) ?_); (conv => whnf))))
          refine ⟨(⟨pre ++ 60 :: 37 :: r, ((p2 ++ [45, 37, 62, 10])).length, ln ((p2 ++ [45, 37, 62, 10])), lines, outC out plain begun ++ [⟨3, ln pre, acc⟩], [], begun⟩, ⟨⟨some b', cap'⟩, ⟨pb, pc⟩⟩), ⟨⟨⟨(fun h => by cases h), by rw [List.length_append]; exact h3, fun h => by have h : cap' = 0 := h; omega⟩, ok2.2⟩, rfl, rfl, by rw [← hX]; exact ⟨rfl, rfl, rfl, rfl⟩⟩, by rw [← hX]; rfl, ?_⟩
          refine wkH_cons ?_ (wkH_cons ?_ (wkH_cons rfl (wkH_cons rfl (wkH_nil _))))
          · rw [ha4, hl4]
            simp [at0]
          · simp [at0, partsC_app]
            exact ⟨rfl, rfl⟩
        · rw [if_neg (by simp [h3]), htk] at hX
          have hl3 : ln p2 = ln (p2 ++ [45, 37, 62]) := by rw [ln_app]; rfl
          -- 3: the kind · plain: the text ahead · false: is the builder used · (p2 ++ [45, 37, 62]): the prefix behind the tag · rw [hl3]: its place and line
          ((conv => whnf); (repeat ((first | refine BoxN.own ?_ | refine VrN.norm (wrap_i64 (by omega)) ?_ | refine VrN.keep ?_ | refine DrawN.calm (by decide +kernel) ?_ | refine Nd.mk (by decide +kernel) ?_ | refine Nd.mk (by omega) ?_ | (refine Nd.mk ?_ ?_; focus ((repeat' (first | exact trivial | exact wkE_refl _ | refine And.intro ?_ ?_)); done)) | refine RdN.intro _ rfl (by rfl) ?_); (conv => whnf))))
          refine callG (BString_c false acc b hb) [5, 6] rfl ⟨rfl, rfl, trivial⟩ rfl fun _ _ => ?_
          ((conv => whnf); (repeat ((first | refine BoxN.own ?_ | refine VrN.norm (wrap_i64 (by omega)) ?_ | refine VrN.keep ?_ | refine DrawN.calm (by decide +kernel) ?_ | refine Nd.mk (by decide +kernel) ?_ | refine Nd.mk (by omega) ?_ | (refine Nd.mk ?_ ?_; focus ((repeat' (first | exact trivial | exact wkE_refl _ | refine And.intro ?_ ?_)); done)) | refine RdN.intro _ rfl (by rfl) ?_); (conv => whnf))))
          refine DrawN.plan [0, 1] [(2, 1), (3, 1), (4, 1), (5, 1), (6, 0)] [(7, 0), (8, 0), (9, 0), (10, 0)] (by decide +kernel) ?_
          ((conv => whnf); (repeat ((first | refine BoxN.own ?_ | refine VrN.norm (wrap_i64 (by omega)) ?_ | refine VrN.keep ?_ | refine DrawN.calm (by decide +kernel) ?_ | refine Nd.mk (by decide +kernel) ?_ | refine Nd.mk (by omega) ?_ | (refine Nd.mk ?_ ?_; focus ((repeat' (first | exact trivial | exact wkE_refl _ | refine And.intro ?_ ?_)); done)) | refine RdN.intro _ rfl (by rfl) ?_); (conv => whnf))))
          refine Nd.mk ⟨by omega, rfl, rfl⟩ ?_
          (conv => whnf)
          refine AppN.grow 1 (partsC (outC out plain begun)) _ rfl rfl ⟨by omega, ⟨by show ((outC out plain begun).length + 1) * 32 ≤ _; omega, by show (outC out plain begun).length + 1 < _; omega⟩, by decide⟩ fun b' cap' h3 h4 => ?_
          ((conv => whnf); (repeat ((first | refine BoxN.own ?_ | refine VrN.norm (wrap_i64 (by omega)) ?_ | refine VrN.keep ?_ | refine DrawN.calm (by decide +kernel) ?_ | refine Nd.mk (by decide +kernel) ?_ | refine Nd.mk (by omega) ?_ | (refine Nd.mk ?_ ?_; focus ((repeat' (first | exact trivial | exact wkE_refl _ | refine And.intro ?_ ?_)); done)) | refine RdN.intro _ rfl (by rfl) ?_); (conv => whnf))))
          refine ⟨(⟨pre ++ 60 :: 37 :: r, ((p2 ++ [45, 37, 62])).length, ln ((p2 ++ [45, 37, 62])), lines, outC out plain begun ++ [⟨3, ln pre, acc⟩], [], begun⟩, ⟨⟨some b', cap'⟩, ⟨pb, pc⟩⟩), ⟨⟨⟨(fun h => by cases h), by rw [List.length_append]; exact h3, fun h => by have h : cap' = 0 := h; omega⟩, ok2.2⟩, rfl, rfl, by rw [← hX]; exact ⟨rfl, rfl, rfl, rfl⟩⟩, by rw [← hX]; rfl, ?_⟩
          refine wkH_cons ?_ (wkH_cons ?_ (wkH_cons rfl (wkH_cons rfl (wkH_nil _))))
          · rw [hl3]
            simp [at0]
          · simp [at0, partsC_app]
            exact ⟨rfl, rfl⟩
      rw [if_neg (by simp [h2])] at hX
      ((conv => whnf); (repeat ((first | refine BoxN.own ?_ | refine VrN.norm (wrap_i64 (by omega)) ?_ | refine VrN.keep ?_ | refine DrawN.calm (by decide +kernel) ?_ | refine Nd.mk (by decide +kernel) ?_ | refine Nd.mk (by omega) ?_ | (refine Nd.mk ?_ ?_; focus ((repeat' (first | exact trivial | exact wkE_refl _ | refine And.intro ?_ ?_)); done)) | refine RdN.intro _ rfl (by rfl) ?_); (conv => whnf)))); refine call1 (HasPrefix_c (c :: r3) [37, 62] _) ?_
      ((conv => whnf); (repeat ((first | refine BoxN.own ?_ | refine VrN.norm (wrap_i64 (by omega)) ?_ | refine VrN.keep ?_ | refine DrawN.calm (by decide +kernel) ?_ | refine Nd.mk (by decide +kernel) ?_ | refine Nd.mk (by omega) ?_ | (refine Nd.mk ?_ ?_; focus ((repeat' (first | exact trivial | exact wkE_refl _ | refine And.intro ?_ ?_)); done)) | refine RdN.intro _ rfl (by rfl) ?_); (conv => whnf))))
      refine brd_intro (fun h3 => ?_) (fun h3 => ?_)
      · rw [if_pos h3] at hX
        have htk : (c :: r3).take 2 = [37, 62] := pfx_take h3
        rw [htk] at hX
        have ha : IntKind.wrap .i64 ((p2.length : Int) + 2) = ((p2 ++ [37, 62]).length : Int) := by rw [wrap_i64 (by omega)]; simp
        have hl3 : ln p2 = ln (p2 ++ [37, 62]) := by rw [ln_app]; rfl
        -- 3: the kind · plain: the text ahead · false: is the builder used · (p2 ++ [37, 62]): the prefix behind the tag · rw [ha, hl3]: its place and line
        ((conv => whnf); (repeat ((first | refine BoxN.own ?_ | refine VrN.norm (wrap_i64 (by omega)) ?_ | refine VrN.keep ?_ | refine DrawN.calm (by decide +kernel) ?_ | refine Nd.mk (by decide +kernel) ?_ | refine Nd.mk (by omega) ?_ | (refine Nd.mk ?_ ?_; focus ((repeat' (first | exact trivial | exact wkE_refl _ | refine And.intro ?_ ?_)); done)) | refine RdN.intro _ rfl (by rfl) ?_); (conv => whnf))))
        refine callG (BString_c false acc b hb) [5, 6] rfl ⟨rfl, rfl, trivial⟩ rfl fun _ _ => ?_
        ((conv => whnf); (repeat ((first | refine BoxN.own ?_ | refine VrN.norm (wrap_i64 (by omega)) ?_ | refine VrN.keep ?_ | refine DrawN.calm (by decide +kernel) ?_ | refine Nd.mk (by decide +kernel) ?_ | refine Nd.mk (by omega) ?_ | (refine Nd.mk ?_ ?_; focus ((repeat' (first | exact trivial | exact wkE_refl _ | refine And.intro ?_ ?_)); done)) | refine RdN.intro _ rfl (by rfl) ?_); (conv => whnf))))
        refine DrawN.plan [0, 1] [(2, 1), (3, 1), (4, 1), (5, 1), (6, 0)] [(7, 0), (8, 0), (9, 0), (10, 0)] (by decide +kernel) ?_
        ((conv => whnf); (repeat ((first | refine BoxN.own ?_ | refine VrN.norm (wrap_i64 (by omega)) ?_ | refine VrN.keep ?_ | refine DrawN.calm (by decide +kernel) ?_ | refine Nd.mk (by decide +kernel) ?_ | refine Nd.mk (by omega) ?_ | (refine Nd.mk ?_ ?_; focus ((repeat' (first | exact trivial | exact wkE_refl _ | refine And.intro ?_ ?_)); done)) | refine RdN.intro _ rfl (by rfl) ?_); (conv => whnf))))
        refine Nd.mk ⟨by omega, rfl, rfl⟩ ?_
        (conv => whnf)
        refine AppN.grow 1 (partsC (outC out plain begun)) _ rfl rfl ⟨by omega, ⟨by show ((outC out plain begun).length + 1) * 32 ≤ _; omega, by show (outC out plain begun).length + 1 < _; omega⟩, by decide⟩ fun b' cap' h3 h4 => ?_
        ((conv => whnf); (repeat ((first | refine BoxN.own ?_ | refine VrN.norm (wrap_i64 (by omega)) ?_ | refine VrN.keep ?_ | refine DrawN.calm (by decide +kernel) ?_ | refine Nd.mk (by decide +kernel) ?_ | refine Nd.mk (by omega) ?_ | (refine Nd.mk ?_ ?_; focus ((repeat' (first | exact trivial | exact wkE_refl _ | refine And.intro ?_ ?_)); done)) | refine RdN.intro _ rfl (by rfl) ?_); (conv => whnf))))
        refine ⟨(⟨pre ++ 60 :: 37 :: r, ((p2 ++ [37, 62])).length, ln ((p2 ++ [37, 62])), lines, outC out plain begun ++ [⟨3, ln pre, acc⟩], [], begun⟩, ⟨⟨some b', cap'⟩, ⟨pb, pc⟩⟩), ⟨⟨⟨(fun h => by cases h), by rw [List.length_append]; exact h3, fun h => by have h : cap' = 0 := h; omega⟩, ok2.2⟩, rfl, rfl, by rw [← hX]; exact ⟨rfl, rfl, rfl, rfl⟩⟩, by rw [← hX]; rfl, ?_⟩
        refine wkH_cons ?_ (wkH_cons ?_ (wkH_cons rfl (wkH_cons rfl (wkH_nil _))))
        · rw [ha, hl3]
          simp [at0]
        · simp [at0, partsC_app]
          exact ⟨rfl, rfl⟩
      rw [if_neg (by simp [h3])] at hX
      have hb0 : byteAt (bs (c :: r3)) 0 = (c.toNat : Int) := byteAt_get rfl
      have ha : IntKind.wrap .i64 ((p2.length : Int) + 1) = ((p2 ++ [c]).length : Int) := by rw [wrap_i64 (by omega)]; simp
      have hl1 : IntKind.wrap .i64 (ln p2 + 1) = ln p2 + 1 := wrap_i64 (by omega)
      ((conv => whnf); (repeat ((first | refine BoxN.own ?_ | refine VrN.norm (wrap_i64 (by omega)) ?_ | refine VrN.keep ?_ | refine DrawN.calm (by decide +kernel) ?_ | refine Nd.mk (by decide +kernel) ?_ | refine Nd.mk (by omega) ?_ | (refine Nd.mk ?_ ?_; focus ((repeat' (first | exact trivial | exact wkE_refl _ | refine And.intro ?_ ?_)); done)) | refine RdN.intro _ rfl (by rfl) ?_); (conv => whnf))))
      refine Nd.mk ⟨by omega, by rw [bs_size]; simp⟩ ?_
      rw [show ((0 : Int).toNat) = 0 from rfl, hb0]
      ((conv => whnf); (repeat ((first | refine BoxN.own ?_ | refine VrN.norm (wrap_i64 (by omega)) ?_ | refine VrN.keep ?_ | refine DrawN.calm (by decide +kernel) ?_ | refine Nd.mk (by decide +kernel) ?_ | refine Nd.mk (by omega) ?_ | (refine Nd.mk ?_ ?_; focus ((repeat' (first | exact trivial | exact wkE_refl _ | refine And.intro ?_ ?_)); done)) | refine RdN.intro _ rfl (by rfl) ?_); (conv => whnf))))
      refine brd_eq (fun h4 => ?_) (fun h4 => ?_)
      · have hc : c = 10 := UInt8.toNat_inj.1 (by show c.toNat = 10; omega)
        have hl : ln (p2 ++ [c]) = ln p2 + 1 := by rw [ln_snoc, if_pos hc]
        ((conv => whnf); (repeat ((first | refine BoxN.own ?_ | refine VrN.norm (wrap_i64 (by omega)) ?_ | refine VrN.keep ?_ | refine DrawN.calm (by decide +kernel) ?_ | refine Nd.mk (by decide +kernel) ?_ | refine Nd.mk (by omega) ?_ | (refine Nd.mk ?_ ?_; focus ((repeat' (first | exact trivial | exact wkE_refl _ | refine And.intro ?_ ?_)); done)) | refine RdN.intro _ rfl (by rfl) ?_); (conv => whnf))))
        refine Nd.mk ⟨by omega, by rw [bs_size]; simp⟩ ?_
        rw [show ((0 : Int).toNat) = 0 from rfl, hb0]
        ((conv => whnf); (repeat ((first | refine BoxN.own ?_ | refine VrN.norm (wrap_i64 (by omega)) ?_ | refine VrN.keep ?_ | refine DrawN.calm (by decide +kernel) ?_ | refine Nd.mk (by decide +kernel) ?_ | refine Nd.mk (by omega) ?_ | (refine Nd.mk ?_ ?_; focus ((repeat' (first | exact trivial | exact wkE_refl _ | refine And.intro ?_ ?_)); done)) | refine RdN.intro _ rfl (by rfl) ?_); (conv => whnf))))
        refine callG (WriteByte_c false acc c b (by omega)) [5, 6] rfl ⟨rfl, rfl, trivial⟩ rfl fun b1 hb1 => ?_
        ((conv => whnf); (repeat ((first | refine BoxN.own ?_ | refine VrN.norm (wrap_i64 (by omega)) ?_ | refine VrN.keep ?_ | refine DrawN.calm (by decide +kernel) ?_ | refine Nd.mk (by decide +kernel) ?_ | refine Nd.mk (by omega) ?_ | (refine Nd.mk ?_ ?_; focus ((repeat' (first | exact trivial | exact wkE_refl _ | refine And.intro ?_ ?_)); done)) | refine RdN.intro _ rfl (by rfl) ?_); (conv => whnf))))
        refine ⟨⟨p2 ++ [c], r3, acc ++ [c], true, b1⟩, ⟨by rw [← hsp]; simp, hX, hb1, by simp; omega⟩, by show r3.length < (c :: r3).length; simp, ?_, ?_⟩
        · (repeat' (first | exact trivial | refine And.intro (by with_reducible rfl) ?_ | (with_reducible exact wkC_refl _) | (with_reducible exact wkCs_refl _) | refine And.intro ?_ ?_))
          all_goals rfl
        · refine wkH_cons ?_ (wkH_cons rfl (wkH_cons rfl (wkH_cons rfl (wkH_cons rfl (wkH_cons rfl (wkH_cons rfl (wkH_nil _)))))))
          rw [ha, hl1, hl]
      · have hc : ¬ c = 10 := fun h => h4 (by rw [h]; rfl)
        have hl : ln (p2 ++ [c]) = ln p2 := by rw [ln_snoc, if_neg hc]
        ((conv => whnf); (repeat ((first | refine BoxN.own ?_ | refine VrN.norm (wrap_i64 (by omega)) ?_ | refine VrN.keep ?_ | refine DrawN.calm (by decide +kernel) ?_ | refine Nd.mk (by decide +kernel) ?_ | refine Nd.mk (by omega) ?_ | (refine Nd.mk ?_ ?_; focus ((repeat' (first | exact trivial | exact wkE_refl _ | refine And.intro ?_ ?_)); done)) | refine RdN.intro _ rfl (by rfl) ?_); (conv => whnf))))
        refine Nd.mk ⟨by omega, by rw [bs_size]; simp⟩ ?_
        rw [show ((0 : Int).toNat) = 0 from rfl, hb0]
        ((conv => whnf); (repeat ((first | refine BoxN.own ?_ | refine VrN.norm (wrap_i64 (by omega)) ?_ | refine VrN.keep ?_ | refine DrawN.calm (by decide +kernel) ?_ | refine Nd.mk (by decide +kernel) ?_ | refine Nd.mk (by omega) ?_ | (refine Nd.mk ?_ ?_; focus ((repeat' (first | exact trivial | exact wkE_refl _ | refine And.intro ?_ ?_)); done)) | refine RdN.intro _ rfl (by rfl) ?_); (conv => whnf))))
        refine callG (WriteByte_c false acc c b (by omega)) [5, 6] rfl ⟨rfl, rfl, trivial⟩ rfl fun b1 hb1 => ?_
        ((conv => whnf); (repeat ((first | refine BoxN.own ?_ | refine VrN.norm (wrap_i64 (by omega)) ?_ | refine VrN.keep ?_ | refine DrawN.calm (by decide +kernel) ?_ | refine Nd.mk (by decide +kernel) ?_ | refine Nd.mk (by omega) ?_ | (refine Nd.mk ?_ ?_; focus ((repeat' (first | exact trivial | exact wkE_refl _ | refine And.intro ?_ ?_)); done)) | refine RdN.intro _ rfl (by rfl) ?_); (conv => whnf))))
        refine ⟨⟨p2 ++ [c], r3, acc ++ [c], true, b1⟩, ⟨by rw [← hsp]; simp, hX, hb1, by simp; omega⟩, by show r3.length < (c :: r3).length; simp, ?_, ?_⟩
        · (repeat' (first | exact trivial | refine And.intro (by with_reducible rfl) ?_ | (with_reducible exact wkC_refl _) | (with_reducible exact wkCs_refl _) | refine And.intro ?_ ?_))
          all_goals rfl
        · refine wkH_cons ?_ (wkH_cons rfl (wkH_cons rfl (wkH_cons rfl (wkH_cons rfl (wkH_cons rfl (wkH_cons rfl (wkH_nil _)))))))
          rw [ha, hl]
    | true =>
      ((conv => whnf); (repeat ((first | refine BoxN.own ?_ | refine VrN.norm (wrap_i64 (by omega)) ?_ | refine VrN.keep ?_ | refine DrawN.calm (by decide +kernel) ?_ | refine Nd.mk (by decide +kernel) ?_ | refine Nd.mk (by omega) ?_ | (refine Nd.mk ?_ ?_; focus ((repeat' (first | exact trivial | exact wkE_refl _ | refine And.intro ?_ ?_)); done)) | refine RdN.intro _ rfl (by rfl) ?_); (conv => whnf))))
      refine ReadW.sl_at p2 r2 hsp.symm rfl (by kernel_rfl) rfl rfl rfl ?_
      ((conv => whnf); (repeat ((first | refine BoxN.own ?_ | refine VrN.norm (wrap_i64 (by omega)) ?_ | refine VrN.keep ?_ | refine DrawN.calm (by decide +kernel) ?_ | refine Nd.mk (by decide +kernel) ?_ | refine Nd.mk (by omega) ?_ | (refine Nd.mk ?_ ?_; focus ((repeat' (first | exact trivial | exact wkE_refl _ | refine And.intro ?_ ?_)); done)) | refine RdN.intro _ rfl (by rfl) ?_); (conv => whnf))))
      rw [bs_list]
      refine brd_intro (fun h0 => ?_) (fun h0 => ?_)
      · have h0 : r2 = [] := by simpa using h0
        subst h0
        have hX : X = none := by rw [← hX]; rfl
        subst hX
        ((conv => whnf); (repeat ((first | refine BoxN.own ?_ | refine VrN.norm (wrap_i64 (by omega)) ?_ | refine VrN.keep ?_ | refine DrawN.calm (by decide +kernel) ?_ | refine Nd.mk (by decide +kernel) ?_ | refine Nd.mk (by omega) ?_ | (refine Nd.mk ?_ ?_; focus ((repeat' (first | exact trivial | exact wkE_refl _ | refine And.intro ?_ ?_)); done)) | refine RdN.intro _ rfl (by rfl) ?_); (conv => whnf))))
        refine ⟨(⟨pre ++ 60 :: 37 :: r, p2.length, ln pre, lines, outC out plain begun, [], begun⟩, ⟨⟨ob, oc⟩, ⟨pb, pc⟩⟩), ⟨⟨ok2.1, ok2.2⟩, rfl, rfl, rfl⟩, rfl, ?_⟩
        exact wkH_cons rfl (wkH_cons rfl (wkH_cons rfl (wkH_cons rfl (wkH_nil _))))
      obtain ⟨c, r3, rfl⟩ : ∃ c r3, r2 = c :: r3 := by
        cases r2 with
        | nil => simp at h0
        | cons c r3 => exact ⟨c, r3, rfl⟩
      have hlen := congrArg List.length hsp
      simp only [List.length_append, List.length_cons] at hlen
      have hlp := ln_bd p2
      rw [tgN_cons] at hX
      ((conv => whnf); (repeat ((first | refine BoxN.own ?_ | refine VrN.norm (wrap_i64 (by omega)) ?_ | refine VrN.keep ?_ | refine DrawN.calm (by decide +kernel) ?_ | refine Nd.mk (by decide +kernel) ?_ | refine Nd.mk (by omega) ?_ | (refine Nd.mk ?_ ?_; focus ((repeat' (first | exact trivial | exact wkE_refl _ | refine And.intro ?_ ?_)); done)) | refine RdN.intro _ rfl (by rfl) ?_); (conv => whnf)))); refine call1 (HasPrefix_c (c :: r3) [37, 37, 62] _) ?_
      ((conv => whnf); (repeat ((first | refine BoxN.own ?_ | refine VrN.norm (wrap_i64 (by omega)) ?_ | refine VrN.keep ?_ | refine DrawN.calm (by decide +kernel) ?_ | refine Nd.mk (by decide +kernel) ?_ | refine Nd.mk (by omega) ?_ | (refine Nd.mk ?_ ?_; focus ((repeat' (first | exact trivial | exact wkE_refl _ | refine And.intro ?_ ?_)); done)) | refine RdN.intro _ rfl (by rfl) ?_); (conv => whnf))))
      refine brd_intro (fun h1 => ?_) (fun h1 => ?_)
      · rw [if_pos h1] at hX
        obtain ⟨q, hq⟩ := pfx_split h1
        have htk : (c :: r3).take 3 = [37, 37, 62] := pfx_take h1
        have hdr : (c :: r3).drop 3 = q := by rw [hq]; rfl
        rw [htk, hdr] at hX
        have hq3 := congrArg List.length hq
        simp only [List.length_append, List.length_cons, List.length_nil] at hq3
        have ha : IntKind.wrap .i64 ((p2.length : Int) + 3) = ((p2 ++ [37, 37, 62]).length : Int) := by rw [wrap_i64 (by omega)]; simp
        ((conv => whnf); (repeat ((first | refine BoxN.own ?_ | refine VrN.norm (wrap_i64 (by omega)) ?_ | refine VrN.keep ?_ | refine DrawN.calm (by decide +kernel) ?_ | refine Nd.mk (by decide +kernel) ?_ | refine Nd.mk (by omega) ?_ | (refine Nd.mk ?_ ?_; focus ((repeat' (first | exact trivial | exact wkE_refl _ | refine And.intro ?_ ?_)); done)) | refine RdN.intro _ rfl (by rfl) ?_); (conv => whnf))))
        refine callG (WriteString_c true acc [37, 62] b hb (by simp; omega)) [5, 6] rfl ⟨rfl, rfl, trivial⟩ rfl fun b1 hb1 => ?_
        ((conv => whnf); (repeat ((first | refine BoxN.own ?_ | refine VrN.norm (wrap_i64 (by omega)) ?_ | refine VrN.keep ?_ | refine DrawN.calm (by decide +kernel) ?_ | refine Nd.mk (by decide +kernel) ?_ | refine Nd.mk (by omega) ?_ | (refine Nd.mk ?_ ?_; focus ((repeat' (first | exact trivial | exact wkE_refl _ | refine And.intro ?_ ?_)); done)) | refine RdN.intro _ rfl (by rfl) ?_); (conv => whnf))))
        refine ⟨⟨p2 ++ [37, 37, 62], q, acc ++ [37, 62], true, b1⟩, ⟨by rw [← hsp, hq]; simp, hX, hb1, by simp; omega⟩, by show q.length < (c :: r3).length; rw [hq]; simp; omega, ?_, ?_⟩
        · (repeat' (first | exact trivial | refine And.intro (by with_reducible rfl) ?_ | (with_reducible exact wkC_refl _) | (with_reducible exact wkCs_refl _) | refine And.intro ?_ ?_))
          all_goals rfl
        · have hl : ln (p2 ++ [37, 37, 62]) = ln p2 := by rw [ln_app]; rfl
          refine wkH_cons ?_ (wkH_cons rfl (wkH_cons rfl (wkH_cons rfl (wkH_cons rfl (wkH_cons rfl (wkH_cons rfl (wkH_nil _)))))))
          rw [ha, hl]
      rw [if_neg (by simp [h1])] at hX
      ((conv => whnf); (repeat ((first | refine BoxN.own ?_ | refine VrN.norm (wrap_i64 (by omega)) ?_ | refine VrN.keep ?_ | refine DrawN.calm (by decide +kernel) ?_ | refine Nd.mk (by decide +kernel) ?_ | refine Nd.mk (by omega) ?_ | (refine Nd.mk ?_ ?_; focus ((repeat' (first | exact trivial | exact wkE_refl _ | refine And.intro ?_ ?_)); done)) | refine RdN.intro _ rfl (by rfl) ?_); (conv => whnf)))); refine call1 (HasPrefix_c (c :: r3) [45, 37, 62] _) ?_
      ((conv => whnf); (repeat ((first | refine BoxN.own ?_ | refine VrN.norm (wrap_i64 (by omega)) ?_ | refine VrN.keep ?_ | refine DrawN.calm (by decide +kernel) ?_ | refine Nd.mk (by decide +kernel) ?_ | refine Nd.mk (by omega) ?_ | (refine Nd.mk ?_ ?_; focus ((repeat' (first | exact trivial | exact wkE_refl _ | refine And.intro ?_ ?_)); done)) | refine RdN.intro _ rfl (by rfl) ?_); (conv => whnf))))
      refine brd_intro (fun h2 => ?_) (fun h2 => ?_)
      · rw [if_pos h2] at hX
        obtain ⟨q, hq⟩ := pfx_split h2
        have htk : (c :: r3).take 3 = [45, 37, 62] := pfx_take h2
        have hdr : (c :: r3).drop 3 = q := by rw [hq]; rfl
        have hq3 := congrArg List.length hq
        simp only [List.length_append, List.length_cons, List.length_nil] at hq3
        have ha : IntKind.wrap .i64 ((p2.length : Int) + 3) = ((p2 ++ [45, 37, 62]).length : Int) := by rw [wrap_i64 (by omega)]; simp
        rw [hdr] at hX
        have hsq : pre ++ 60 :: 37 :: r = (p2 ++ [45, 37, 62]) ++ q := by rw [← hsp, hq]; simp
        ((conv => whnf); (repeat ((first | refine BoxN.own ?_ | refine VrN.norm (wrap_i64 (by omega)) ?_ | refine VrN.keep ?_ | refine DrawN.calm (by decide +kernel) ?_ | refine Nd.mk (by decide +kernel) ?_ | refine Nd.mk (by omega) ?_ | (refine Nd.mk ?_ ?_; focus ((repeat' (first | exact trivial | exact wkE_refl _ | refine And.intro ?_ ?_)); done)) | refine RdN.intro _ rfl (by rfl) ?_); (conv => whnf))))
        rw [ha]
        refine ReadW.sl_at (p2 ++ [45, 37, 62]) q hsq rfl (by kernel_rfl) rfl rfl rfl ?_
        ((conv => whnf); (repeat ((first | refine BoxN.own ?_ | refine VrN.norm (wrap_i64 (by omega)) ?_ | refine VrN.keep ?_ | refine DrawN.calm (by decide +kernel) ?_ | refine Nd.mk (by decide +kernel) ?_ | refine Nd.mk (by omega) ?_ | (refine Nd.mk ?_ ?_; focus ((repeat' (first | exact trivial | exact wkE_refl _ | refine And.intro ?_ ?_)); done)) | refine RdN.intro _ rfl (by rfl) ?_); (conv => whnf)))); refine callQ (HasPrefix_c q [10] _) ?_
        ((conv => whnf); (repeat ((first | refine BoxN.own ?_ | refine VrN.norm (wrap_i64 (by omega)) ?_ | refine VrN.keep ?_ | refine DrawN.calm (by decide +kernel) ?_ | refine Nd.mk (by decide +kernel) ?_ | refine Nd.mk (by omega) ?_ | (refine Nd.mk ?_ ?_; focus ((repeat' (first | exact trivial | exact wkE_refl _ | refine And.intro ?_ ?_)); done)) | refine RdN.intro _ rfl (by rfl) ?_); (conv => whnf))))
        refine brd_intro (fun h3 => ?_) (fun h3 => ?_)
        · rw [if_pos h3] at hX
          obtain ⟨q', hq'⟩ := pfx_split h3
          have htk4 : (c :: r3).take 4 = [45, 37, 62, 10] := by rw [hq, hq']; rfl
          rw [htk4] at hX
          have ha4 : IntKind.wrap .i64 (IntKind.wrap .i64 ((p2.length : Int) + 3) + 1) = ((p2 ++ [45, 37, 62, 10]).length : Int) := by rw [ha, wrap_i64 (by simp; omega)]; simp; omega
          rw [ha] at ha4
          have hl4 : IntKind.wrap .i64 (ln p2 + 1) = ln (p2 ++ [45, 37, 62, 10]) := by rw [wrap_i64 (by omega), ln_app]; rfl
          -- 3: the kind · plain: the text ahead · true: is the builder used · (p2 ++ [45, 37, 62, 10]): the prefix behind the tag · rw [ha4, hl4]: its place and line
          ((conv => whnf); (repeat ((first | refine BoxN.own ?_ | refine VrN.norm (wrap_i64 (by omega)) ?_ | refine VrN.keep ?_ | refine DrawN.calm (by decide +kernel) ?_ | refine Nd.mk (by decide +kernel) ?_ | refine Nd.mk (by omega) ?_ | (refine Nd.mk ?_ ?_; focus ((repeat' (first | exact trivial | exact wkE_refl _ | refine And.intro ?_ ?_)); done)) | refine RdN.intro _ rfl (by rfl) ?_); (conv => whnf))))
          refine callG (BString_c true acc b hb) [5, 6] rfl ⟨rfl, rfl, trivial⟩ rfl fun _ _ => ?_
          ((conv => whnf); (repeat ((first | refine BoxN.own ?_ | refine VrN.norm (wrap_i64 (by omega)) ?_ | refine VrN.keep ?_ | refine DrawN.calm (by decide +kernel) ?_ | refine Nd.mk (by decide +kernel) ?_ | refine Nd.mk (by omega) ?_ | (refine Nd.mk ?_ ?_; focus ((repeat' (first | exact trivial | exact wkE_refl _ | refine And.intro ?_ ?_)); done)) | refine RdN.intro _ rfl (by rfl) ?_); (conv => whnf))))
          refine DrawN.plan [0, 1] [(2, 1), (3, 1), (4, 1), (5, 1), (6, 0)] [(7, 0), (8, 0), (9, 0), (10, 0)] (by decide +kernel) ?_
          ((conv => whnf); (repeat ((first | refine BoxN.own ?_ | refine VrN.norm (wrap_i64 (by omega)) ?_ | refine VrN.keep ?_ | refine DrawN.calm (by decide +kernel) ?_ | refine Nd.mk (by decide +kernel) ?_ | refine Nd.mk (by omega) ?_ | (refine Nd.mk ?_ ?_; focus ((repeat' (first | exact trivial | exact wkE_refl _ | refine And.intro ?_ ?_)); done)) | refine RdN.intro _ rfl (by rfl) ?_); (conv => whnf))))
          refine Nd.mk ⟨by omega, rfl, rfl⟩ ?_
          (conv => whnf)
          refine AppN.grow 1 (partsC (outC out plain begun)) _ rfl rfl ⟨by omega, ⟨by show ((outC out plain begun).length + 1) * 32 ≤ _; omega, by show (outC out plain begun).length + 1 < _; omega⟩, by decide⟩ fun b' cap' h3 h4 => ?_
          ((conv => whnf); (repeat ((first | refine BoxN.own ?_ | refine VrN.norm (wrap_i64 (by omega)) ?_ | refine VrN.keep ?_ | refine DrawN.calm (by decide +kernel) ?_ | refine Nd.mk (by decide +kernel) ?_ | refine Nd.mk (by omega) ?_ | (refine Nd.mk ?_ ?_; focus ((repeat' (first | exact trivial | exact wkE_refl _ | refine And.intro ?_ ?_)); done)) | refine RdN.intro _ rfl (by rfl) ?_); (conv => whnf))))
          refine ⟨(⟨pre ++ 60 :: 37 :: r, ((p2 ++ [45, 37, 62, 10])).length, ln ((p2 ++ [45, 37, 62, 10])), lines, outC out plain begun ++ [⟨3, ln pre, acc⟩], [], begun⟩, ⟨⟨some b', cap'⟩, ⟨pb, pc⟩⟩), ⟨⟨⟨(fun h => by cases h), by rw [List.length_append]; exact h3, fun h => by have h : cap' = 0 := h; omega⟩, ok2.2⟩, rfl, rfl, by rw [← hX]; exact ⟨rfl, rfl, rfl, rfl⟩⟩, by rw [← hX]; rfl, ?_⟩
          refine wkH_cons ?_ (wkH_cons ?_ (wkH_cons rfl (wkH_cons rfl (wkH_nil _))))
          · rw [ha4, hl4]
            simp [at0]
          · simp [at0, partsC_app]
            exact ⟨rfl, rfl⟩
        · rw [if_neg (by simp [h3]), htk] at hX
          have hl3 : ln p2 = ln (p2 ++ [45, 37, 62]) := by rw [ln_app]; rfl
          -- 3: the kind · plain: the text ahead · true: is the builder used · (p2 ++ [45, 37, 62]): the prefix behind the tag · rw [hl3]: its place and line
          ((conv => whnf); (repeat ((first | refine BoxN.own ?_ | refine VrN.norm (wrap_i64 (by omega)) ?_ | refine VrN.keep ?_ | refine DrawN.calm (by decide +kernel) ?_ | refine Nd.mk (by decide +kernel) ?_ | refine Nd.mk (by omega) ?_ | (refine Nd.mk ?_ ?_; focus ((repeat' (first | exact trivial | exact wkE_refl _ | refine And.intro ?_ ?_)); done)) | refine RdN.intro _ rfl (by rfl) ?_); (conv => whnf))))
          refine callG (BString_c true acc b hb) [5, 6] rfl ⟨rfl, rfl, trivial⟩ rfl fun _ _ => ?_
          ((conv => whnf); (repeat ((first | refine BoxN.own ?_ | refine VrN.norm (wrap_i64 (by omega)) ?_ | refine VrN.keep ?_ | refine DrawN.calm (by decide +kernel) ?_ | refine Nd.mk (by decide +kernel) ?_ | refine Nd.mk (by omega) ?_ | (refine Nd.mk ?_ ?_; focus ((repeat' (first | exact trivial | exact wkE_refl _ | refine And.intro ?_ ?_)); done)) | refine RdN.intro _ rfl (by rfl) ?_); (conv => whnf))))
          refine DrawN.plan [0, 1] [(2, 1), (3, 1), (4, 1), (5, 1), (6, 0)] [(7, 0), (8, 0), (9, 0), (10, 0)] (by decide +kernel) ?_
          ((conv => whnf); (repeat ((first | refine BoxN.own ?_ | refine VrN.norm (wrap_i64 (by omega)) ?_ | refine VrN.keep ?_ | refine DrawN.calm (by decide +kernel) ?_ | refine Nd.mk (by decide +kernel) ?_ | refine Nd.mk (by omega) ?_ | (refine Nd.mk ?_ ?_; focus ((repeat' (first | exact trivial | exact wkE_refl _ | refine And.intro ?_ ?_)); done)) | refine RdN.intro _ rfl (by rfl) ?_); (conv => whnf))))
          refine Nd.mk ⟨by omega, rfl, rfl⟩ ?_
          (conv => whnf)
          refine AppN.grow 1 (partsC (outC out plain begun)) _ rfl rfl ⟨by omega, ⟨by show ((outC out plain begun).length + 1) * 32 ≤ _; omega, by show (outC out plain begun).length + 1 < _; omega⟩, by decide⟩ fun b' cap' h3 h4 => ?_
          ((conv => whnf); (repeat ((first | refine BoxN.own ?_ | refine VrN.norm (wrap_i64 (by omega)) ?_ | refine VrN.keep ?_ | refine DrawN.calm (by decide +kernel) ?_ | refine Nd.mk (by decide +kernel) ?_ | refine Nd.mk (by omega) ?_ | (refine Nd.mk ?_ ?_; focus ((repeat' (first | exact trivial | exact wkE_refl _ | refine And.intro ?_ ?_)); done)) | refine RdN.intro _ rfl (by rfl) ?_); (conv => whnf))))
          refine ⟨(⟨pre ++ 60 :: 37 :: r, ((p2 ++ [45, 37, 62])).length, ln ((p2 ++ [45, 37, 62])), lines, outC out plain begun ++ [⟨3, ln pre, acc⟩], [], begun⟩, ⟨⟨some b', cap'⟩, ⟨pb, pc⟩⟩), ⟨⟨⟨(fun h => by cases h), by rw [List.length_append]; exact h3, fun h => by have h : cap' = 0 := h; omega⟩, ok2.2⟩, rfl, rfl, by rw [← hX]; exact ⟨rfl, rfl, rfl, rfl⟩⟩, by rw [← hX]; rfl, ?_⟩
          refine wkH_cons ?_ (wkH_cons ?_ (wkH_cons rfl (wkH_cons rfl (wkH_nil _))))
          · rw [hl3]
            simp [at0]
          · simp [at0, partsC_app]
            exact ⟨rfl, rfl⟩
      rw [if_neg (by simp [h2])] at hX
      ((conv => whnf); (repeat ((first | refine BoxN.own ?_ | refine VrN.norm (wrap_i64 (by omega)) ?_ | refine VrN.keep ?_ | refine DrawN.calm (by decide +kernel) ?_ | refine Nd.mk (by decide +kernel) ?_ | refine Nd.mk (by omega) ?_ | (refine Nd.mk ?_ ?_; focus ((repeat' (first | exact trivial | exact wkE_refl _ | refine And.intro ?_ ?_)); done)) | refine RdN.intro _ rfl (by rfl) ?_); (conv => whnf)))); refine call1 (HasPrefix_c (c :: r3) [37, 62] _) ?_
      ((conv => whnf); (repeat ((first | refine BoxN.own ?_ | refine VrN.norm (wrap_i64 (by omega)) ?_ | refine VrN.keep ?_ | refine DrawN.calm (by decide +kernel) ?_ | refine Nd.mk (by decide +kernel) ?_ | refine Nd.mk (by omega) ?_ | (refine Nd.mk ?_ ?_; focus ((repeat' (first | exact trivial | exact wkE_refl _ | refine And.intro ?_ ?_)); done)) | refine RdN.intro _ rfl (by rfl) ?_); (conv => whnf))))
      refine brd_intro (fun h3 => ?_) (fun h3 => ?_)
      · rw [if_pos h3] at hX
        have htk : (c :: r3).take 2 = [37, 62] := pfx_take h3
        rw [htk] at hX
        have ha : IntKind.wrap .i64 ((p2.length : Int) + 2) = ((p2 ++ [37, 62]).length : Int) := by rw [wrap_i64 (by omega)]; simp
        have hl3 : ln p2 = ln (p2 ++ [37, 62]) := by rw [ln_app]; rfl
        -- 3: the kind · plain: the text ahead · true: is the builder used · (p2 ++ [37, 62]): the prefix behind the tag · rw [ha, hl3]: its place and line
        ((conv => whnf); (repeat ((first | refine BoxN.own ?_ | refine VrN.norm (wrap_i64 (by omega)) ?_ | refine VrN.keep ?_ | refine DrawN.calm (by decide +kernel) ?_ | refine Nd.mk (by decide +kernel) ?_ | refine Nd.mk (by omega) ?_ | (refine Nd.mk ?_ ?_; focus ((repeat' (first | exact trivial | exact wkE_refl _ | refine And.intro ?_ ?_)); done)) | refine RdN.intro _ rfl (by rfl) ?_); (conv => whnf))))
        refine callG (BString_c true acc b hb) [5, 6] rfl ⟨rfl, rfl, trivial⟩ rfl fun _ _ => ?_
        ((conv => whnf); (repeat ((first | refine BoxN.own ?_ | refine VrN.norm (wrap_i64 (by omega)) ?_ | refine VrN.keep ?_ | refine DrawN.calm (by decide +kernel) ?_ | refine Nd.mk (by decide +kernel) ?_ | refine Nd.mk (by omega) ?_ | (refine Nd.mk ?_ ?_; focus ((repeat' (first | exact trivial | exact wkE_refl _ | refine And.intro ?_ ?_)); done)) | refine RdN.intro _ rfl (by rfl) ?_); (conv => whnf))))
        refine DrawN.plan [0, 1] [(2, 1), (3, 1), (4, 1), (5, 1), (6, 0)] [(7, 0), (8, 0), (9, 0), (10, 0)] (by decide +kernel) ?_
        ((conv => whnf); (repeat ((first | refine BoxN.own ?_ | refine VrN.norm (wrap_i64 (by omega)) ?_ | refine VrN.keep ?_ | refine DrawN.calm (by decide +kernel) ?_ | refine Nd.mk (by decide +kernel) ?_ | refine Nd.mk (by omega) ?_ | (refine Nd.mk ?_ ?_; focus ((repeat' (first | exact trivial | exact wkE_refl _ | refine And.intro ?_ ?_)); done)) | refine RdN.intro _ rfl (by rfl) ?_); (conv => whnf))))
        refine Nd.mk ⟨by omega, rfl, rfl⟩ ?_
        (conv => whnf)
        refine AppN.grow 1 (partsC (outC out plain begun)) _ rfl rfl ⟨by omega, ⟨by show ((outC out plain begun).length + 1) * 32 ≤ _; omega, by show (outC out plain begun).length + 1 < _; omega⟩, by decide⟩ fun b' cap' h3 h4 => ?_
        ((conv => whnf); (repeat ((first | refine BoxN.own ?_ | refine VrN.norm (wrap_i64 (by omega)) ?_ | refine VrN.keep ?_ | refine DrawN.calm (by decide +kernel) ?_ | refine Nd.mk (by decide +kernel) ?_ | refine Nd.mk (by omega) ?_ | (refine Nd.mk ?_ ?_; focus ((repeat' (first | exact trivial | exact wkE_refl _ | refine And.intro ?_ ?_)); done)) | refine RdN.intro _ rfl (by rfl) ?_); (conv => whnf))))
        refine ⟨(⟨pre ++ 60 :: 37 :: r, ((p2 ++ [37, 62])).length, ln ((p2 ++ [37, 62])), lines, outC out plain begun ++ [⟨3, ln pre, acc⟩], [], begun⟩, ⟨⟨some b', cap'⟩, ⟨pb, pc⟩⟩), ⟨⟨⟨(fun h => by cases h), by rw [List.length_append]; exact h3, fun h => by have h : cap' = 0 := h; omega⟩, ok2.2⟩, rfl, rfl, by rw [← hX]; exact ⟨rfl, rfl, rfl, rfl⟩⟩, by rw [← hX]; rfl, ?_⟩
        refine wkH_cons ?_ (wkH_cons ?_ (wkH_cons rfl (wkH_cons rfl (wkH_nil _))))
        · rw [ha, hl3]
          simp [at0]
        · simp [at0, partsC_app]
          exact ⟨rfl, rfl⟩
      rw [if_neg (by simp [h3])] at hX
      have hb0 : byteAt (bs (c :: r3)) 0 = (c.toNat : Int) := byteAt_get rfl
      have ha : IntKind.wrap .i64 ((p2.length : Int) + 1) = ((p2 ++ [c]).length : Int) := by rw [wrap_i64 (by omega)]; simp
      have hl1 : IntKind.wrap .i64 (ln p2 + 1) = ln p2 + 1 := wrap_i64 (by omega)
      ((conv => whnf); (repeat ((first | refine BoxN.own ?_ | refine VrN.norm (wrap_i64 (by omega)) ?_ | refine VrN.keep ?_ | refine DrawN.calm (by decide +kernel) ?_ | refine Nd.mk (by decide +kernel) ?_ | refine Nd.mk (by omega) ?_ | (refine Nd.mk ?_ ?_; focus ((repeat' (first | exact trivial | exact wkE_refl _ | refine And.intro ?_ ?_)); done)) | refine RdN.intro _ rfl (by rfl) ?_); (conv => whnf))))
      refine Nd.mk ⟨by omega, by rw [bs_size]; simp⟩ ?_
      rw [show ((0 : Int).toNat) = 0 from rfl, hb0]
      ((conv => whnf); (repeat ((first | refine BoxN.own ?_ | refine VrN.norm (wrap_i64 (by omega)) ?_ | refine VrN.keep ?_ | refine DrawN.calm (by decide +kernel) ?_ | refine Nd.mk (by decide +kernel) ?_ | refine Nd.mk (by omega) ?_ | (refine Nd.mk ?_ ?_; focus ((repeat' (first | exact trivial | exact wkE_refl _ | refine And.intro ?_ ?_)); done)) | refine RdN.intro _ rfl (by rfl) ?_); (conv => whnf))))
      refine brd_eq (fun h4 => ?_) (fun h4 => ?_)
      · have hc : c = 10 := UInt8.toNat_inj.1 (by show c.toNat = 10; omega)
        have hl : ln (p2 ++ [c]) = ln p2 + 1 := by rw [ln_snoc, if_pos hc]
        ((conv => whnf); (repeat ((first | refine BoxN.own ?_ | refine VrN.norm (wrap_i64 (by omega)) ?_ | refine VrN.keep ?_ | refine DrawN.calm (by decide +kernel) ?_ | refine Nd.mk (by decide +kernel) ?_ | refine Nd.mk (by omega) ?_ | (refine Nd.mk ?_ ?_; focus ((repeat' (first | exact trivial | exact wkE_refl _ | refine And.intro ?_ ?_)); done)) | refine RdN.intro _ rfl (by rfl) ?_); (conv => whnf))))
        refine Nd.mk ⟨by omega, by rw [bs_size]; simp⟩ ?_
        rw [show ((0 : Int).toNat) = 0 from rfl, hb0]
        ((conv => whnf); (repeat ((first | refine BoxN.own ?_ | refine VrN.norm (wrap_i64 (by omega)) ?_ | refine VrN.keep ?_ | refine DrawN.calm (by decide +kernel) ?_ | refine Nd.mk (by decide +kernel) ?_ | refine Nd.mk (by omega) ?_ | (refine Nd.mk ?_ ?_; focus ((repeat' (first | exact trivial | exact wkE_refl _ | refine And.intro ?_ ?_)); done)) | refine RdN.intro _ rfl (by rfl) ?_); (conv => whnf))))
        refine callG (WriteByte_c true acc c b (by omega)) [5, 6] rfl ⟨rfl, rfl, trivial⟩ rfl fun b1 hb1 => ?_
        ((conv => whnf); (repeat ((first | refine BoxN.own ?_ | refine VrN.norm (wrap_i64 (by omega)) ?_ | refine VrN.keep ?_ | refine DrawN.calm (by decide +kernel) ?_ | refine Nd.mk (by decide +kernel) ?_ | refine Nd.mk (by omega) ?_ | (refine Nd.mk ?_ ?_; focus ((repeat' (first | exact trivial | exact wkE_refl _ | refine And.intro ?_ ?_)); done)) | refine RdN.intro _ rfl (by rfl) ?_); (conv => whnf))))
        refine ⟨⟨p2 ++ [c], r3, acc ++ [c], true, b1⟩, ⟨by rw [← hsp]; simp, hX, hb1, by simp; omega⟩, by show r3.length < (c :: r3).length; simp, ?_, ?_⟩
        · (repeat' (first | exact trivial | refine And.intro (by with_reducible rfl) ?_ | (with_reducible exact wkC_refl _) | (with_reducible exact wkCs_refl _) | refine And.intro ?_ ?_))
          all_goals rfl
        · refine wkH_cons ?_ (wkH_cons rfl (wkH_cons rfl (wkH_cons rfl (wkH_cons rfl (wkH_cons rfl (wkH_cons rfl (wkH_nil _)))))))
          rw [ha, hl1, hl]
      · have hc : ¬ c = 10 := fun h => h4 (by rw [h]; rfl)
        have hl : ln (p2 ++ [c]) = ln p2 := by rw [ln_snoc, if_neg hc]
        ((conv => whnf); (repeat ((first | refine BoxN.own ?_ | refine VrN.norm (wrap_i64 (by omega)) ?_ | refine VrN.keep ?_ | refine DrawN.calm (by decide +kernel) ?_ | refine Nd.mk (by decide +kernel) ?_ | refine Nd.mk (by omega) ?_ | (refine Nd.mk ?_ ?_; focus ((repeat' (first | exact trivial | exact wkE_refl _ | refine And.intro ?_ ?_)); done)) | refine RdN.intro _ rfl (by rfl) ?_); (conv => whnf))))
        refine Nd.mk ⟨by omega, by rw [bs_size]; simp⟩ ?_
        rw [show ((0 : Int).toNat) = 0 from rfl, hb0]
        ((conv => whnf); (repeat ((first | refine BoxN.own ?_ | refine VrN.norm (wrap_i64 (by omega)) ?_ | refine VrN.keep ?_ | refine DrawN.calm (by decide +kernel) ?_ | refine Nd.mk (by decide +kernel) ?_ | refine Nd.mk (by omega) ?_ | (refine Nd.mk ?_ ?_; focus ((repeat' (first | exact trivial | exact wkE_refl _ | refine And.intro ?_ ?_)); done)) | refine RdN.intro _ rfl (by rfl) ?_); (conv => whnf))))
        refine callG (WriteByte_c true acc c b (by omega)) [5, 6] rfl ⟨rfl, rfl, trivial⟩ rfl fun b1 hb1 => ?_
        ((conv => whnf); (repeat ((first | refine BoxN.own ?_ | refine VrN.norm (wrap_i64 (by omega)) ?_ | refine VrN.keep ?_ | refine DrawN.calm (by decide +kernel) ?_ | refine Nd.mk (by decide +kernel) ?_ | refine Nd.mk (by omega) ?_ | (refine Nd.mk ?_ ?_; focus ((repeat' (first | exact trivial | exact wkE_refl _ | refine And.intro ?_ ?_)); done)) | refine RdN.intro _ rfl (by rfl) ?_); (conv => whnf))))
        refine ⟨⟨p2 ++ [c], r3, acc ++ [c], true, b1⟩, ⟨by rw [← hsp]; simp, hX, hb1, by simp; omega⟩, by show r3.length < (c :: r3).length; simp, ?_, ?_⟩
        · (repeat' (first | exact trivial | refine And.intro (by with_reducible rfl) ?_ | (with_reducible exact wkC_refl _) | (with_reducible exact wkCs_refl _) | refine And.intro ?_ ?_))
          all_goals rfl
        · refine wkH_cons ?_ (wkH_cons rfl (wkH_cons rfl (wkH_cons rfl (wkH_cons rfl (wkH_cons rfl (wkH_cons rfl (wkH_nil _)))))))
          rw [ha, hl]
  have hop : opn r = (1, false, 0) := by
    unfold opn
    cases r with
    | nil => rfl
    | cons c r => simp [List.isPrefixOf] at h h2 h3; simp [show ¬ c = 45 from fun e => h e.symm, show ¬ c = 61 from fun e => h2 e.symm, show ¬ c = 35 from fun e => h3 e.symm]
  rw [hop]
  simp only [Nat.add_zero, Bool.false_eq_true, if_false]
  generalize hXd : tgN (pre ++ (60 :: 37 :: r).take 2) (r.drop 0) [] = X
  have ok1 := ok
  generalize m = m1 at ok1
  have hsp0 : pre ++ (60 :: 37 :: r).take 2 ++ r.drop 0 = pre ++ 60 :: 37 :: r := by simp
  have hat : IntKind.wrap .i64 (((pre.length + 0 : Nat) : Int) + 2) = ((pre ++ (60 :: 37 :: r).take 2).length : Int) := by rw [wrap_i64 (by omega)]; simp
  have hlt : ln pre = ln (pre ++ (60 :: 37 :: r).take 2) := by rw [ln_app]; rfl
  -- 0: bytes behind '<%' · 1: the kind · plain: the text
  ((conv => whnf); (repeat ((first | refine BoxN.own ?_ | refine VrN.norm (wrap_i64 (by omega)) ?_ | refine VrN.keep ?_ | refine DrawN.calm (by decide +kernel) ?_ | refine Nd.mk (by decide +kernel) ?_ | refine Nd.mk (by omega) ?_ | (refine Nd.mk ?_ ?_; focus ((repeat' (first | exact trivial | exact wkE_refl _ | refine And.intro ?_ ?_)); done)) | refine RdN.intro _ rfl (by rfl) ?_); (conv => whnf))))
  skip
  refine callG (flush_x (pre ++ 60 :: 37 :: r) (pre.length + 0) (ln pre) lines out plain begun m1 ok1 (by omega) (by omega)) [0, 1, 2] rfl ⟨rfl, rfl, rfl, trivial⟩ rfl fun m2 ok2 => ?_
  obtain ⟨⟨ob, oc⟩, ⟨pb, pc⟩⟩ := m2
  ((conv => whnf); (repeat ((first | refine BoxN.own ?_ | refine VrN.norm (wrap_i64 (by omega)) ?_ | refine VrN.keep ?_ | refine DrawN.calm (by decide +kernel) ?_ | refine Nd.mk (by decide +kernel) ?_ | refine Nd.mk (by omega) ?_ | (refine Nd.mk ?_ ?_; focus ((repeat' (first | exact trivial | exact wkE_refl _ | refine And.intro ?_ ?_)); done)) | refine RdN.intro _ rfl (by rfl) ?_); (conv => whnf))))
  refine LoopN.intro (List UInt8 × List UInt8 × List UInt8 × Bool × BSt) (fun ⟨p2, r2, acc, _, b⟩ => p2 ++ r2 = pre ++ 60 :: 37 :: r ∧ tgN p2 r2 acc = X ∧ b.ok acc.length ∧ acc.length ≤ p2.length) (fun ⟨_, _, _, _, _⟩ => mkS Tryz.f32.ntmps 0 [(0, .c (.lp 0 0)), (3, .c (.lp 4 0)), (5, .c (.lp 5 0))])
    (fun ⟨p2, _, acc, u, b⟩ => [.blk 44 [.v (.string (bs (pre ++ 60 :: 37 :: r))), .v (.int .i64 (p2.length : Int)), .v (.int .i64 (ln p2)), .v (.bool lines), .v (.slice (at0 ob) (outC out plain begun).length oc), .v (.slice (at0 pb) 0 pc), .v (.int .i64 begun)],
      .app 40 3 (partsC (outC out plain begun)) (at0 ob) (outC out plain begun).length oc, .app 5 1 [] (at0 pb) 0 pc, .fact MaxF, .blk 40 [.v (.int .i64 1), .v (.int .i64 (ln pre)), .v (.string ⟨#[]⟩)], .blk 52 [match u with | true => .lp 5 0 | false => .v (.pointer none), .v (.slice (at0 b.ob) acc.length b.cap)], .app 5 1 (u8s acc) (at0 b.ob) acc.length b.cap])
    (fun ⟨_, r2, _, _, _⟩ => r2.length) [.app 0 0 [] none 0 0] rfl
    (fun _ => rfl) (fun _ => rfl) (fun ⟨_, _, _, u, _⟩ _ => by cases u <;> exact okHB_eq rfl) ⟨⟨pre ++ (60 :: 37 :: r).take (2 + 0), r.drop 0, [], false, ⟨none, 0⟩⟩, ⟨hsp0, hXd, ⟨fun _ => ⟨rfl, rfl⟩, Nat.le_refl _, fun _ => rfl⟩, by simp⟩, ?_, ?_⟩ ?_
  · (repeat' (first | exact trivial | refine And.intro (by with_reducible rfl) ?_ | (with_reducible exact wkC_refl _) | (with_reducible exact wkCs_refl _) | refine And.intro ?_ ?_))
    all_goals rfl
  · refine wkH_cons ?_ (wkH_cons rfl (wkH_cons rfl (wkH_cons rfl (wkH_cons rfl (wkH_cons rfl ⟨wkE_nil, wkH_nil _⟩)))))
    simp only [rnCs, rnC]
    rw [hat, ← hlt]
    try rfl
  rintro ⟨p2, r2, acc, u, b⟩ ⟨hsp, hX, hb, hal⟩
  have hol := outC_len out plain begun
  cases u with
  | false =>
    ((conv => whnf); (repeat ((first | refine BoxN.own ?_ | refine VrN.norm (wrap_i64 (by omega)) ?_ | refine VrN.keep ?_ | refine DrawN.calm (by decide +kernel) ?_ | refine Nd.mk (by decide +kernel) ?_ | refine Nd.mk (by omega) ?_ | (refine Nd.mk ?_ ?_; focus ((repeat' (first | exact trivial | exact wkE_refl _ | refine And.intro ?_ ?_)); done)) | refine RdN.intro _ rfl (by rfl) ?_); (conv => whnf))))
    refine ReadW.sl_at p2 r2 hsp.symm rfl (by kernel_rfl) rfl rfl rfl ?_
    ((conv => whnf); (repeat ((first | refine BoxN.own ?_ | refine VrN.norm (wrap_i64 (by omega)) ?_ | refine VrN.keep ?_ | refine DrawN.calm (by decide +kernel) ?_ | refine Nd.mk (by decide +kernel) ?_ | refine Nd.mk (by omega) ?_ | (refine Nd.mk ?_ ?_; focus ((repeat' (first | exact trivial | exact wkE_refl _ | refine And.intro ?_ ?_)); done)) | refine RdN.intro _ rfl (by rfl) ?_); (conv => whnf))))
    rw [bs_list]
    refine brd_intro (fun h0 => ?_) (fun h0 => ?_)
    · have h0 : r2 = [] := by simpa using h0
      subst h0
      have hX : X = none := by rw [← hX]; rfl
      subst hX
      ((conv => whnf); (repeat ((first | refine BoxN.own ?_ | refine VrN.norm (wrap_i64 (by omega)) ?_ | refine VrN.keep ?_ | refine DrawN.calm (by decide +kernel) ?_ | refine Nd.mk (by decide +kernel) ?_ | refine Nd.mk (by omega) ?_ | (refine Nd.mk ?_ ?_; focus ((repeat' (first | exact trivial | exact wkE_refl _ | refine And.intro ?_ ?_)); done)) | refine RdN.intro _ rfl (by rfl) ?_); (conv => whnf))))
      refine ⟨(⟨pre ++ 60 :: 37 :: r, p2.length, ln pre, lines, outC out plain begun, [], begun⟩, ⟨⟨ob, oc⟩, ⟨pb, pc⟩⟩), ⟨⟨ok2.1, ok2.2⟩, rfl, rfl, rfl⟩, rfl, ?_⟩
      exact wkH_cons rfl (wkH_cons rfl (wkH_cons rfl (wkH_cons rfl (wkH_nil _))))
    obtain ⟨c, r3, rfl⟩ : ∃ c r3, r2 = c :: r3 := by
      cases r2 with
      | nil => simp at h0
      | cons c r3 => exact ⟨c, r3, rfl⟩
    have hlen := congrArg List.length hsp
    simp only [List.length_append, List.length_cons] at hlen
    have hlp := ln_bd p2
    rw [tgN_cons] at hX
    ((conv => whnf); (repeat ((first | refine BoxN.own ?_ | refine VrN.norm (wrap_i64 (by omega)) ?_ | refine VrN.keep ?_ | refine DrawN.calm (by decide +kernel) ?_ | refine Nd.mk (by decide +kernel) ?_ | refine Nd.mk (by omega) ?_ | (refine Nd.mk ?_ ?_; focus ((repeat' (first | exact trivial | exact wkE_refl _ | refine And.intro ?_ ?_)); done)) | refine RdN.intro _ rfl (by rfl) ?_); (conv => whnf)))); refine call1 (HasPrefix_c (c :: r3) [37, 37, 62] _) ?_
    ((conv => whnf); (repeat ((first | refine BoxN.own ?_ | refine VrN.norm (wrap_i64 (by omega)) ?_ | refine VrN.keep ?_ | refine DrawN.calm (by decide +kernel) ?_ | refine Nd.mk (by decide +kernel) ?_ | refine Nd.mk (by omega) ?_ | (refine Nd.mk ?_ ?_; focus ((repeat' (first | exact trivial | exact wkE_refl _ | refine And.intro ?_ ?_)); done)) | refine RdN.intro _ rfl (by rfl) ?_); (conv => whnf))))
    refine brd_intro (fun h1 => ?_) (fun h1 => ?_)
    · rw [if_pos h1] at hX
      obtain ⟨q, hq⟩ := pfx_split h1
      have htk : (c :: r3).take 3 = [37, 37, 62] := pfx_take h1
      have hdr : (c :: r3).drop 3 = q := by rw [hq]; rfl
      rw [htk, hdr] at hX
      have hq3 := congrArg List.length hq
      simp only [List.length_append, List.length_cons, List.length_nil] at hq3
      have ha : IntKind.wrap .i64 ((p2.length : Int) + 3) = ((p2 ++ [37, 37, 62]).length : Int) := by rw [wrap_i64 (by omega)]; simp
      ((conv => whnf); (repeat ((first | refine BoxN.own ?_ | refine VrN.norm (wrap_i64 (by omega)) ?_ | refine VrN.keep ?_ | refine DrawN.calm (by decide +kernel) ?_ | refine Nd.mk (by decide +kernel) ?_ | refine Nd.mk (by omega) ?_ | (refine Nd.mk ?_ ?_; focus ((repeat' (first | exact trivial | exact wkE_refl _ | refine And.intro ?_ ?_)); done)) | refine RdN.intro _ rfl (by rfl) ?_); (conv => whnf))))
      refine callG (WriteString_c false acc [37, 62] b hb (by simp; omega)) [5, 6] rfl ⟨rfl, rfl, trivial⟩ rfl fun b1 hb1 => ?_
      ((conv => whnf); (repeat ((first | refine BoxN.own ?_ | refine VrN.norm (wrap_i64 (by omega)) ?_ | refine VrN.keep ?_ | refine DrawN.calm (by decide +kernel) ?_ | refine Nd.mk (by decide +kernel) ?_ | refine Nd.mk (by omega) ?_ | (refine Nd.mk ?_ ?_; focus ((repeat' (first | exact trivial | exact wkE_refl _ | refine And.intro ?_ ?_)); done)) | refine RdN.intro _ rfl (by rfl) ?_); (conv => whnf))))
      refine ⟨⟨p2 ++ [37, 37, 62], q, acc ++ [37, 62], true, b1⟩, ⟨by rw [← hsp, hq]; simp, hX, hb1, by simp; omega⟩, by show q.length < (c :: r3).length; rw [hq]; simp; omega, ?_, ?_⟩
      · (repeat' (first | exact trivial | refine And.intro (by with_reducible rfl) ?_ | (with_reducible exact wkC_refl _) | (with_reducible exact wkCs_refl _) | refine And.intro ?_ ?_))
        all_goals rfl
      · have hl : ln (p2 ++ [37, 37, 62]) = ln p2 := by rw [ln_app]; rfl
        refine wkH_cons ?_ (wkH_cons rfl (wkH_cons rfl (wkH_cons rfl (wkH_cons rfl (wkH_cons rfl (wkH_cons rfl (wkH_nil _)))))))
        rw [ha, hl]
    rw [if_neg (by simp [h1])] at hX
    ((conv => whnf); (repeat ((first | refine BoxN.own ?_ | refine VrN.norm (wrap_i64 (by omega)) ?_ | refine VrN.keep ?_ | refine DrawN.calm (by decide +kernel) ?_ | refine Nd.mk (by decide +kernel) ?_ | refine Nd.mk (by omega) ?_ | (refine Nd.mk ?_ ?_; focus ((repeat' (first | exact trivial | exact wkE_refl _ | refine And.intro ?_ ?_)); done)) | refine RdN.intro _ rfl (by rfl) ?_); (conv => whnf)))); refine call1 (HasPrefix_c (c :: r3) [45, 37, 62] _) ?_
    ((conv => whnf); (repeat ((first | refine BoxN.own ?_ | refine VrN.norm (wrap_i64 (by omega)) ?_ | refine VrN.keep ?_ | refine DrawN.calm (by decide +kernel) ?_ | refine Nd.mk (by decide +kernel) ?_ | refine Nd.mk (by omega) ?_ | (refine Nd.mk ?_ ?_; focus ((repeat' (first | exact trivial | exact wkE_refl _ | refine And.intro ?_ ?_)); done)) | refine RdN.intro _ rfl (by rfl) ?_); (conv => whnf))))
    refine brd_intro (fun h2 => ?_) (fun h2 => ?_)
    · rw [if_pos h2] at hX
      obtain ⟨q, hq⟩ := pfx_split h2
      have htk : (c :: r3).take 3 = [45, 37, 62] := pfx_take h2
      have hdr : (c :: r3).drop 3 = q := by rw [hq]; rfl
      have hq3 := congrArg List.length hq
      simp only [List.length_append, List.length_cons, List.length_nil] at hq3
      have ha : IntKind.wrap .i64 ((p2.length : Int) + 3) = ((p2 ++ [45, 37, 62]).length : Int) := by rw [wrap_i64 (by omega)]; simp
      rw [hdr] at hX
      have hsq : pre ++ 60 :: 37 :: r = (p2 ++ [45, 37, 62]) ++ q := by rw [← hsp, hq]; simp
      ((conv => whnf); (repeat ((first | refine BoxN.own ?_ | refine VrN.norm (wrap_i64 (by omega)) ?_ | refine VrN.keep ?_ | refine DrawN.calm (by decide +kernel) ?_ | refine Nd.mk (by decide +kernel) ?_ | refine Nd.mk (by omega) ?_ | (refine Nd.mk ?_ ?_; focus ((repeat' (first | exact trivial | exact wkE_refl _ | refine And.intro ?_ ?_)); done)) | refine RdN.intro _ rfl (by rfl) ?_); (conv => whnf))))
      rw [ha]
      refine ReadW.sl_at (p2 ++ [45, 37, 62]) q hsq rfl (by kernel_rfl) rfl rfl rfl ?_
      ((conv => whnf); (repeat ((first | refine BoxN.own ?_ | refine VrN.norm (wrap_i64 (by omega)) ?_ | refine VrN.keep ?_ | refine DrawN.calm (by decide +kernel) ?_ | refine Nd.mk (by decide +kernel) ?_ | refine Nd.mk (by omega) ?_ | (refine Nd.mk ?_ ?_; focus ((repeat' (first | exact trivial | exact wkE_refl _ | refine And.intro ?_ ?_)); done)) | refine RdN.intro _ rfl (by rfl) ?_); (conv => whnf)))); refine callQ (HasPrefix_c q [10] _) ?_
      ((conv => whnf); (repeat ((first | refine BoxN.own ?_ | refine VrN.norm (wrap_i64 (by omega)) ?_ | refine VrN.keep ?_ | refine DrawN.calm (by decide +kernel) ?_ | refine Nd.mk (by decide +kernel) ?_ | refine Nd.mk (by omega) ?_ | (refine Nd.mk ?_ ?_; focus ((repeat' (first | exact trivial | exact wkE_refl _ | refine And.intro ?_ ?_)); done)) | refine RdN.intro _ rfl (by rfl) ?_); (conv => whnf))))
      refine brd_intro (fun h3 => ?_) (fun h3 => ?_)
      · rw [if_pos h3] at hX
        obtain ⟨q', hq'⟩ := pfx_split h3
        have htk4 : (c :: r3).take 4 = [45, 37, 62, 10] := by rw [hq, hq']; rfl
        rw [htk4] at hX
        have ha4 : IntKind.wrap .i64 (IntKind.wrap .i64 ((p2.length : Int) + 3) + 1) = ((p2 ++ [45, 37, 62, 10]).length : Int) := by rw [ha, wrap_i64 (by simp; omega)]; simp; omega
        rw [ha] at ha4
        have hl4 : IntKind.wrap .i64 (ln p2 + 1) = ln (p2 ++ [45, 37, 62, 10]) := by rw [wrap_i64 (by omega), ln_app]; rfl
        -- 1: the kind · plain: the text ahead · false: is the builder used · (p2 ++ [45, 37, 62, 10]): the prefix behind the tag · rw [ha4, hl4]: its place and line
        ((conv => whnf); (repeat ((first | refine BoxN.own ?_ | refine VrN.norm (wrap_i64 (by omega)) ?_ | refine VrN.keep ?_ | refine DrawN.calm (by decide +kernel) ?_ | refine Nd.mk (by decide +kernel) ?_ | refine Nd.mk (by omega) ?_ | (refine Nd.mk ?_ ?_; focus ((repeat' (first | exact trivial | exact wkE_refl _ | refine And.intro ?_ ?_)); done)) | refine RdN.intro _ rfl (by rfl) ?_); (conv => whnf))))
        refine callG (BString_c false acc b hb) [5, 6] rfl ⟨rfl, rfl, trivial⟩ rfl fun _ _ => ?_
        ((conv => whnf); (repeat ((first | refine BoxN.own ?_ | refine VrN.norm (wrap_i64 (by omega)) ?_ | refine VrN.keep ?_ | refine DrawN.calm (by decide +kernel) ?_ | refine Nd.mk (by decide +kernel) ?_ | refine Nd.mk (by omega) ?_ | (refine Nd.mk ?_ ?_; focus ((repeat' (first | exact trivial | exact wkE_refl _ | refine And.intro ?_ ?_)); done)) | refine RdN.intro _ rfl (by rfl) ?_); (conv => whnf))))
        refine DrawN.plan [0, 1] [(2, 1), (3, 1), (4, 1), (5, 1), (6, 0)] [(7, 0), (8, 0), (9, 0), (10, 0)] (by decide +kernel) ?_
        ((conv => whnf); (repeat ((first | refine BoxN.own ?_ | refine VrN.norm (wrap_i64 (by omega)) ?_ | refine VrN.keep ?_ | refine DrawN.calm (by decide +kernel) ?_ | refine Nd.mk (by decide +kernel) ?_ | refine Nd.mk (by omega) ?_ | (refine Nd.mk ?_ ?_; focus ((repeat' (first | exact trivial | exact wkE_refl _ | refine And.intro ?_ ?_)); done)) | refine RdN.intro _ rfl (by rfl) ?_); (conv => whnf))))
        refine Nd.mk ⟨by omega, rfl, rfl⟩ ?_
        (conv => whnf)
        refine AppN.grow 1 (partsC (outC out plain begun)) _ rfl rfl ⟨by omega, ⟨by show ((outC out plain begun).length + 1) * 32 ≤ _; omega, by show (outC out plain begun).length + 1 < _; omega⟩, by decide⟩ fun b' cap' h3 h4 => ?_
        ((conv => whnf); (repeat ((first | refine BoxN.own ?_ | refine VrN.norm (wrap_i64 (by omega)) ?_ | refine VrN.keep ?_ | refine DrawN.calm (by decide +kernel) ?_ | refine Nd.mk (by decide +kernel) ?_ | refine Nd.mk (by omega) ?_ | (refine Nd.mk ?_ ?_; focus ((repeat' (first | exact trivial | exact wkE_refl _ | refine And.intro ?_ ?_)); done)) | refine RdN.intro _ rfl (by rfl) ?_); (conv => whnf))))
        refine ⟨(⟨pre ++ 60 :: 37 :: r, ((p2 ++ [45, 37, 62, 10])).length, ln ((p2 ++ [45, 37, 62, 10])), lines, outC out plain begun ++ [⟨1, ln pre, acc⟩], [], begun⟩, ⟨⟨some b', cap'⟩, ⟨pb, pc⟩⟩), ⟨⟨⟨(fun h => by cases h), by rw [List.length_append]; exact h3, fun h => by have h : cap' = 0 := h; omega⟩, ok2.2⟩, rfl, rfl, by rw [← hX]; exact ⟨rfl, rfl, rfl, rfl⟩⟩, by rw [← hX]; rfl, ?_⟩
        refine wkH_cons ?_ (wkH_cons ?_ (wkH_cons rfl (wkH_cons rfl (wkH_nil _))))
        · rw [ha4, hl4]
          simp [at0]
        · simp [at0, partsC_app]
          exact ⟨rfl, rfl⟩
      · rw [if_neg (by simp [h3]), htk] at hX
        have hl3 : ln p2 = ln (p2 ++ [45, 37, 62]) := by rw [ln_app]; rfl
        -- 1: the kind · plain: the text ahead · false: is the builder used · (p2 ++ [45, 37, 62]): the prefix behind the tag · rw [hl3]: its place and line
        ((conv => whnf); (repeat ((first | refine BoxN.own ?_ | refine VrN.norm (wrap_i64 (by omega)) ?_ | refine VrN.keep ?_ | refine DrawN.calm (by decide +kernel) ?_ | refine Nd.mk (by decide +kernel) ?_ | refine Nd.mk (by omega) ?_ | (refine Nd.mk ?_ ?_; focus ((repeat' (first | exact trivial | exact wkE_refl _ | refine And.intro ?_ ?_)); done)) | refine RdN.intro _ rfl (by rfl) ?_); (conv => whnf))))
        refine callG (BString_c false acc b hb) [5, 6] rfl ⟨rfl, rfl, trivial⟩ rfl fun _ _ => ?_
        ((conv => whnf); (repeat ((first | refine BoxN.own ?_ | refine VrN.norm (wrap_i64 (by omega)) ?_ | refine VrN.keep ?_ | refine DrawN.calm (by decide +kernel) ?_ | refine Nd.mk (by decide +kernel) ?_ | refine Nd.mk (by omega) ?_ | (refine Nd.mk ?_ ?_; focus ((repeat' (first | exact trivial | exact wkE_refl _ | refine And.intro ?_ ?_)); done)) | refine RdN.intro _ rfl (by rfl) ?_); (conv => whnf))))
        refine DrawN.plan [0, 1] [(2, 1), (3, 1), (4, 1), (5, 1), (6, 0)] [(7, 0), (8, 0), (9, 0), (10, 0)] (by decide +kernel) ?_
        ((conv => whnf); (repeat ((first | refine BoxN.own ?_ | refine VrN.norm (wrap_i64 (by omega)) ?_ | refine VrN.keep ?_ | refine DrawN.calm (by decide +kernel) ?_ | refine Nd.mk (by decide +kernel) ?_ | refine Nd.mk (by omega) ?_ | (refine Nd.mk ?_ ?_; focus ((repeat' (first | exact trivial | exact wkE_refl _ | refine And.intro ?_ ?_)); done)) | refine RdN.intro _ rfl (by rfl) ?_); (conv => whnf))))
        refine Nd.mk ⟨by omega, rfl, rfl⟩ ?_
        (conv => whnf)
        refine AppN.grow 1 (partsC (outC out plain begun)) _ rfl rfl ⟨by omega, ⟨by show ((outC out plain begun).length + 1) * 32 ≤ _; omega, by show (outC out plain begun).length + 1 < _; omega⟩, by decide⟩ fun b' cap' h3 h4 => ?_
        ((conv => whnf); (repeat ((first | refine BoxN.own ?_ | refine VrN.norm (wrap_i64 (by omega)) ?_ | refine VrN.keep ?_ | refine DrawN.calm (by decide +kernel) ?_ | refine Nd.mk (by decide +kernel) ?_ | refine Nd.mk (by omega) ?_ | (refine Nd.mk ?_ ?_; focus ((repeat' (first | exact trivial | exact wkE_refl _ | refine And.intro ?_ ?_)); done)) | refine RdN.intro _ rfl (by rfl) ?_); (conv => whnf))))
        refine ⟨(⟨pre ++ 60 :: 37 :: r, ((p2 ++ [45, 37, 62])).length, ln ((p2 ++ [45, 37, 62])), lines, outC out plain begun ++ [⟨1, ln pre, acc⟩], [], begun⟩, ⟨⟨some b', cap'⟩, ⟨pb, pc⟩⟩), ⟨⟨⟨(fun h => by cases h), by rw [List.length_append]; exact h3, fun h => by have h : cap' = 0 := h; omega⟩, ok2.2⟩, rfl, rfl, by rw [← hX]; exact ⟨rfl, rfl, rfl, rfl⟩⟩, by rw [← hX]; rfl, ?_⟩
        refine wkH_cons ?_ (wkH_cons ?_ (wkH_cons rfl (wkH_cons rfl (wkH_nil _))))
        · rw [hl3]
          simp [at0]
        · simp [at0, partsC_app]
          exact ⟨rfl, rfl⟩
    rw [if_neg (by simp [h2])] at hX
    ((conv => whnf); (repeat ((first | refine BoxN.own ?_ | refine VrN.norm (wrap_i64 (by omega)) ?_ | refine VrN.keep ?_ | refine DrawN.calm (by decide +kernel) ?_ | refine Nd.mk (by decide +kernel) ?_ | refine Nd.mk (by omega) ?_ | (refine Nd.mk ?_ ?_; focus ((repeat' (first | exact trivial | exact wkE_refl _ | refine And.intro ?_ ?_)); done)) | refine RdN.intro _ rfl (by rfl) ?_); (conv => whnf)))); refine call1 (HasPrefix_c (c :: r3) [37, 62] _) ?_
    ((conv => whnf); (repeat ((first | refine BoxN.own ?_ | refine VrN.norm (wrap_i64 (by omega)) ?_ | refine VrN.keep ?_ | refine DrawN.calm (by decide +kernel) ?_ | refine Nd.mk (by decide +kernel) ?_ | refine Nd.mk (by omega) ?_ | (refine Nd.mk ?_ ?_; focus ((repeat' (first | exact trivial | exact wkE_refl _ | refine And.intro ?_ ?_)); done)) | refine RdN.intro _ rfl (by rfl) ?_); (conv => whnf))))
    refine brd_intro (fun h3 => ?_) (fun h3 => ?_)
    · rw [if_pos h3] at hX
      have htk : (c :: r3).take 2 = [37, 62] := pfx_take h3
      rw [htk] at hX
      have ha : IntKind.wrap .i64 ((p2.length : Int) + 2) = ((p2 ++ [37, 62]).length : Int) := by rw [wrap_i64 (by omega)]; simp
      have hl3 : ln p2 = ln (p2 ++ [37, 62]) := by rw [ln_app]; rfl
      -- 1: the kind · plain: the text ahead · false: is the builder used · (p2 ++ [37, 62]): the prefix behind the tag · rw [ha, hl3]: its place and line
      ((conv => whnf); (repeat ((first | refine BoxN.own ?_ | refine VrN.norm (wrap_i64 (by omega)) ?_ | refine VrN.keep ?_ | refine DrawN.calm (by decide +kernel) ?_ | refine Nd.mk (by decide +kernel) ?_ | refine Nd.mk (by omega) ?_ | (refine Nd.mk ?_ ?_; focus ((repeat' (first | exact trivial | exact wkE_refl _ | refine And.intro ?_ ?_)); done)) | refine RdN.intro _ rfl (by rfl) ?_); (conv => whnf))))
      refine callG (BString_c false acc b hb) [5, 6] rfl ⟨rfl, rfl, trivial⟩ rfl fun _ _ => ?_
      ((conv => whnf); (repeat ((first | refine BoxN.own ?_ | refine VrN.norm (wrap_i64 (by omega)) ?_ | refine VrN.keep ?_ | refine DrawN.calm (by decide +kernel) ?_ | refine Nd.mk (by decide +kernel) ?_ | refine Nd.mk (by omega) ?_ | (refine Nd.mk ?_ ?_; focus ((repeat' (first | exact trivial | exact wkE_refl _ | refine And.intro ?_ ?_)); done)) | refine RdN.intro _ rfl (by rfl) ?_); (conv => whnf))))
      refine DrawN.plan [0, 1] [(2, 1), (3, 1), (4, 1), (5, 1), (6, 0)] [(7, 0), (8, 0), (9, 0), (10, 0)] (by decide +kernel) ?_
      ((conv => whnf); (repeat ((first | refine BoxN.own ?_ | refine VrN.norm (wrap_i64 (by omega)) ?_ | refine VrN.keep ?_ | refine DrawN.calm (by decide +kernel) ?_ | refine Nd.mk (by decide +kernel) ?_ | refine Nd.mk (by omega) ?_ | (refine Nd.mk ?_ ?_; focus ((repeat' (first | exact trivial | exact wkE_refl _ | refine And.intro ?_ ?_)); done)) | refine RdN.intro _ rfl (by rfl) ?_); (conv => whnf))))
      refine Nd.mk ⟨by omega, rfl, rfl⟩ ?_
      (conv => whnf)
      refine AppN.grow 1 (partsC (outC out plain begun)) _ rfl rfl ⟨by omega, ⟨by show ((outC out plain begun).length + 1) * 32 ≤ _; omega, by show (outC out plain begun).length + 1 < _; omega⟩, by decide⟩ fun b' cap' h3 h4 => ?_
      ((conv => whnf); (repeat ((first | refine BoxN.own ?_ | refine VrN.norm (wrap_i64 (by omega)) ?_ | refine VrN.keep ?_ | refine DrawN.calm (by decide +kernel) ?_ | refine Nd.mk (by decide +kernel) ?_ | refine Nd.mk (by omega) ?_ | (refine Nd.mk ?_ ?_; focus ((repeat' (first | exact trivial | exact wkE_refl _ | refine And.intro ?_ ?_)); done)) | refine RdN.intro _ rfl (by rfl) ?_); (conv => whnf))))
      refine ⟨(⟨pre ++ 60 :: 37 :: r, ((p2 ++ [37, 62])).length, ln ((p2 ++ [37, 62])), lines, outC out plain begun ++ [⟨1, ln pre, acc⟩], [], begun⟩, ⟨⟨some b', cap'⟩, ⟨pb, pc⟩⟩), ⟨⟨⟨(fun h => by cases h), by rw [List.length_append]; exact h3, fun h => by have h : cap' = 0 := h; omega⟩, ok2.2⟩, rfl, rfl, by rw [← hX]; exact ⟨rfl, rfl, rfl, rfl⟩⟩, by rw [← hX]; rfl, ?_⟩
      refine wkH_cons ?_ (wkH_cons ?_ (wkH_cons rfl (wkH_cons rfl (wkH_nil _))))
      · rw [ha, hl3]
        simp [at0]
      · simp [at0, partsC_app]
        exact ⟨rfl, rfl⟩
    rw [if_neg (by simp [h3])] at hX
    have hb0 : byteAt (bs (c :: r3)) 0 = (c.toNat : Int) := byteAt_get rfl
    have ha : IntKind.wrap .i64 ((p2.length : Int) + 1) = ((p2 ++ [c]).length : Int) := by rw [wrap_i64 (by omega)]; simp
    have hl1 : IntKind.wrap .i64 (ln p2 + 1) = ln p2 + 1 := wrap_i64 (by omega)
    ((conv => whnf); (repeat ((first | refine BoxN.own ?_ | refine VrN.norm (wrap_i64 (by omega)) ?_ | refine VrN.keep ?_ | refine DrawN.calm (by decide +kernel) ?_ | refine Nd.mk (by decide +kernel) ?_ | refine Nd.mk (by omega) ?_ | (refine Nd.mk ?_ ?_; focus ((repeat' (first | exact trivial | exact wkE_refl _ | refine And.intro ?_ ?_)); done)) | refine RdN.intro _ rfl (by rfl) ?_); (conv => whnf))))
    refine Nd.mk ⟨by omega, by rw [bs_size]; simp⟩ ?_
    rw [show ((0 : Int).toNat) = 0 from rfl, hb0]
    ((conv => whnf); (repeat ((first | refine BoxN.own ?_ | refine VrN.norm (wrap_i64 (by omega)) ?_ | refine VrN.keep ?_ | refine DrawN.calm (by decide +kernel) ?_ | refine Nd.mk (by decide +kernel) ?_ | refine Nd.mk (by omega) ?_ | (refine Nd.mk ?_ ?_; focus ((repeat' (first | exact trivial | exact wkE_refl _ | refine And.intro ?_ ?_)); done)) | refine RdN.intro _ rfl (by rfl) ?_); (conv => whnf))))
    refine brd_eq (fun h4 => ?_) (fun h4 => ?_)
    · have hc : c = 10 := UInt8.toNat_inj.1 (by show c.toNat = 10; omega)
      have hl : ln (p2 ++ [c]) = ln p2 + 1 := by rw [ln_snoc, if_pos hc]
      ((conv => whnf); (repeat ((first | refine BoxN.own ?_ | refine VrN.norm (wrap_i64 (by omega)) ?_ | refine VrN.keep ?_ | refine DrawN.calm (by decide +kernel) ?_ | refine Nd.mk (by decide +kernel) ?_ | refine Nd.mk (by omega) ?_ | (refine Nd.mk ?_ ?_; focus ((repeat' (first | exact trivial | exact wkE_refl _ | refine And.intro ?_ ?_)); done)) | refine RdN.intro _ rfl (by rfl) ?_); (conv => whnf))))
      refine Nd.mk ⟨by omega, by rw [bs_size]; simp⟩ ?_
      rw [show ((0 : Int).toNat) = 0 from rfl, hb0]
      ((conv => whnf); (repeat ((first | refine BoxN.own ?_ | refine VrN.norm (wrap_i64 (by omega)) ?_ | refine VrN.keep ?_ | refine DrawN.calm (by decide +kernel) ?_ | refine Nd.mk (by decide +kernel) ?_ | refine Nd.mk (by omega) ?_ | (refine Nd.mk ?_ ?_; focus ((repeat' (first | exact trivial | exact wkE_refl _ | refine And.intro ?_ ?_)); done)) | refine RdN.intro _ rfl (by rfl) ?_); (conv => whnf))))
      refine callG (WriteByte_c false acc c b (by omega)) [5, 6] rfl ⟨rfl, rfl, trivial⟩ rfl fun b1 hb1 => ?_
      ((conv => whnf); (repeat ((first | refine BoxN.own ?_ | refine VrN.norm (wrap_i64 (by omega)) ?_ | refine VrN.keep ?_ | refine DrawN.calm (by decide +kernel) ?_ | refine Nd.mk (by decide +kernel) ?_ | refine Nd.mk (by omega) ?_ | (refine Nd.mk ?_ ?_; focus ((repeat' (first | exact trivial | exact wkE_refl _ | refine And.intro ?_ ?_)); done)) | refine RdN.intro _ rfl (by rfl) ?_); (conv => whnf))))
      refine ⟨⟨p2 ++ [c], r3, acc ++ [c], true, b1⟩, ⟨by rw [← hsp]; simp, hX, hb1, by simp; omega⟩, by show r3.length < (c :: r3).length; simp, ?_, ?_⟩
      · (repeat' (first | exact trivial | refine And.intro (by with_reducible rfl) ?_ | (with_reducible exact wkC_refl _) | (with_reducible exact wkCs_refl _) | refine And.intro ?_ ?_))
        all_goals rfl
      · refine wkH_cons ?_ (wkH_cons rfl (wkH_cons rfl (wkH_cons rfl (wkH_cons rfl (wkH_cons rfl (wkH_cons rfl (wkH_nil _)))))))
        rw [ha, hl1, hl]
    · have hc : ¬ c = 10 := fun h => h4 (by rw [h]; rfl)
      have hl : ln (p2 ++ [c]) = ln p2 := by rw [ln_snoc, if_neg hc]
      ((conv => whnf); (repeat ((first | refine BoxN.own ?_ | refine VrN.norm (wrap_i64 (by omega)) ?_ | refine VrN.keep ?_ | refine DrawN.calm (by decide +kernel) ?_ | refine Nd.mk (by decide +kernel) ?_ | refine Nd.mk (by omega) ?_ | (refine Nd.mk ?_ ?_; focus ((repeat' (first | exact trivial | exact wkE_refl _ | refine And.intro ?_ ?_)); done)) | refine RdN.intro _ rfl (by rfl) ?_); (conv => whnf))))
      refine Nd.mk ⟨by omega, by rw [bs_size]; simp⟩ ?_
      rw [show ((0 : Int).toNat) = 0 from rfl, hb0]
      ((conv => whnf); (repeat ((first | refine BoxN.own ?_ | refine VrN.norm (wrap_i64 (by omega)) ?_ | refine VrN.keep ?_ | refine DrawN.calm (by decide +kernel) ?_ | refine Nd.mk (by decide +kernel) ?_ | refine Nd.mk (by omega) ?_ | (refine Nd.mk ?_ ?_; focus ((repeat' (first | exact trivial | exact wkE_refl _ | refine And.intro ?_ ?_)); done)) | refine RdN.intro _ rfl (by rfl) ?_); (conv => whnf))))
      refine callG (WriteByte_c false acc c b (by omega)) [5, 6] rfl ⟨rfl, rfl, trivial⟩ rfl fun b1 hb1 => ?_
      ((conv => whnf); (repeat ((first | refine BoxN.own ?_ | refine VrN.norm (wrap_i64 (by omega)) ?_ | refine VrN.keep ?_ | refine DrawN.calm (by decide +kernel) ?_ | refine Nd.mk (by decide +kernel) ?_ | refine Nd.mk (by omega) ?_ | (refine Nd.mk ?_ ?_; focus ((repeat' (first | exact trivial | exact wkE_refl _ | refine And.intro ?_ ?_)); done)) | refine RdN.intro _ rfl (by rfl) ?_); (conv => whnf))))
      refine ⟨⟨p2 ++ [c], r3, acc ++ [c], true, b1⟩, ⟨by rw [← hsp]; simp, hX, hb1, by simp; omega⟩, by show r3.length < (c :: r3).length; simp, ?_, ?_⟩
      · (repeat' (first | exact trivial | refine And.intro (by with_reducible rfl) ?_ | (with_reducible exact wkC_refl _) | (with_reducible exact wkCs_refl _) | refine And.intro ?_ ?_))
        all_goals rfl
      · refine wkH_cons ?_ (wkH_cons rfl (wkH_cons rfl (wkH_cons rfl (wkH_cons rfl (wkH_cons rfl (wkH_cons rfl (wkH_nil _)))))))
        rw [ha, hl]
  | true =>
    ((conv => whnf); (repeat ((first | refine BoxN.own ?_ | refine VrN.norm (wrap_i64 (by omega)) ?_ | refine VrN.keep ?_ | refine DrawN.calm (by decide +kernel) ?_ | refine Nd.mk (by decide +kernel) ?_ | refine Nd.mk (by omega) ?_ | (refine Nd.mk ?_ ?_; focus ((repeat' (first | exact trivial | exact wkE_refl _ | refine And.intro ?_ ?_)); done)) | refine RdN.intro _ rfl (by rfl) ?_); (conv => whnf))))
    refine ReadW.sl_at p2 r2 hsp.symm rfl (by kernel_rfl) rfl rfl rfl ?_
    ((conv => whnf); (repeat ((first | refine BoxN.own ?_ | refine VrN.norm (wrap_i64 (by omega)) ?_ | refine VrN.keep ?_ | refine DrawN.calm (by decide +kernel) ?_ | refine Nd.mk (by decide +kernel) ?_ | refine Nd.mk (by omega) ?_ | (refine Nd.mk ?_ ?_; focus ((repeat' (first | exact trivial | exact wkE_refl _ | refine And.intro ?_ ?_)); done)) | refine RdN.intro _ rfl (by rfl) ?_); (conv => whnf))))
    rw [bs_list]
    refine brd_intro (fun h0 => ?_) (fun h0 => ?_)
    · have h0 : r2 = [] := by simpa using h0
      subst h0
      have hX : X = none := by rw [← hX]; rfl
      subst hX
      ((conv => whnf); (repeat ((first | refine BoxN.own ?_ | refine VrN.norm (wrap_i64 (by omega)) ?_ | refine VrN.keep ?_ | refine DrawN.calm (by decide +kernel) ?_ | refine Nd.mk (by decide +kernel) ?_ | refine Nd.mk (by omega) ?_ | (refine Nd.mk ?_ ?_; focus ((repeat' (first | exact trivial | exact wkE_refl _ | refine And.intro ?_ ?_)); done)) | refine RdN.intro _ rfl (by rfl) ?_); (conv => whnf))))
      refine ⟨(⟨pre ++ 60 :: 37 :: r, p2.length, ln pre, lines, outC out plain begun, [], begun⟩, ⟨⟨ob, oc⟩, ⟨pb, pc⟩⟩), ⟨⟨ok2.1, ok2.2⟩, rfl, rfl, rfl⟩, rfl, ?_⟩
      exact wkH_cons rfl (wkH_cons rfl (wkH_cons rfl (wkH_cons rfl (wkH_nil _))))
    obtain ⟨c, r3, rfl⟩ : ∃ c r3, r2 = c :: r3 := by
      cases r2 with
      | nil => simp at h0
      | cons c r3 => exact ⟨c, r3, rfl⟩
    have hlen := congrArg List.length hsp
    simp only [List.length_append, List.length_cons] at hlen
    have hlp := ln_bd p2
    rw [tgN_cons] at hX
    ((conv => whnf); (repeat ((first | refine BoxN.own ?_ | refine VrN.norm (wrap_i64 (by omega)) ?_ | refine VrN.keep ?_ | refine DrawN.calm (by decide +kernel) ?_ | refine Nd.mk (by decide +kernel) ?_ | refine Nd.mk (by omega) ?_ | (refine Nd.mk ?_ ?_; focus ((repeat' (first | exact trivial | exact wkE_refl _ | refine And.intro ?_ ?_)); done)) | refine RdN.intro _ rfl (by rfl) ?_); (conv => whnf)))); refine call1 (HasPrefix_c (c :: r3) [37, 37, 62] _) ?_
    ((conv => whnf); (repeat ((first | refine BoxN.own ?_ | refine VrN.norm (wrap_i64 (by omega)) ?_ | refine VrN.keep ?_ | refine DrawN.calm (by decide +kernel) ?_ | refine Nd.mk (by decide +kernel) ?_ | refine Nd.mk (by omega) ?_ | (refine Nd.mk ?_ ?_; focus ((repeat' (first | exact trivial | exact wkE_refl _ | refine And.intro ?_ ?_)); done)) | refine RdN.intro _ rfl (by rfl) ?_); (conv => whnf))))
    refine brd_intro (fun h1 => ?_) (fun h1 => ?_)
    · rw [if_pos h1] at hX
      obtain ⟨q, hq⟩ := pfx_split h1
      have htk : (c :: r3).take 3 = [37, 37, 62] := pfx_take h1
      have hdr : (c :: r3).drop 3 = q := by rw [hq]; rfl
      rw [htk, hdr] at hX
      have hq3 := congrArg List.length hq
      simp only [List.length_append, List.length_cons, List.length_nil] at hq3
      have ha : IntKind.wrap .i64 ((p2.length : Int) + 3) = ((p2 ++ [37, 37, 62]).length : Int) := by rw [wrap_i64 (by omega)]; simp
      ((conv => whnf); (repeat ((first | refine BoxN.own ?_ | refine VrN.norm (wrap_i64 (by omega)) ?_ | refine VrN.keep ?_ | refine DrawN.calm (by decide +kernel) ?_ | refine Nd.mk (by decide +kernel) ?_ | refine Nd.mk (by omega) ?_ | (refine Nd.mk ?_ ?_; focus ((repeat' (first | exact trivial | exact wkE_refl _ | refine And.intro ?_ ?_)); done)) | refine RdN.intro _ rfl (by rfl) ?_); (conv => whnf))))
      refine callG (WriteString_c true acc [37, 62] b hb (by simp; omega)) [5, 6] rfl ⟨rfl, rfl, trivial⟩ rfl fun b1 hb1 => ?_
      ((conv => whnf); (repeat ((first | refine BoxN.own ?_ | refine VrN.norm (wrap_i64 (by omega)) ?_ | refine VrN.keep ?_ | refine DrawN.calm (by decide +kernel) ?_ | refine Nd.mk (by decide +kernel) ?_ | refine Nd.mk (by omega) ?_ | (refine Nd.mk ?_ ?_; focus ((repeat' (first | exact trivial | exact wkE_refl _ | refine And.intro ?_ ?_)); done)) | refine RdN.intro _ rfl (by rfl) ?_); (conv => whnf))))
      refine ⟨⟨p2 ++ [37, 37, 62], q, acc ++ [37, 62], true, b1⟩, ⟨by rw [← hsp, hq]; simp, hX, hb1, by simp; omega⟩, by show q.length < (c :: r3).length; rw [hq]; simp; omega, ?_, ?_⟩
      · (repeat' (first | exact trivial | refine And.intro (by with_reducible rfl) ?_ | (with_reducible exact wkC_refl _) | (with_reducible exact wkCs_refl _) | refine And.intro ?_ ?_))
        all_goals rfl
      · have hl : ln (p2 ++ [37, 37, 62]) = ln p2 := by rw [ln_app]; rfl
        refine wkH_cons ?_ (wkH_cons rfl (wkH_cons rfl (wkH_cons rfl (wkH_cons rfl (wkH_cons rfl (wkH_cons rfl (wkH_nil _)))))))
        rw [ha, hl]
    rw [if_neg (by simp [h1])] at hX
    ((conv => whnf); (repeat ((first | refine BoxN.own ?_ | refine VrN.norm (wrap_i64 (by omega)) ?_ | refine VrN.keep ?_ | refine DrawN.calm (by decide +kernel) ?_ | refine Nd.mk (by decide +kernel) ?_ | refine Nd.mk (by omega) ?_ | (refine Nd.mk ?_ ?_; focus ((repeat' (first | exact trivial | exact wkE_refl _ | refine And.intro ?_ ?_)); done)) | refine RdN.intro _ rfl (by rfl) ?_); (conv => whnf)))); refine call1 (HasPrefix_c (c :: r3) [45, 37, 62] _) ?_
    ((conv => whnf); (repeat ((first | refine BoxN.own ?_ | refine VrN.norm (wrap_i64 (by omega)) ?_ | refine VrN.keep ?_ | refine DrawN.calm (by decide +kernel) ?_ | refine Nd.mk (by decide +kernel) ?_ | refine Nd.mk (by omega) ?_ | (refine Nd.mk ?_ ?_; focus ((repeat' (first | exact trivial | exact wkE_refl _ | refine And.intro ?_ ?_)); done)) | refine RdN.intro _ rfl (by rfl) ?_); (conv => whnf))))
    refine brd_intro (fun h2 => ?_) (fun h2 => ?_)
    · rw [if_pos h2] at hX
      obtain ⟨q, hq⟩ := pfx_split h2
      have htk : (c :: r3).take 3 = [45, 37, 62] := pfx_take h2
      have hdr : (c :: r3).drop 3 = q := by rw [hq]; rfl
      have hq3 := congrArg List.length hq
      simp only [List.length_append, List.length_cons, List.length_nil] at hq3
      have ha : IntKind.wrap .i64 ((p2.length : Int) + 3) = ((p2 ++ [45, 37, 62]).length : Int) := by rw [wrap_i64 (by omega)]; simp
      rw [hdr] at hX
      have hsq : pre ++ 60 :: 37 :: r = (p2 ++ [45, 37, 62]) ++ q := by rw [← hsp, hq]; simp
      ((conv => whnf); (repeat ((first | refine BoxN.own ?_ | refine VrN.norm (wrap_i64 (by omega)) ?_ | refine VrN.keep ?_ | refine DrawN.calm (by decide +kernel) ?_ | refine Nd.mk (by decide +kernel) ?_ | refine Nd.mk (by omega) ?_ | (refine Nd.mk ?_ ?_; focus ((repeat' (first | exact trivial | exact wkE_refl _ | refine And.intro ?_ ?_)); done)) | refine RdN.intro _ rfl (by rfl) ?_); (conv => whnf))))
      rw [ha]
      refine ReadW.sl_at (p2 ++ [45, 37, 62]) q hsq rfl (by kernel_rfl) rfl rfl rfl ?_
      ((conv => whnf); (repeat ((first | refine BoxN.own ?_ | refine VrN.norm (wrap_i64 (by omega)) ?_ | refine VrN.keep ?_ | refine DrawN.calm (by decide +kernel) ?_ | refine Nd.mk (by decide +kernel) ?_ | refine Nd.mk (by omega) ?_ | (refine Nd.mk ?_ ?_; focus ((repeat' (first | exact trivial | exact wkE_refl _ | refine And.intro ?_ ?_)); done)) | refine RdN.intro _ rfl (by rfl) ?_); (conv => whnf)))); refine callQ (HasPrefix_c q [10] _) ?_
      ((conv => whnf); (repeat ((first | refine BoxN.own ?_ | refine VrN.norm (wrap_i64 (by omega)) ?_ | refine VrN.keep ?_ | refine DrawN.calm (by decide +kernel) ?_ | refine Nd.mk (by decide +kernel) ?_ | refine Nd.mk (by omega) ?_ | (refine Nd.mk ?_ ?_; focus ((repeat' (first | exact trivial | exact wkE_refl _ | refine And.intro ?_ ?_)); done)) | refine RdN.intro _ rfl (by rfl) ?_); (conv => whnf))))
      refine brd_intro (fun h3 => ?_) (fun h3 => ?_)
      · rw [if_pos h3] at hX
        obtain ⟨q', hq'⟩ := pfx_split h3
        have htk4 : (c :: r3).take 4 = [45, 37, 62, 10] := by rw [hq, hq']; rfl
        rw [htk4] at hX
        have ha4 : IntKind.wrap .i64 (IntKind.wrap .i64 ((p2.length : Int) + 3) + 1) = ((p2 ++ [45, 37, 62, 10]).length : Int) := by rw [ha, wrap_i64 (by simp; omega)]; simp; omega
        rw [ha] at ha4
        have hl4 : IntKind.wrap .i64 (ln p2 + 1) = ln (p2 ++ [45, 37, 62, 10]) := by rw [wrap_i64 (by omega), ln_app]; rfl
        -- 1: the kind · plain: the text ahead · true: is the builder used · (p2 ++ [45, 37, 62, 10]): the prefix behind the tag · rw [ha4, hl4]: its place and line
        ((conv => whnf); (repeat ((first | refine BoxN.own ?_ | refine VrN.norm (wrap_i64 (by omega)) ?_ | refine VrN.keep ?_ | refine DrawN.calm (by decide +kernel) ?_ | refine Nd.mk (by decide +kernel) ?_ | refine Nd.mk (by omega) ?_ | (refine Nd.mk ?_ ?_; focus ((repeat' (first | exact trivial | exact wkE_refl _ | refine And.intro ?_ ?_)); done)) | refine RdN.intro _ rfl (by rfl) ?_); (conv => whnf))))
        refine callG (BString_c true acc b hb) [5, 6] rfl ⟨rfl, rfl, trivial⟩ rfl fun _ _ => ?_
        ((conv => whnf); (repeat ((first | refine BoxN.own ?_ | refine VrN.norm (wrap_i64 (by omega)) ?_ | refine VrN.keep ?_ | refine DrawN.calm (by decide +kernel) ?_ | refine Nd.mk (by decide +kernel) ?_ | refine Nd.mk (by omega) ?_ | (refine Nd.mk ?_ ?_; focus ((repeat' (first | exact trivial | exact wkE_refl _ | refine And.intro ?_ ?_)); done)) | refine RdN.intro _ rfl (by rfl) ?_); (conv => whnf))))
        refine DrawN.plan [0, 1] [(2, 1), (3, 1), (4, 1), (5, 1), (6, 0)] [(7, 0), (8, 0), (9, 0), (10, 0)] (by decide +kernel) ?_
        ((conv => whnf); (repeat ((first | refine BoxN.own ?_ | refine VrN.norm (wrap_i64 (by omega)) ?_ | refine VrN.keep ?_ | refine DrawN.calm (by decide +kernel) ?_ | refine Nd.mk (by decide +kernel) ?_ | refine Nd.mk (by omega) ?_ | (refine Nd.mk ?_ ?_; focus ((repeat' (first | exact trivial | exact wkE_refl _ | refine And.intro ?_ ?_)); done)) | refine RdN.intro _ rfl (by rfl) ?_); (conv => whnf))))
        refine Nd.mk ⟨by omega, rfl, rfl⟩ ?_
        (conv => whnf)
        refine AppN.grow 1 (partsC (outC out plain begun)) _ rfl rfl ⟨by omega, ⟨by show ((outC out plain begun).length + 1) * 32 ≤ _; omega, by show (outC out plain begun).length + 1 < _; omega⟩, by decide⟩ fun b' cap' h3 h4 => ?_
        ((conv => whnf); (repeat ((first | refine BoxN.own ?_ | refine VrN.norm (wrap_i64 (by omega)) ?_ | refine VrN.keep ?_ | refine DrawN.calm (by decide +kernel) ?_ | refine Nd.mk (by decide +kernel) ?_ | refine Nd.mk (by omega) ?_ | (refine Nd.mk ?_ ?_; focus ((repeat' (first | exact trivial | exact wkE_refl _ | refine And.intro ?_ ?_)); done)) | refine RdN.intro _ rfl (by rfl) ?_); (conv => whnf))))
        refine ⟨(⟨pre ++ 60 :: 37 :: r, ((p2 ++ [45, 37, 62, 10])).length, ln ((p2 ++ [45, 37, 62, 10])), lines, outC out plain begun ++ [⟨1, ln pre, acc⟩], [], begun⟩, ⟨⟨some b', cap'⟩, ⟨pb, pc⟩⟩), ⟨⟨⟨(fun h => by cases h), by rw [List.length_append]; exact h3, fun h => by have h : cap' = 0 := h; omega⟩, ok2.2⟩, rfl, rfl, by rw [← hX]; exact ⟨rfl, rfl, rfl, rfl⟩⟩, by rw [← hX]; rfl, ?_⟩
        refine wkH_cons ?_ (wkH_cons ?_ (wkH_cons rfl (wkH_cons rfl (wkH_nil _))))
        · rw [ha4, hl4]
          simp [at0]
        · simp [at0, partsC_app]
          exact ⟨rfl, rfl⟩
      · rw [if_neg (by simp [h3]), htk] at hX
        have hl3 : ln p2 = ln (p2 ++ [45, 37, 62]) := by rw [ln_app]; rfl
        -- 1: the kind · plain: the text ahead · true: is the builder used · (p2 ++ [45, 37, 62]): the prefix behind the tag · rw [hl3]: its place and line
        ((conv => whnf); (repeat ((first | refine BoxN.own ?_ | refine VrN.norm (wrap_i64 (by omega)) ?_ | refine VrN.keep ?_ | refine DrawN.calm (by decide +kernel) ?_ | refine Nd.mk (by decide +kernel) ?_ | refine Nd.mk (by omega) ?_ | (refine Nd.mk ?_ ?_; focus ((repeat' (first | exact trivial | exact wkE_refl _ | refine And.intro ?_ ?_)); done)) | refine RdN.intro _ rfl (by rfl) ?_); (conv => whnf))))
        refine callG (BString_c true acc b hb) [5, 6] rfl ⟨rfl, rfl, trivial⟩ rfl fun _ _ => ?_
        ((conv => whnf); (repeat ((first | refine BoxN.own ?_ | refine VrN.norm (wrap_i64 (by omega)) ?_ | refine VrN.keep ?_ | refine DrawN.calm (by decide +kernel) ?_ | refine Nd.mk (by decide +kernel) ?_ | refine Nd.mk (by omega) ?_ | (refine Nd.mk ?_ ?_; focus ((repeat' (first | exact trivial | exact wkE_refl _ | refine And.intro ?_ ?_)); done)) | refine RdN.intro _ rfl (by rfl) ?_); (conv => whnf))))
        refine DrawN.plan [0, 1] [(2, 1), (3, 1), (4, 1), (5, 1), (6, 0)] [(7, 0), (8, 0), (9, 0), (10, 0)] (by decide +kernel) ?_
        ((conv => whnf); (repeat ((first | refine BoxN.own ?_ | refine VrN.norm (wrap_i64 (by omega)) ?_ | refine VrN.keep ?_ | refine DrawN.calm (by decide +kernel) ?_ | refine Nd.mk (by decide +kernel) ?_ | refine Nd.mk (by omega) ?_ | (refine Nd.mk ?_ ?_; focus ((repeat' (first | exact trivial | exact wkE_refl _ | refine And.intro ?_ ?_)); done)) | refine RdN.intro _ rfl (by rfl) ?_); (conv => whnf))))
        refine Nd.mk ⟨by omega, rfl, rfl⟩ ?_
        (conv => whnf)
        refine AppN.grow 1 (partsC (outC out plain begun)) _ rfl rfl ⟨by omega, ⟨by show ((outC out plain begun).length + 1) * 32 ≤ _; omega, by show (outC out plain begun).length + 1 < _; omega⟩, by decide⟩ fun b' cap' h3 h4 => ?_
        ((conv => whnf); (repeat ((first | refine BoxN.own ?_ | refine VrN.norm (wrap_i64 (by omega)) ?_ | refine VrN.keep ?_ | refine DrawN.calm (by decide +kernel) ?_ | refine Nd.mk (by decide +kernel) ?_ | refine Nd.mk (by omega) ?_ | (refine Nd.mk ?_ ?_; focus ((repeat' (first | exact trivial | exact wkE_refl _ | refine And.intro ?_ ?_)); done)) | refine RdN.intro _ rfl (by rfl) ?_); (conv => whnf))))
        refine ⟨(⟨pre ++ 60 :: 37 :: r, ((p2 ++ [45, 37, 62])).length, ln ((p2 ++ [45, 37, 62])), lines, outC out plain begun ++ [⟨1, ln pre, acc⟩], [], begun⟩, ⟨⟨some b', cap'⟩, ⟨pb, pc⟩⟩), ⟨⟨⟨(fun h => by cases h), by rw [List.length_append]; exact h3, fun h => by have h : cap' = 0 := h; omega⟩, ok2.2⟩, rfl, rfl, by rw [← hX]; exact ⟨rfl, rfl, rfl, rfl⟩⟩, by rw [← hX]; rfl, ?_⟩
        refine wkH_cons ?_ (wkH_cons ?_ (wkH_cons rfl (wkH_cons rfl (wkH_nil _))))
        · rw [hl3]
          simp [at0]
        · simp [at0, partsC_app]
          exact ⟨rfl, rfl⟩
    rw [if_neg (by simp [h2])] at hX
    ((conv => whnf); (repeat ((first | refine BoxN.own ?_ | refine VrN.norm (wrap_i64 (by omega)) ?_ | refine VrN.keep ?_ | refine DrawN.calm (by decide +kernel) ?_ | refine Nd.mk (by decide +kernel) ?_ | refine Nd.mk (by omega) ?_ | (refine Nd.mk ?_ ?_; focus ((repeat' (first | exact trivial | exact wkE_refl _ | refine And.intro ?_ ?_)); done)) | refine RdN.intro _ rfl (by rfl) ?_); (conv => whnf)))); refine call1 (HasPrefix_c (c :: r3) [37, 62] _) ?_
    ((conv => whnf); (repeat ((first | refine BoxN.own ?_ | refine VrN.norm (wrap_i64 (by omega)) ?_ | refine VrN.keep ?_ | refine DrawN.calm (by decide +kernel) ?_ | refine Nd.mk (by decide +kernel) ?_ | refine Nd.mk (by omega) ?_ | (refine Nd.mk ?_ ?_; focus ((repeat' (first | exact trivial | exact wkE_refl _ | refine And.intro ?_ ?_)); done)) | refine RdN.intro _ rfl (by rfl) ?_); (conv => whnf))))
    refine brd_intro (fun h3 => ?_) (fun h3 => ?_)
    · rw [if_pos h3] at hX
      have htk : (c :: r3).take 2 = [37, 62] := pfx_take h3
      rw [htk] at hX
      have ha : IntKind.wrap .i64 ((p2.length : Int) + 2) = ((p2 ++ [37, 62]).length : Int) := by rw [wrap_i64 (by omega)]; simp
      have hl3 : ln p2 = ln (p2 ++ [37, 62]) := by rw [ln_app]; rfl
      -- 1: the kind · plain: the text ahead · true: is the builder used · (p2 ++ [37, 62]): the prefix behind the tag · rw [ha, hl3]: its place and line
      ((conv => whnf); (repeat ((first | refine BoxN.own ?_ | refine VrN.norm (wrap_i64 (by omega)) ?_ | refine VrN.keep ?_ | refine DrawN.calm (by decide +kernel) ?_ | refine Nd.mk (by decide +kernel) ?_ | refine Nd.mk (by omega) ?_ | (refine Nd.mk ?_ ?_; focus ((repeat' (first | exact trivial | exact wkE_refl _ | refine And.intro ?_ ?_)); done)) | refine RdN.intro _ rfl (by rfl) ?_); (conv => whnf))))
      refine callG (BString_c true acc b hb) [5, 6] rfl ⟨rfl, rfl, trivial⟩ rfl fun _ _ => ?_
      ((conv => whnf); (repeat ((first | refine BoxN.own ?_ | refine VrN.norm (wrap_i64 (by omega)) ?_ | refine VrN.keep ?_ | refine DrawN.calm (by decide +kernel) ?_ | refine Nd.mk (by decide +kernel) ?_ | refine Nd.mk (by omega) ?_ | (refine Nd.mk ?_ ?_; focus ((repeat' (first | exact trivial | exact wkE_refl _ | refine And.intro ?_ ?_)); done)) | refine RdN.intro _ rfl (by rfl) ?_); (conv => whnf))))
      refine DrawN.plan [0, 1] [(2, 1), (3, 1), (4, 1), (5, 1), (6, 0)] [(7, 0), (8, 0), (9, 0), (10, 0)] (by decide +kernel) ?_
      ((conv => whnf); (repeat ((first | refine BoxN.own ?_ | refine VrN.norm (wrap_i64 (by omega)) ?_ | refine VrN.keep ?_ | refine DrawN.calm (by decide +kernel) ?_ | refine Nd.mk (by decide +kernel) ?_ | refine Nd.mk (by omega) ?_ | (refine Nd.mk ?_ ?_; focus ((repeat' (first | exact trivial | exact wkE_refl _ | refine And.intro ?_ ?_)); done)) | refine RdN.intro _ rfl (by rfl) ?_); (conv => whnf))))
      refine Nd.mk ⟨by omega, rfl, rfl⟩ ?_
      (conv => whnf)
      refine AppN.grow 1 (partsC (outC out plain begun)) _ rfl rfl ⟨by omega, ⟨by show ((outC out plain begun).length + 1) * 32 ≤ _; omega, by show (outC out plain begun).length + 1 < _; omega⟩, by decide⟩ fun b' cap' h3 h4 => ?_
      ((conv => whnf); (repeat ((first | refine BoxN.own ?_ | refine VrN.norm (wrap_i64 (by omega)) ?_ | refine VrN.keep ?_ | refine DrawN.calm (by decide +kernel) ?_ | refine Nd.mk (by decide +kernel) ?_ | refine Nd.mk (by omega) ?_ | (refine Nd.mk ?_ ?_; focus ((repeat' (first | exact trivial | exact wkE_refl _ | refine And.intro ?_ ?_)); done)) | refine RdN.intro _ rfl (by rfl) ?_); (conv => whnf))))
      refine ⟨(⟨pre ++ 60 :: 37 :: r, ((p2 ++ [37, 62])).length, ln ((p2 ++ [37, 62])), lines, outC out plain begun ++ [⟨1, ln pre, acc⟩], [], begun⟩, ⟨⟨some b', cap'⟩, ⟨pb, pc⟩⟩), ⟨⟨⟨(fun h => by cases h), by rw [List.length_append]; exact h3, fun h => by have h : cap' = 0 := h; omega⟩, ok2.2⟩, rfl, rfl, by rw [← hX]; exact ⟨rfl, rfl, rfl, rfl⟩⟩, by rw [← hX]; rfl, ?_⟩
      refine wkH_cons ?_ (wkH_cons ?_ (wkH_cons rfl (wkH_cons rfl (wkH_nil _))))
      · rw [ha, hl3]
        simp [at0]
      · simp [at0, partsC_app]
        exact ⟨rfl, rfl⟩
    rw [if_neg (by simp [h3])] at hX
    have hb0 : byteAt (bs (c :: r3)) 0 = (c.toNat : Int) := byteAt_get rfl
    have ha : IntKind.wrap .i64 ((p2.length : Int) + 1) = ((p2 ++ [c]).length : Int) := by rw [wrap_i64 (by omega)]; simp
    have hl1 : IntKind.wrap .i64 (ln p2 + 1) = ln p2 + 1 := wrap_i64 (by omega)
    ((conv => whnf); (repeat ((first | refine BoxN.own ?_ | refine VrN.norm (wrap_i64 (by omega)) ?_ | refine VrN.keep ?_ | refine DrawN.calm (by decide +kernel) ?_ | refine Nd.mk (by decide +kernel) ?_ | refine Nd.mk (by omega) ?_ | (refine Nd.mk ?_ ?_; focus ((repeat' (first | exact trivial | exact wkE_refl _ | refine And.intro ?_ ?_)); done)) | refine RdN.intro _ rfl (by rfl) ?_); (conv => whnf))))
    refine Nd.mk ⟨by omega, by rw [bs_size]; simp⟩ ?_
    rw [show ((0 : Int).toNat) = 0 from rfl, hb0]
    ((conv => whnf); (repeat ((first | refine BoxN.own ?_ | refine VrN.norm (wrap_i64 (by omega)) ?_ | refine VrN.keep ?_ | refine DrawN.calm (by decide +kernel) ?_ | refine Nd.mk (by decide +kernel) ?_ | refine Nd.mk (by omega) ?_ | (refine Nd.mk ?_ ?_; focus ((repeat' (first | exact trivial | exact wkE_refl _ | refine And.intro ?_ ?_)); done)) | refine RdN.intro _ rfl (by rfl) ?_); (conv => whnf))))
    refine brd_eq (fun h4 => ?_) (fun h4 => ?_)
    · have hc : c = 10 := UInt8.toNat_inj.1 (by show c.toNat = 10; omega)
      have hl : ln (p2 ++ [c]) = ln p2 + 1 := by rw [ln_snoc, if_pos hc]
      ((conv => whnf); (repeat ((first | refine BoxN.own ?_ | refine VrN.norm (wrap_i64 (by omega)) ?_ | refine VrN.keep ?_ | refine DrawN.calm (by decide +kernel) ?_ | refine Nd.mk (by decide +kernel) ?_ | refine Nd.mk (by omega) ?_ | (refine Nd.mk ?_ ?_; focus ((repeat' (first | exact trivial | exact wkE_refl _ | refine And.intro ?_ ?_)); done)) | refine RdN.intro _ rfl (by rfl) ?_); (conv => whnf))))
      refine Nd.mk ⟨by omega, by rw [bs_size]; simp⟩ ?_
      rw [show ((0 : Int).toNat) = 0 from rfl, hb0]
      ((conv => whnf); (repeat ((first | refine BoxN.own ?_ | refine VrN.norm (wrap_i64 (by omega)) ?_ | refine VrN.keep ?_ | refine DrawN.calm (by decide +kernel) ?_ | refine Nd.mk (by decide +kernel) ?_ | refine Nd.mk (by omega) ?_ | (refine Nd.mk ?_ ?_; focus ((repeat' (first | exact trivial | exact wkE_refl _ | refine And.intro ?_ ?_)); done)) | refine RdN.intro _ rfl (by rfl) ?_); (conv => whnf))))
      refine callG (WriteByte_c true acc c b (by omega)) [5, 6] rfl ⟨rfl, rfl, trivial⟩ rfl fun b1 hb1 => ?_
      ((conv => whnf); (repeat ((first | refine BoxN.own ?_ | refine VrN.norm (wrap_i64 (by omega)) ?_ | refine VrN.keep ?_ | refine DrawN.calm (by decide +kernel) ?_ | refine Nd.mk (by decide +kernel) ?_ | refine Nd.mk (by omega) ?_ | (refine Nd.mk ?_ ?_; focus ((repeat' (first | exact trivial | exact wkE_refl _ | refine And.intro ?_ ?_)); done)) | refine RdN.intro _ rfl (by rfl) ?_); (conv => whnf))))
      refine ⟨⟨p2 ++ [c], r3, acc ++ [c], true, b1⟩, ⟨by rw [← hsp]; simp, hX, hb1, by simp; omega⟩, by show r3.length < (c :: r3).length; simp, ?_, ?_⟩
      · (repeat' (first | exact trivial | refine And.intro (by with_reducible rfl) ?_ | (with_reducible exact wkC_refl _) | (with_reducible exact wkCs_refl _) | refine And.intro ?_ ?_))
        all_goals rfl
      · refine wkH_cons ?_ (wkH_cons rfl (wkH_cons rfl (wkH_cons rfl (wkH_cons rfl (wkH_cons rfl (wkH_cons rfl (wkH_nil _)))))))
        rw [ha, hl1, hl]
    · have hc : ¬ c = 10 := fun h => h4 (by rw [h]; rfl)
      have hl : ln (p2 ++ [c]) = ln p2 := by rw [ln_snoc, if_neg hc]
      ((conv => whnf); (repeat ((first | refine BoxN.own ?_ | refine VrN.norm (wrap_i64 (by omega)) ?_ | refine VrN.keep ?_ | refine DrawN.calm (by decide +kernel) ?_ | refine Nd.mk (by decide +kernel) ?_ | refine Nd.mk (by omega) ?_ | (refine Nd.mk ?_ ?_; focus ((repeat' (first | exact trivial | exact wkE_refl _ | refine And.intro ?_ ?_)); done)) | refine RdN.intro _ rfl (by rfl) ?_); (conv => whnf))))
      refine Nd.mk ⟨by omega, by rw [bs_size]; simp⟩ ?_
      rw [show ((0 : Int).toNat) = 0 from rfl, hb0]
      ((conv => whnf); (repeat ((first | refine BoxN.own ?_ | refine VrN.norm (wrap_i64 (by omega)) ?_ | refine VrN.keep ?_ | refine DrawN.calm (by decide +kernel) ?_ | refine Nd.mk (by decide +kernel) ?_ | refine Nd.mk (by omega) ?_ | (refine Nd.mk ?_ ?_; focus ((repeat' (first | exact trivial | exact wkE_refl _ | refine And.intro ?_ ?_)); done)) | refine RdN.intro _ rfl (by rfl) ?_); (conv => whnf))))
      refine callG (WriteByte_c true acc c b (by omega)) [5, 6] rfl ⟨rfl, rfl, trivial⟩ rfl fun b1 hb1 => ?_
      ((conv => whnf); (repeat ((first | refine BoxN.own ?_ | refine VrN.norm (wrap_i64 (by omega)) ?_ | refine VrN.keep ?_ | refine DrawN.calm (by decide +kernel) ?_ | refine Nd.mk (by decide +kernel) ?_ | refine Nd.mk (by omega) ?_ | (refine Nd.mk ?_ ?_; focus ((repeat' (first | exact trivial | exact wkE_refl _ | refine And.intro ?_ ?_)); done)) | refine RdN.intro _ rfl (by rfl) ?_); (conv => whnf))))
      refine ⟨⟨p2 ++ [c], r3, acc ++ [c], true, b1⟩, ⟨by rw [← hsp]; simp, hX, hb1, by simp; omega⟩, by show r3.length < (c :: r3).length; simp, ?_, ?_⟩
      · (repeat' (first | exact trivial | refine And.intro (by with_reducible rfl) ?_ | (with_reducible exact wkC_refl _) | (with_reducible exact wkCs_refl _) | refine And.intro ?_ ?_))
        all_goals rfl
      · refine wkH_cons ?_ (wkH_cons rfl (wkH_cons rfl (wkH_cons rfl (wkH_cons rfl (wkH_cons rfl (wkH_cons rfl (wkH_nil _)))))))
        rw [ha, hl]
end Go.Proofs.YtfcjgklghgpddaaGreatDoor
