/-
  Lemmas (MD3 MA1 MP12 MP13 MP11 MP14 MP15 MP18 MP19 MD5 MC6 MC8 MD6 MC9 MC10 MC11 MC12 MC13).
-/
import Derived.Test.YtgogonnnojcioaaGreatDoorMde7
set_option linter.unusedVariables false
set_option linter.unusedSimpArgs false
namespace Go.Proofs.YtgogonnnojcioaaGreatDoor
open Go.AX Go.RowKit Go.Core Go.Marshal
set_option maxRecDepth 20000
set_option maxHeartbeats 4000000 in
theorem QAl {a : Option Addr} (ca : Nat) {l : List Qaj} (ha : a = none -> l = []) (hok : ∀ p ∈ l, Qa5 p) (hg : InG (l.map (·.c))) {K : Nat} (hc : ∀ i, InI (l.map (·.c)) i -> Qp5 K (at_ (l.map (·.c)) i)) (hl2 : l.length <= 2000) :
  ∀ (n : Nat) (cs : List Int) (ss : List (List UInt8)) (i j : BSt) (u : Nat), u < l.length -> Qb3 (l.map (·.c)) cs < n -> i.ok cs.length -> j.ok ss.length -> Lim (Qae (l.map (·.c)) n ⟨[], cs, ss⟩ (u : Int)) ->
  SpecH Tryz.prog 47 [.c (.lp 0 0), .c (.v (.int .i64 (u : Int)))] (wD (.slice a l.length ca) (GrF a l) cs ss i j) (dOut (.slice a l.length ca) (GrF a l) (Qae (l.map (·.c)) n ⟨[], cs, ss⟩ (u : Int))) := by
 intro n
 induction n with
 | zero => intro cs ss i j u _ h; omega
 | succ n ih =>
  intro cs ss i j u hu hn hi hj hlim
  obtain ⟨p, hp⟩ : ∃ p, l[u]? = some p := ⟨_, Zbz hu⟩
  have hpm := Ziz hp
  have hpo := hok p hpm
  have hin : InI (l.map (·.c)) (u : Int) := ⟨by omega, by simp; omega⟩
  have hcw := hc (u : Int) hin
  have hat : at_ (l.map (·.c)) (u : Int) = p.c := Qgx hp
  rw [hat] at hcw
  have hlw := (Qaw (l.map (·.c)) (n + 1) ⟨[], cs, ss⟩ (u : Int)).lim hlim
  have hls := hlw.s
  have hlc := hlw.c
  simp only at hls hlc
  have hsa : a.isSome = true := by
   cases a with
   | none => rw [ha rfl] at hu; exact absurd hu (Nat.not_lt_zero _)
   | some b => rfl
  have houts : ∀ x ∈ p.c.items, InI (l.map (·.c)) x := fun x hx => Qc5 hg hin (by unfold outs; rw [hat]; exact hx)
  have hkk := hcw.kind
  have htx := hcw.text
  obtain ⟨⟨kind, num0, text, names, items⟩, na, nc, ia, ic⟩ := p
  simp only at hkk htx hat hcw hpo houts
  rw [Qba, hat] at hlim
  obtain rfl | rfl | rfl | rfl | rfl | rfl | rfl | rfl | rfl : kind = 0 \/ kind = 1 \/ kind = 2 \/ kind = 3 \/ kind = 4 \/ kind = 5 \/ kind = 6 \/ kind = 7 \/ kind = 8 := by omega
  ·-- 0: the kind
   rw [Qba, hat]
   refine ownC hm Tryz.func47 (by kernel_rfl) rfl rfl (fun _ _ => Qly _ _ _ _ _ _) (fun _ _ => Zcz _) ?_
   refine wX ?_
   refine Nd.mk ⟨hsa, by omega, by omega⟩ ?_
   refine wX ?_
   refine LdN.agg [.int .i64 0, .int .i64 num0, .string (bs text), .slice na names.length nc, .slice ia items.length ic] rfl (fun w hw => hw.2.2.1.1) rfl (fun k hk => by rw [Zdz]; exact Qau l u k hk hp) ?_
   refine wX ?_
   exact ⟨(i, j), ⟨hi, hj⟩, rfl, Qaa _, Qaa _, Qaa _, Qaa _, trivial⟩
  ·-- 1: the kind
   rw [Qba, hat]
   refine ownC hm Tryz.func47 (by kernel_rfl) rfl rfl (fun _ _ => Qly _ _ _ _ _ _) (fun _ _ => Zcz _) ?_
   refine wX ?_
   refine Nd.mk ⟨hsa, by omega, by omega⟩ ?_
   refine wX ?_
   refine LdN.agg [.int .i64 1, .int .i64 num0, .string (bs text), .slice na names.length nc, .slice ia items.length ic] rfl (fun w hw => hw.2.2.1.1) rfl (fun k hk => by rw [Zdz]; exact Qau l u k hk hp) ?_
   refine wX ?_
   exact ⟨(i, j), ⟨hi, hj⟩, rfl, Qaa _, Qaa _, Qaa _, Qaa _, trivial⟩
  ·-- 2: the kind
   rw [Qba, hat]
   refine ownC hm Tryz.func47 (by kernel_rfl) rfl rfl (fun _ _ => Qly _ _ _ _ _ _) (fun _ _ => Zcz _) ?_
   refine wX ?_
   refine Nd.mk ⟨hsa, by omega, by omega⟩ ?_
   refine wX ?_
   refine LdN.agg [.int .i64 2, .int .i64 num0, .string (bs text), .slice na names.length nc, .slice ia items.length ic] rfl (fun w hw => hw.2.2.1.1) rfl (fun k hk => by rw [Zdz]; exact Qau l u k hk hp) ?_
   refine wX ?_
   exact ⟨(i, j), ⟨hi, hj⟩, rfl, Qaa _, Qaa _, Qaa _, Qaa _, trivial⟩
  ·have hmx : maxN = 1000000000000000 := rfl
   have hnb := hcw.num rfl
   simp only at hnb
   have hsl : Marshal.sgn num0 <= 2000000000000000 := by unfold Marshal.sgn; split <;> omega
   have hnl := Qbd (n := Marshal.sgn num0) (by omega)
   rw [Qba, hat]
   refine ownC hm Tryz.func47 (by kernel_rfl) rfl rfl (fun _ _ => Qly _ _ _ _ _ _) (fun _ _ => Zcz _) ?_
   refine wX ?_
   refine Nd.mk ⟨hsa, by omega, by omega⟩ ?_
   refine wX ?_
   refine LdN.agg [.int .i64 3, .int .i64 num0, .string (bs text), .slice na names.length nc, .slice ia items.length ic] rfl (fun w hw => hw.2.2.1.1) rfl (fun k hk => by rw [Zdz]; exact Qau l u k hk hp) ?_
   refine wX ?_
   refine Qao (Qwq num0 hnb _) ?_
   refine wX ?_
   refine Nd.mk (by rw [Qal]; show 1 + _ < _; first | omega | (simp only [Zhz]; omega)) ?_
   rw [show (⟨#[105]⟩ : ByteArray) = bs [105] from rfl, Qb4]
   refine wX ?_
   exact ⟨(i, j), ⟨hi, hj⟩, rfl, Qaa _, Qaa _, Qaa _, Qaa _, trivial⟩
  ·-- 4: the kind
   rw [Qba, hat]
   refine ownC hm Tryz.func47 (by kernel_rfl) rfl rfl (fun _ _ => Qly _ _ _ _ _ _) (fun _ _ => Zcz _) ?_
   refine wX ?_
   refine Nd.mk ⟨hsa, by omega, by omega⟩ ?_
   refine wX ?_
   refine LdN.agg [.int .i64 4, .int .i64 num0, .string (bs text), .slice na names.length nc, .slice ia items.length ic] rfl (fun w hw => hw.2.2.1.1) rfl (fun k hk => by rw [Zdz]; exact Qau l u k hk hp) ?_
   refine wX ?_
   refine Qao (Qnb (at0 i.ob) i.cap cs (u : Int) (fun h => by cases hob : i.ob with | none => exact Zez (hi.1 hob).1 | some b => rw [hob] at h; cases h) (by omega) _ (fun w hw => hw.1)) ?_
   by_cases hm : (u : Int) ∈ cs
   ·have hix := List.idxOf_lt_length_iff.2 hm
    rw [if_pos hm, Qdi (by simp) hm]
    generalize cs.idxOf (u : Int) = k at hix ⊢
    have hnl := Qbd (n := k) (by omega)
    refine wX ?_
    refine Qao (Qdt k (by omega) _) ?_
    refine wX ?_
    refine Nd.mk (by rw [Qal]; show 1 + _ < _; first | omega | (simp only [Zhz]; omega)) ?_
    rw [show (⟨#[64]⟩ : ByteArray) = bs [64] from rfl, Qb4]
    refine wX ?_
    exact ⟨(i, j), ⟨hi, hj⟩, rfl, Qaa _, Qaa _, Qaa _, Qaa _, trivial⟩
   rw [if_neg hm]
   refine wX ?_
   refine Nd.mk ⟨Zcz 1, rfl, rfl⟩ ?_
   (conv => whnf)
   refine AppN.grow 1 (iC cs) [.int .i64 (u : Int)] rfl rfl ⟨Zcz 1, ⟨by show (cs.length + 1) * 8 <= _; omega, by omega⟩, Nat.one_ne_zero⟩ fun cb ccap hcc _ => ?_
   have hcl : iC cs ++ [.int .i64 (u : Int)] = iC (cs ++ [(u : Int)]) := by simp [iC]
   have hll : cs.length + 1 = (cs ++ [(u : Int)]).length := by simp
   rw [hcl, hll]
   have hi1 : BSt.ok (cs ++ [(u : Int)]).length ⟨some cb, ccap⟩ := Qiq (by rw [<- hll]; omega) (by rw [<- hll]; exact hcc)
   have hlt := Qdx hin hm (t := cs ++ [(u : Int)]) (fun x hx => by simp [hx]) (by simp)
   have hnew := Qdh (f := Qae (l.map (·.c)) n) (c := ⟨4, num0, text, names, items⟩) (w := ⟨[], cs, ss⟩) (a := (u : Int)) (by simp) hm
   refine wX ?_
   rw [if_pos rfl] at hnew
   rw [hnew]
   have hnl := Qbd (n := text.length) (by omega)
   refine Qao (Qxs text (by omega) _) ?_
   refine wX ?_
   refine Nd.mk (by rw [Qal]; show 1 + _ < _; first | omega | (simp only [Zhz]; omega)) ?_
   rw [show (⟨#[34]⟩ : ByteArray) = bs [34] from rfl, Qb4]
   refine wX ?_
   exact ⟨(⟨some cb, ccap⟩, j), ⟨hi1, hj⟩, rfl, Qaa _, Qaa _, Qaa _, Qaa _, trivial⟩
  ·have hsy := hcw.sym rfl
   simp only at hsy
   rw [Qba, hat]
   refine ownC hm Tryz.func47 (by kernel_rfl) rfl rfl (fun _ _ => Qly _ _ _ _ _ _) (fun _ _ => Zcz _) ?_
   refine wX ?_
   refine Nd.mk ⟨hsa, by omega, by omega⟩ ?_
   refine wX ?_
   refine LdN.agg [.int .i64 5, .int .i64 num0, .string (bs text), .slice na names.length nc, .slice ia items.length ic] rfl (fun w hw => hw.2.2.1.1) rfl (fun k hk => by rw [Zdz]; exact Qau l u k hk hp) ?_
   refine wX ?_
   refine Qai (Qmy (.slice a l.length ca) (GrF a l) cs ss text i j hi hj (by omega) hls) [0, 1, 2, 3] rfl ⟨rfl, rfl, rfl, rfl, trivial⟩ rfl fun x hx => ?_
   refine wX ?_
   exact ⟨x, hx, rfl, Qaa _, Qaa _, Qaa _, Qaa _, trivial⟩
  ·-- 6: the kind
   rw [Qba, hat]
   refine ownC hm Tryz.func47 (by kernel_rfl) rfl rfl (fun _ _ => Qly _ _ _ _ _ _) (fun _ _ => Zcz _) ?_
   refine wX ?_
   refine Nd.mk ⟨hsa, by omega, by omega⟩ ?_
   refine wX ?_
   refine LdN.agg [.int .i64 6, .int .i64 num0, .string (bs text), .slice na names.length nc, .slice ia items.length ic] rfl (fun w hw => hw.2.2.1.1) rfl (fun k hk => by rw [Zdz]; exact Qau l u k hk hp) ?_
   refine wX ?_
   refine Qao (Qnb (at0 i.ob) i.cap cs (u : Int) (fun h => by cases hob : i.ob with | none => exact Zez (hi.1 hob).1 | some b => rw [hob] at h; cases h) (by omega) _ (fun w hw => hw.1)) ?_
   by_cases hm : (u : Int) ∈ cs
   ·have hix := List.idxOf_lt_length_iff.2 hm
    rw [if_pos hm, Qdi (by simp) hm]
    generalize cs.idxOf (u : Int) = k at hix ⊢
    have hnl := Qbd (n := k) (by omega)
    refine wX ?_
    refine Qao (Qdt k (by omega) _) ?_
    refine wX ?_
    refine Nd.mk (by rw [Qal]; show 1 + _ < _; first | omega | (simp only [Zhz]; omega)) ?_
    rw [show (⟨#[64]⟩ : ByteArray) = bs [64] from rfl, Qb4]
    refine wX ?_
    exact ⟨(i, j), ⟨hi, hj⟩, rfl, Qaa _, Qaa _, Qaa _, Qaa _, trivial⟩
   rw [if_neg hm]
   refine wX ?_
   refine Nd.mk ⟨Zcz 1, rfl, rfl⟩ ?_
   (conv => whnf)
   refine AppN.grow 1 (iC cs) [.int .i64 (u : Int)] rfl rfl ⟨Zcz 1, ⟨by show (cs.length + 1) * 8 <= _; omega, by omega⟩, Nat.one_ne_zero⟩ fun cb ccap hcc _ => ?_
   have hcl : iC cs ++ [.int .i64 (u : Int)] = iC (cs ++ [(u : Int)]) := by simp [iC]
   have hll : cs.length + 1 = (cs ++ [(u : Int)]).length := by simp
   rw [hcl, hll]
   have hi1 : BSt.ok (cs ++ [(u : Int)]).length ⟨some cb, ccap⟩ := Qiq (by rw [<- hll]; omega) (by rw [<- hll]; exact hcc)
   have hlt := Qdx hin hm (t := cs ++ [(u : Int)]) (fun x hx => by simp [hx]) (by simp)
   have hnew := Qdh (f := Qae (l.map (·.c)) n) (c := ⟨6, num0, text, names, items⟩) (w := ⟨[], cs, ss⟩) (a := (u : Int)) (by simp) hm
   refine wX ?_
   have hlen := hcw.len
   simp only at hlen
   rw [if_neg (by simp), if_pos rfl] at hnew
   have hnl := Qbd (n := items.length) (by omega)
   refine Qao (Qdt items.length (by omega) _) ?_
   refine wX ?_
   refine Nd.mk (by rw [Qal]; show 1 + _ < _; first | omega | (simp only [Zhz]; omega)) ?_
   rw [show (⟨#[91]⟩ : ByteArray) = bs [91] from rfl, Qb4]
   refine wX ?_
   obtain ⟨w2, hw2⟩ : ∃ w2 : Wr, w2 = ⟨[91] ++ num items.length, cs ++ [(u : Int)], ss⟩ := ⟨_, rfl⟩
   have he : Qdj (Qae (l.map (·.c)) n) ⟨6, num0, text, names, items⟩ ⟨[], cs, ss⟩ (u : Int) = items.foldl (Qae (l.map (·.c)) n) w2 := by rw [hw2]; exact hnew
   rw [he]
   have hl2 : Lim (items.foldl (Qae (l.map (·.c)) n) w2) := by rw [<- he]; exact hlim
   have hfr : ∀ k, Qb3 (l.map (·.c)) ((items.take k).foldl (Qae (l.map (·.c)) n) w2).cells < n := fun k => by
    have h1 := Qct (g := l.map (·.c)) (Qbm (Qaw (l.map (·.c)) n) (items.take k) w2).sub
    have h2 : w2.cells = cs ++ [(u : Int)] := by rw [hw2]
    rw [h2] at h1
    omega
   refine LoopN.intro (Nat × BSt × BSt) (fun ⟨k, x⟩ => k <= items.length /\ x.1.ok ((items.take k).foldl (Qae (l.map (·.c)) n) w2).cells.length /\ x.2.ok ((items.take k).foldl (Qae (l.map (·.c)) n) w2).ss.length)
    (fun ⟨k, _⟩ => mkS Tryz.f47.ntmps 0 [(0, .c (.lp 0 0)), (5, .c (.lp 4 0)), (7, .c (.v (.string (bs ((items.take k).foldl (Qae (l.map (·.c)) n) w2).out)))), (9, .c (.v (.int .i64 (k : Int))))])
    (fun ⟨k, x⟩ => wD (.slice a l.length ca) (GrF a l) ((items.take k).foldl (Qae (l.map (·.c)) n) w2).cells ((items.take k).foldl (Qae (l.map (·.c)) n) w2).ss x.1 x.2 ++ [.blk 87 [.v (.int .i64 6), .v (.int .i64 num0), .v (.string (bs text)), .v (.slice na names.length nc), .v (.slice ia items.length ic)], .dead]) (fun ⟨k, _⟩ => items.length - k) [] rfl (fun _ => rfl) (fun _ => rfl) (fun _ _ => Qan rfl) ?_ ?_
   ·refine ⟨(0, ⟨some cb, ccap⟩, j), ⟨Zkz _, by rw [hw2]; exact hi1, by rw [hw2]; exact hj⟩, ?_, ?_⟩
    ·rw [hw2]
     exact wKK
    ·rw [hw2]
     exact ⟨Qaa _, Qaa _, Qaa _, Qaa _, Qaa _, trivial, trivial⟩
   rintro ⟨k, x0⟩ ⟨hk, hx1, hx2⟩
   obtain ⟨i3, j3⟩ := x0
   simp only at hx1 hx2
   refine wX ?_
   refine Qab (fun h1 => ?_) (fun h1 => ?_)
   ·-- an item: what is known of it
    obtain ⟨x, hx⟩ : ∃ z, items[k]? = some z := ⟨_, Zbz (by omega)⟩
    have hxi := houts x (Ziz hx)
    obtain ⟨xn, rfl⟩ : ∃ xn : Nat, x = (xn : Int) := ⟨x.toNat, by have := hxi.1; omega⟩
    have hxl : xn < l.length := by have := hxi.2; simp only [List.length_map] at this; omega
    have hxa : ia.isSome = true := by
     cases ia with
     | none => have h0 : items = [] := hpo.ia rfl; rw [h0] at hx; cases hx
     | some b => rfl
    have hnx := Qfm (f := Qae (l.map (·.c)) n) (b := w2) hx
    have hl6 := Qg3 (Qaw (l.map (·.c)) n) hl2 (k + 1)
    have hfk := hfr k
    obtain ⟨wk, hwk⟩ : ∃ w : Wr, w = (items.take k).foldl (Qae (l.map (·.c)) n) w2 := ⟨_, rfl⟩
    rw [hnx] at hl6
    rw [<- hwk] at hnx hl6 hfk hx1 hx2 ⊢
    have hat2 := Qjs (l.map (·.c)) n wk (xn : Int)
    have hl7 : Lim (Qae (l.map (·.c)) n ⟨[], wk.cells, wk.ss⟩ (xn : Int)) := by
     rw [hat2] at hl6
     exact ⟨by have := hl6.o; unfold Qbq at this; simp only [Zhz] at this; omega, hl6.s, hl6.c⟩
    have hl8 := hl6.o
    rw [hat2] at hnx hl8
    unfold Qbq at hl8
    simp only [Zhz] at hl8
    refine wX ?_
    refine Nd.mk ⟨hxa, by omega, by omega⟩ ?_
    refine wX ?_
    refine LdN.one (.int .i64 (xn : Int)) rfl (fun w hw => (hw.2.2.1.2 _ hpm).2) (by rw [Zdz]; show (iC items)[k * 1]? = _; rw [Nat.mul_one]; exact Qcb hx) ?_
    refine wX ?_
    refine Qai (ih wk.cells wk.ss i3 j3 xn hxl hfk hx1 hx2 hl7) [0, 1, 2, 3] rfl ⟨rfl, rfl, rfl, rfl, trivial⟩ rfl fun y hy => ?_
    generalize Qae (l.map (·.c)) n ⟨[], wk.cells, wk.ss⟩ (xn : Int) = V at hnx hl8 hy ⊢
    refine wX ?_
    refine Nd.mk (by rw [Qal, Qal]; omega) ?_
    rw [Qb4]
    refine wX ?_
    have e1 : ((items.take (k + 1)).foldl (Qae (l.map (·.c)) n) w2).out = wk.out ++ V.out := by rw [hnx]; rfl
    have e2 : ((items.take (k + 1)).foldl (Qae (l.map (·.c)) n) w2).cells = V.cells := by rw [hnx]; rfl
    have e3 : ((items.take (k + 1)).foldl (Qae (l.map (·.c)) n) w2).ss = V.ss := by rw [hnx]; rfl
    refine ⟨(k + 1, y), ⟨by omega, by rw [e2]; exact hy.1, by rw [e3]; exact hy.2⟩, by show items.length - (k + 1) < items.length - k; omega, ?_, ?_⟩
    ·(repeat' (first | exact trivial | refine And.intro (by with_reducible rfl) ?_ | (with_reducible exact Qay _) | (with_reducible exact Qaq _) | refine And.intro ?_ ?_))
     all_goals first | rfl | exact Qes (by rw [Qaf (by omega)]; omega) | (rw [e1])
    ·show wkH _ (wD _ _ ((items.take (k + 1)).foldl (Qae (l.map (·.c)) n) w2).cells ((items.take (k + 1)).foldl (Qae (l.map (·.c)) n) w2).ss _ _ ++ _)
     rw [e2, e3]
     exact ⟨Qaa _, Qaa _, Qaa _, Qaa _, Qaa _, trivial, trivial⟩
   ·obtain rfl : k = items.length := by omega
    rw [Ztz] at hx1 hx2 ⊢
    refine wX ?_
    exact ⟨(i3, j3), ⟨hx1, hx2⟩, rfl, Qaa _, Qaa _, Qaa _, Qaa _, trivial⟩
  ·-- 7: the kind
   rw [Qba, hat]
   refine ownC hm Tryz.func47 (by kernel_rfl) rfl rfl (fun _ _ => Qly _ _ _ _ _ _) (fun _ _ => Zcz _) ?_
   refine wX ?_
   refine Nd.mk ⟨hsa, by omega, by omega⟩ ?_
   refine wX ?_
   refine LdN.agg [.int .i64 7, .int .i64 num0, .string (bs text), .slice na names.length nc, .slice ia items.length ic] rfl (fun w hw => hw.2.2.1.1) rfl (fun k hk => by rw [Zdz]; exact Qau l u k hk hp) ?_
   refine wX ?_
   refine Qao (Qnb (at0 i.ob) i.cap cs (u : Int) (fun h => by cases hob : i.ob with | none => exact Zez (hi.1 hob).1 | some b => rw [hob] at h; cases h) (by omega) _ (fun w hw => hw.1)) ?_
   by_cases hm : (u : Int) ∈ cs
   ·have hix := List.idxOf_lt_length_iff.2 hm
    rw [if_pos hm, Qdi (by simp) hm]
    generalize cs.idxOf (u : Int) = k at hix ⊢
    have hnl := Qbd (n := k) (by omega)
    refine wX ?_
    refine Qao (Qdt k (by omega) _) ?_
    refine wX ?_
    refine Nd.mk (by rw [Qal]; show 1 + _ < _; first | omega | (simp only [Zhz]; omega)) ?_
    rw [show (⟨#[64]⟩ : ByteArray) = bs [64] from rfl, Qb4]
    refine wX ?_
    exact ⟨(i, j), ⟨hi, hj⟩, rfl, Qaa _, Qaa _, Qaa _, Qaa _, trivial⟩
   rw [if_neg hm]
   refine wX ?_
   refine Nd.mk ⟨Zcz 1, rfl, rfl⟩ ?_
   (conv => whnf)
   refine AppN.grow 1 (iC cs) [.int .i64 (u : Int)] rfl rfl ⟨Zcz 1, ⟨by show (cs.length + 1) * 8 <= _; omega, by omega⟩, Nat.one_ne_zero⟩ fun cb ccap hcc _ => ?_
   have hcl : iC cs ++ [.int .i64 (u : Int)] = iC (cs ++ [(u : Int)]) := by simp [iC]
   have hll : cs.length + 1 = (cs ++ [(u : Int)]).length := by simp
   rw [hcl, hll]
   have hi1 : BSt.ok (cs ++ [(u : Int)]).length ⟨some cb, ccap⟩ := Qiq (by rw [<- hll]; omega) (by rw [<- hll]; exact hcc)
   have hlt := Qdx hin hm (t := cs ++ [(u : Int)]) (fun x hx => by simp [hx]) (by simp)
   have hnew := Qdh (f := Qae (l.map (·.c)) n) (c := ⟨7, num0, text, names, items⟩) (w := ⟨[], cs, ss⟩) (a := (u : Int)) (by simp) hm
   refine wX ?_
   have hlen := hcw.len
   simp only at hlen
   rw [if_neg (by simp), if_neg (by simp), if_pos rfl] at hnew
   have hnl := Qbd (n := items.length / 2) (by omega)
   rw [show ((items.length : Int)).tdiv 2 = ((items.length / 2 : Nat) : Int) from (Int.ofNat_tdiv _ _).symm]
   try rw [Qaf (x := ((items.length / 2 : Nat) : Int)) (by omega)]
   refine Qao (Qdt (items.length / 2) (by omega) _) ?_
   refine wX ?_
   refine Nd.mk (by rw [Qal]; show 1 + _ < _; first | omega | (simp only [Zhz]; omega)) ?_
   rw [show (⟨#[123]⟩ : ByteArray) = bs [123] from rfl, Qb4]
   refine wX ?_
   obtain ⟨w2, hw2⟩ : ∃ w2 : Wr, w2 = ⟨[123] ++ num (items.length / 2), cs ++ [(u : Int)], ss⟩ := ⟨_, rfl⟩
   have he : Qdj (Qae (l.map (·.c)) n) ⟨7, num0, text, names, items⟩ ⟨[], cs, ss⟩ (u : Int) = items.foldl (Qae (l.map (·.c)) n) w2 := by rw [hw2]; exact hnew
   rw [he]
   have hl2 : Lim (items.foldl (Qae (l.map (·.c)) n) w2) := by rw [<- he]; exact hlim
   have hfr : ∀ k, Qb3 (l.map (·.c)) ((items.take k).foldl (Qae (l.map (·.c)) n) w2).cells < n := fun k => by
    have h1 := Qct (g := l.map (·.c)) (Qbm (Qaw (l.map (·.c)) n) (items.take k) w2).sub
    have h2 : w2.cells = cs ++ [(u : Int)] := by rw [hw2]
    rw [h2] at h1
    omega
   refine LoopN.intro (Nat × BSt × BSt) (fun ⟨k, x⟩ => k <= items.length /\ x.1.ok ((items.take k).foldl (Qae (l.map (·.c)) n) w2).cells.length /\ x.2.ok ((items.take k).foldl (Qae (l.map (·.c)) n) w2).ss.length)
    (fun ⟨k, _⟩ => mkS Tryz.f47.ntmps 0 [(0, .c (.lp 0 0)), (5, .c (.lp 4 0)), (7, .c (.v (.string (bs ((items.take k).foldl (Qae (l.map (·.c)) n) w2).out)))), (9, .c (.v (.int .i64 (k : Int))))])
    (fun ⟨k, x⟩ => wD (.slice a l.length ca) (GrF a l) ((items.take k).foldl (Qae (l.map (·.c)) n) w2).cells ((items.take k).foldl (Qae (l.map (·.c)) n) w2).ss x.1 x.2 ++ [.blk 87 [.v (.int .i64 7), .v (.int .i64 num0), .v (.string (bs text)), .v (.slice na names.length nc), .v (.slice ia items.length ic)], .dead]) (fun ⟨k, _⟩ => items.length - k) [] rfl (fun _ => rfl) (fun _ => rfl) (fun _ _ => Qan rfl) ?_ ?_
   ·refine ⟨(0, ⟨some cb, ccap⟩, j), ⟨Zkz _, by rw [hw2]; exact hi1, by rw [hw2]; exact hj⟩, ?_, ?_⟩
    ·rw [hw2]
     exact wKK
    ·rw [hw2]
     exact ⟨Qaa _, Qaa _, Qaa _, Qaa _, Qaa _, trivial, trivial⟩
   rintro ⟨k, x0⟩ ⟨hk, hx1, hx2⟩
   obtain ⟨i3, j3⟩ := x0
   simp only at hx1 hx2
   refine wX ?_
   refine Qab (fun h1 => ?_) (fun h1 => ?_)
   ·-- an item: what is known of it
    obtain ⟨x, hx⟩ : ∃ z, items[k]? = some z := ⟨_, Zbz (by omega)⟩
    have hxi := houts x (Ziz hx)
    obtain ⟨xn, rfl⟩ : ∃ xn : Nat, x = (xn : Int) := ⟨x.toNat, by have := hxi.1; omega⟩
    have hxl : xn < l.length := by have := hxi.2; simp only [List.length_map] at this; omega
    have hxa : ia.isSome = true := by
     cases ia with
     | none => have h0 : items = [] := hpo.ia rfl; rw [h0] at hx; cases hx
     | some b => rfl
    have hnx := Qfm (f := Qae (l.map (·.c)) n) (b := w2) hx
    have hl6 := Qg3 (Qaw (l.map (·.c)) n) hl2 (k + 1)
    have hfk := hfr k
    obtain ⟨wk, hwk⟩ : ∃ w : Wr, w = (items.take k).foldl (Qae (l.map (·.c)) n) w2 := ⟨_, rfl⟩
    rw [hnx] at hl6
    rw [<- hwk] at hnx hl6 hfk hx1 hx2 ⊢
    have hat2 := Qjs (l.map (·.c)) n wk (xn : Int)
    have hl7 : Lim (Qae (l.map (·.c)) n ⟨[], wk.cells, wk.ss⟩ (xn : Int)) := by
     rw [hat2] at hl6
     exact ⟨by have := hl6.o; unfold Qbq at this; simp only [Zhz] at this; omega, hl6.s, hl6.c⟩
    have hl8 := hl6.o
    rw [hat2] at hnx hl8
    unfold Qbq at hl8
    simp only [Zhz] at hl8
    refine wX ?_
    refine Nd.mk ⟨hxa, by omega, by omega⟩ ?_
    refine wX ?_
    refine LdN.one (.int .i64 (xn : Int)) rfl (fun w hw => (hw.2.2.1.2 _ hpm).2) (by rw [Zdz]; show (iC items)[k * 1]? = _; rw [Nat.mul_one]; exact Qcb hx) ?_
    refine wX ?_
    refine Qai (ih wk.cells wk.ss i3 j3 xn hxl hfk hx1 hx2 hl7) [0, 1, 2, 3] rfl ⟨rfl, rfl, rfl, rfl, trivial⟩ rfl fun y hy => ?_
    generalize Qae (l.map (·.c)) n ⟨[], wk.cells, wk.ss⟩ (xn : Int) = V at hnx hl8 hy ⊢
    refine wX ?_
    refine Nd.mk (by rw [Qal, Qal]; omega) ?_
    rw [Qb4]
    refine wX ?_
    have e1 : ((items.take (k + 1)).foldl (Qae (l.map (·.c)) n) w2).out = wk.out ++ V.out := by rw [hnx]; rfl
    have e2 : ((items.take (k + 1)).foldl (Qae (l.map (·.c)) n) w2).cells = V.cells := by rw [hnx]; rfl
    have e3 : ((items.take (k + 1)).foldl (Qae (l.map (·.c)) n) w2).ss = V.ss := by rw [hnx]; rfl
    refine ⟨(k + 1, y), ⟨by omega, by rw [e2]; exact hy.1, by rw [e3]; exact hy.2⟩, by show items.length - (k + 1) < items.length - k; omega, ?_, ?_⟩
    ·(repeat' (first | exact trivial | refine And.intro (by with_reducible rfl) ?_ | (with_reducible exact Qay _) | (with_reducible exact Qaq _) | refine And.intro ?_ ?_))
     all_goals first | rfl | exact Qes (by rw [Qaf (by omega)]; omega) | (rw [e1])
    ·show wkH _ (wD _ _ ((items.take (k + 1)).foldl (Qae (l.map (·.c)) n) w2).cells ((items.take (k + 1)).foldl (Qae (l.map (·.c)) n) w2).ss _ _ ++ _)
     rw [e2, e3]
     exact ⟨Qaa _, Qaa _, Qaa _, Qaa _, Qaa _, trivial, trivial⟩
   ·obtain rfl : k = items.length := by omega
    rw [Ztz] at hx1 hx2 ⊢
    refine wX ?_
    exact ⟨(i3, j3), ⟨hx1, hx2⟩, rfl, Qaa _, Qaa _, Qaa _, Qaa _, trivial⟩
  ·-- 8: the kind
   rw [Qba, hat]
   refine ownC hm Tryz.func47 (by kernel_rfl) rfl rfl (fun _ _ => Qly _ _ _ _ _ _) (fun _ _ => Zcz _) ?_
   refine wX ?_
   refine Nd.mk ⟨hsa, by omega, by omega⟩ ?_
   refine wX ?_
   refine LdN.agg [.int .i64 8, .int .i64 num0, .string (bs text), .slice na names.length nc, .slice ia items.length ic] rfl (fun w hw => hw.2.2.1.1) rfl (fun k hk => by rw [Zdz]; exact Qau l u k hk hp) ?_
   refine wX ?_
   refine Qao (Qnb (at0 i.ob) i.cap cs (u : Int) (fun h => by cases hob : i.ob with | none => exact Zez (hi.1 hob).1 | some b => rw [hob] at h; cases h) (by omega) _ (fun w hw => hw.1)) ?_
   by_cases hm : (u : Int) ∈ cs
   ·have hix := List.idxOf_lt_length_iff.2 hm
    rw [if_pos hm, Qdi (by simp) hm]
    generalize cs.idxOf (u : Int) = k at hix ⊢
    have hnl := Qbd (n := k) (by omega)
    refine wX ?_
    refine Qao (Qdt k (by omega) _) ?_
    refine wX ?_
    refine Nd.mk (by rw [Qal]; show 1 + _ < _; first | omega | (simp only [Zhz]; omega)) ?_
    rw [show (⟨#[64]⟩ : ByteArray) = bs [64] from rfl, Qb4]
    refine wX ?_
    exact ⟨(i, j), ⟨hi, hj⟩, rfl, Qaa _, Qaa _, Qaa _, Qaa _, trivial⟩
   rw [if_neg hm]
   refine wX ?_
   refine Nd.mk ⟨Zcz 1, rfl, rfl⟩ ?_
   (conv => whnf)
   refine AppN.grow 1 (iC cs) [.int .i64 (u : Int)] rfl rfl ⟨Zcz 1, ⟨by show (cs.length + 1) * 8 <= _; omega, by omega⟩, Nat.one_ne_zero⟩ fun cb ccap hcc _ => ?_
   have hcl : iC cs ++ [.int .i64 (u : Int)] = iC (cs ++ [(u : Int)]) := by simp [iC]
   have hll : cs.length + 1 = (cs ++ [(u : Int)]).length := by simp
   rw [hcl, hll]
   have hi1 : BSt.ok (cs ++ [(u : Int)]).length ⟨some cb, ccap⟩ := Qiq (by rw [<- hll]; omega) (by rw [<- hll]; exact hcc)
   have hlt := Qdx hin hm (t := cs ++ [(u : Int)]) (fun x hx => by simp [hx]) (by simp)
   have hnew := Qdh (f := Qae (l.map (·.c)) n) (c := ⟨8, num0, text, names, items⟩) (w := ⟨[], cs, ss⟩) (a := (u : Int)) (by simp) hm
   refine wX ?_
   have hlen := hcw.len
   have hcls := (hcw.cls rfl).2
   have hns := hcw.lens rfl
   have hnam := hcw.nam
   simp only at hlen hcls hns hnam
   rw [if_neg (by simp), if_neg (by simp), if_neg (by simp)] at hnew
   refine Qai (Qmy (.slice a l.length ca) (GrF a l) (cs ++ [(u : Int)]) ss text ⟨some cb, ccap⟩ j hi1 hj (by omega) hls) [0, 1, 2, 3] rfl ⟨rfl, rfl, rfl, rfl, trivial⟩ rfl fun x hx => ?_
   obtain ⟨i4, j4⟩ := x
   have hsa2 := Qxx (putW { out := [], cells := cs ++ [(u : Int)], ss := ss } [111]) text
   have hlS : Lim (symW (putW { out := [], cells := cs ++ [(u : Int)], ss := ss } [111]) text) := by
    rw [hnew] at hlim
    have hlim2 : Lim ((names.zip items).foldl (Qcs (l.map (·.c)) n) (putW (symW (putW { out := [], cells := cs ++ [(u : Int)], ss := ss } [111]) text) (num names.length))) := hlim
    exact (Qcp _ _).lim ((Qbm (Qc7 (l.map (·.c)) n) _ _).lim hlim2)
   have hsl := hlS.o
   have eS : symW ⟨[], (putW { out := [], cells := cs ++ [(u : Int)], ss := ss } [111]).cells, (putW { out := [], cells := cs ++ [(u : Int)], ss := ss } [111]).ss⟩ text = symW ⟨[], cs ++ [(u : Int)], ss⟩ text := rfl
   rw [eS] at hsa2
   rw [hsa2] at hnew hsl
   have hSc : (symW ⟨[], cs ++ [(u : Int)], ss⟩ text).cells = cs ++ [(u : Int)] := Qbg _ _
   generalize symW ⟨[], cs ++ [(u : Int)], ss⟩ text = S at hx hnew hsl hSc ⊢
   obtain ⟨hx1, hx2⟩ := hx
   simp only at hx1 hx2
   have hso : (Qbq (putW { out := [], cells := cs ++ [(u : Int)], ss := ss } [111]).out S).out = [111] ++ S.out := rfl
   rw [hso] at hsl
   simp only [Zhz] at hsl
   have hnl := Qbd (n := names.length) (by omega)
   refine wX ?_
   refine Nd.mk (by rw [Qal]; show 1 + _ < _; first | omega | (simp only [Zhz]; omega)) ?_
   rw [show (⟨#[111]⟩ : ByteArray) = bs [111] from rfl, Qb4]
   refine wX ?_
   refine Qao (Qdt names.length (by omega) _) ?_
   refine wX ?_
   refine Nd.mk (by rw [Qal, Qal]; simp only [Zhz, Znz, List.length_nil]; omega) ?_
   rw [Qb4]
   refine wX ?_
   obtain ⟨w2, hw2⟩ : ∃ w2 : Wr, w2 = ⟨[111] ++ S.out ++ num names.length, S.cells, S.ss⟩ := ⟨_, rfl⟩
   have he : Qdj (Qae (l.map (·.c)) n) ⟨8, num0, text, names, items⟩ ⟨[], cs, ss⟩ (u : Int) = (names.zip items).foldl (Qcs (l.map (·.c)) n) w2 := by rw [hnew, hw2]; rfl
   rw [he]
   have hl2 : Lim ((names.zip items).foldl (Qcs (l.map (·.c)) n) w2) := by rw [<- he]; exact hlim
   have hfr : ∀ k, Qb3 (l.map (·.c)) (((names.zip items).take k).foldl (Qcs (l.map (·.c)) n) w2).cells < n := fun k => by
    have h1 := Qct (g := l.map (·.c)) (Qbm (Qc7 (l.map (·.c)) n) ((names.zip items).take k) w2).sub
    have h2 : w2.cells = cs ++ [(u : Int)] := by rw [hw2]; exact hSc
    rw [h2] at h1
    omega
   have hzl : (names.zip items).length = items.length := by rw [List.length_zip]; omega
   refine LoopN.intro (Nat × BSt × BSt) (fun ⟨k, x⟩ => k <= items.length /\ x.1.ok (((names.zip items).take k).foldl (Qcs (l.map (·.c)) n) w2).cells.length /\ x.2.ok (((names.zip items).take k).foldl (Qcs (l.map (·.c)) n) w2).ss.length)
    (fun ⟨k, _⟩ => mkS Tryz.f47.ntmps 0 [(0, .c (.lp 0 0)), (5, .c (.lp 4 0)), (7, .c (.v (.string (bs (((names.zip items).take k).foldl (Qcs (l.map (·.c)) n) w2).out)))), (9, .c (.v (.int .i64 (k : Int))))])
    (fun ⟨k, x⟩ => wD (.slice a l.length ca) (GrF a l) (((names.zip items).take k).foldl (Qcs (l.map (·.c)) n) w2).cells (((names.zip items).take k).foldl (Qcs (l.map (·.c)) n) w2).ss x.1 x.2 ++ [.blk 87 [.v (.int .i64 8), .v (.int .i64 num0), .v (.string (bs text)), .v (.slice na names.length nc), .v (.slice ia items.length ic)], .dead]) (fun ⟨k, _⟩ => items.length - k) [] rfl (fun _ => rfl) (fun _ => rfl) (fun _ _ => Qan rfl) ?_ ?_
   ·refine ⟨(0, i4, j4), ⟨Zkz _, by rw [hw2]; exact hx1, by rw [hw2]; exact hx2⟩, ?_, ?_⟩
    ·rw [hw2]
     exact wKK
    ·rw [hw2]
     exact ⟨Qaa _, Qaa _, Qaa _, Qaa _, Qaa _, trivial, trivial⟩
   rintro ⟨k, x0⟩ ⟨hk, hx3, hx4⟩
   obtain ⟨i3, j3⟩ := x0
   simp only at hx3 hx4
   refine wX ?_
   refine Qab (fun h1 => ?_) (fun h1 => ?_)
   ·-- an item: what is known of it
    obtain ⟨x, hx⟩ : ∃ z, items[k]? = some z := ⟨_, Zbz (by omega)⟩
    have hxi := houts x (Ziz hx)
    obtain ⟨xn, rfl⟩ : ∃ xn : Nat, x = (xn : Int) := ⟨x.toNat, by have := hxi.1; omega⟩
    have hxl : xn < l.length := by have := hxi.2; simp only [List.length_map] at this; omega
    have hxa : ia.isSome = true := by
     cases ia with
     | none => have h0 : items = [] := hpo.ia rfl; rw [h0] at hx; cases hx
     | some b => rfl
    obtain ⟨nm, hnm⟩ : ∃ z, names[k]? = some z := ⟨_, Zbz (by omega)⟩
    have hnma : na.isSome = true := by
     cases na with
     | none => have h0 : names = [] := hpo.na rfl; rw [h0] at hnm; cases hnm
     | some b => rfl
    have hn40 := (hnam nm (Ziz hnm)).2
    have hz : (names.zip items)[k]? = some (nm, (xn : Int)) := List.getElem?_zip_eq_some.2 ⟨hnm, hx⟩
    have hnx := Qfm (f := Qcs (l.map (·.c)) n) (b := w2) hz
    have hl6 := Qg3 (Qc7 (l.map (·.c)) n) hl2 (k + 1)
    have hfk := hfr k
    obtain ⟨wk, hwk⟩ : ∃ w : Wr, w = ((names.zip items).take k).foldl (Qcs (l.map (·.c)) n) w2 := ⟨_, rfl⟩
    rw [hnx] at hl6
    rw [<- hwk] at hnx hl6 hfk hx3 hx4 ⊢
    have hl6b : Lim (Qae (l.map (·.c)) n (symW wk nm) (xn : Int)) := hl6
    have hnx2 : ((names.zip items).take (k + 1)).foldl (Qcs (l.map (·.c)) n) w2 = Qae (l.map (·.c)) n (symW wk nm) (xn : Int) := hnx
    have hl7 : Lim (symW wk nm) := (Qaw _ n _ _).lim hl6b
    have hl8 := ((Qdw wk nm).lim hl7).s
    have eq1 : Qae (l.map (·.c)) n (symW wk nm) (xn : Int) = Qbq wk.out (Qbq (symW ⟨[], wk.cells, wk.ss⟩ nm).out (Qae (l.map (·.c)) n ⟨[], (symW ⟨[], wk.cells, wk.ss⟩ nm).cells, (symW ⟨[], wk.cells, wk.ss⟩ nm).ss⟩ (xn : Int))) := by
     rw [Qxx wk nm, Qew, Qjs (l.map (·.c)) n (symW ⟨[], wk.cells, wk.ss⟩ nm)]
    rw [eq1] at hnx2 hl6b
    have hSk : (symW ⟨[], wk.cells, wk.ss⟩ nm).cells = wk.cells := Qbg _ _
    refine wX ?_
    refine Nd.mk ⟨hnma, by omega, by omega⟩ ?_
    refine wX ?_
    refine LdN.one (.string (bs nm)) rfl (fun w hw => (hw.2.2.1.2 _ hpm).1) (by rw [Zdz]; show (strC names)[k * 1]? = _; rw [Nat.mul_one]; exact Qcz hnm) ?_
    refine wX ?_
    refine Qai (Qmy (.slice a l.length ca) (GrF a l) wk.cells wk.ss nm i3 j3 hx3 hx4 (by omega) hl8) [0, 1, 2, 3] rfl ⟨rfl, rfl, rfl, rfl, trivial⟩ rfl fun y hy => ?_
    obtain ⟨i5, j5⟩ := y
    generalize symW ⟨[], wk.cells, wk.ss⟩ nm = T at hy hnx2 hl6b hSk ⊢
    obtain ⟨hy1, hy2⟩ := hy
    simp only at hy1 hy2
    have hl9 := hl6b.o
    unfold Qbq at hl9
    simp only [Zhz] at hl9
    have hl10 : Lim (Qae (l.map (·.c)) n ⟨[], T.cells, T.ss⟩ (xn : Int)) := ⟨by omega, hl6b.s, hl6b.c⟩
    refine wX ?_
    refine Nd.mk (by rw [Qal, Qal]; omega) ?_
    rw [Qb4]
    refine wX ?_
    refine Nd.mk ⟨hxa, by omega, by omega⟩ ?_
    refine wX ?_
    refine LdN.one (.int .i64 (xn : Int)) rfl (fun w hw => (hw.2.2.1.2 _ hpm).2) (by rw [Zdz]; show (iC items)[k * 1]? = _; rw [Nat.mul_one]; exact Qcb hx) ?_
    refine wX ?_
    refine Qai (ih T.cells T.ss i5 j5 xn hxl (by rw [hSk]; exact hfk) hy1 hy2 hl10) [0, 1, 2, 3] rfl ⟨rfl, rfl, rfl, rfl, trivial⟩ rfl fun z hz3 => ?_
    generalize Qae (l.map (·.c)) n ⟨[], T.cells, T.ss⟩ (xn : Int) = V at hnx2 hl9 hz3 ⊢
    refine wX ?_
    refine Nd.mk (by rw [Qal, Qal]; simp only [Zhz]; omega) ?_
    rw [Qb4]
    refine wX ?_
    have e1 : (((names.zip items).take (k + 1)).foldl (Qcs (l.map (·.c)) n) w2).out = wk.out ++ T.out ++ V.out := by rw [hnx2]; unfold Qbq; simp
    have e2 : (((names.zip items).take (k + 1)).foldl (Qcs (l.map (·.c)) n) w2).cells = V.cells := by rw [hnx2]; rfl
    have e3 : (((names.zip items).take (k + 1)).foldl (Qcs (l.map (·.c)) n) w2).ss = V.ss := by rw [hnx2]; rfl
    refine ⟨(k + 1, z), ⟨by omega, by rw [e2]; exact hz3.1, by rw [e3]; exact hz3.2⟩, by show items.length - (k + 1) < items.length - k; omega, ?_, ?_⟩
    ·(repeat' (first | exact trivial | refine And.intro (by with_reducible rfl) ?_ | (with_reducible exact Qay _) | (with_reducible exact Qaq _) | refine And.intro ?_ ?_))
     all_goals first | rfl | exact Qes (by rw [Qaf (by omega)]; omega) | (rw [e1])
    ·show wkH _ (wD _ _ (((names.zip items).take (k + 1)).foldl (Qcs (l.map (·.c)) n) w2).cells (((names.zip items).take (k + 1)).foldl (Qcs (l.map (·.c)) n) w2).ss _ _ ++ _)
     rw [e2, e3]
     exact ⟨Qaa _, Qaa _, Qaa _, Qaa _, Qaa _, trivial, trivial⟩
   ·obtain rfl : k = items.length := by omega
    rw [<- hzl, Ztz] at hx3 hx4
    rw [show (names.zip items).take items.length = names.zip items by rw [<- hzl, Ztz]]
    refine wX ?_
    exact ⟨(i3, j3), ⟨hx3, hx4⟩, rfl, Qaa _, Qaa _, Qaa _, Qaa _, trivial⟩
theorem Qzq {a : Option Addr} (ca : Nat) {l : List Qaj} (ha : a = none -> l = []) (hs : Small l) (hok : ∀ p ∈ l, Qa5 p) (u : Int) :
  ∃ e : Bool, (e = true ↔ AskP (l.map (·.c)) [u]) /\ ∀ H, (∀ w, Qax H w -> GrF a l w) -> SpecH Tryz.prog 22 (pvs [.slice a l.length ca, .int .i64 u]) H (Ret (.tuple #[.string (bs (if e then Qdg (l.map (·.c)) u else [])), errI e]) H) := by
 obtain ⟨e, he⟩ := Qn1 (l.map (·.c)) [u]
 refine ⟨e, he, ?_⟩
 have hl := hs.1
 refine Qem hm Tryz.func22 (by kernel_rfl) rfl rfl ?_
 refine wXD ?_
 obtain ⟨t, ht1, ht2⟩ := Qq7 a ca l ha (by omega) hok [.fact (GrF a l)] (fun w hw => hw.1)
 refine Qao ht2 ?_
 cases t with
 | false =>
  have hee : e = false := by
   cases e with
   | false => rfl
   | true => have := ht1.2 (he.1 rfl).1; cases this
  subst hee
  refine wXD ?_
  rfl
 | true =>
 refine wXD ?_
 obtain ⟨t2, ht3, ht4⟩ := QA7 a ca l ha (by omega) hok u [.fact (GrF a l)] (fun w hw => hw.1)
 obtain rfl : t2 = e := by rw [Zsz, ht3, he]
 refine Qao ht4 ?_
 cases t2 with
 | false =>
  refine wXD ?_
  rfl
 | true =>
  have hask := he.1 rfl
  have hin := Qds hask.1
  have hu := hask.2 u (by simp)
  have hd := Qyc hask.1 (Qt5 hs) hu
  obtain ⟨v, rfl⟩ : ∃ v : Nat, u = (v : Int) := ⟨u.toNat, by omega⟩
  have hgl : (l.map (·.c)).length = l.length := by simp
  refine wXD ?_
  refine SpecH.pad [.app 3 1 [] none 0 0, .app 9 1 [] none 0 0] rfl ?_
  have hok0 : BSt.ok (0 : Nat) ⟨none, 0⟩ := ⟨fun _ => ⟨rfl, rfl⟩, Zcz _, fun _ => rfl⟩
  have hlim := hd.lim
  have hdl : Qhs (l.map (·.c)) (v : Int) = Qbq headB (Qae (l.map (·.c)) (l.length + 1) ⟨[], [], []⟩ (v : Int)) := by
   unfold Qhs
   rw [hgl, Qjs]
  have hds : Qdg (l.map (·.c)) (v : Int) = headB ++ (Qae (l.map (·.c)) (l.length + 1) ⟨[], [], []⟩ (v : Int)).out := by
   show (Qhs (l.map (·.c)) (v : Int)).out = _
   rw [hdl]
   rfl
  rw [hdl] at hlim
  have hlo := hlim.o
  have hb3 : headB.length = 3 := rfl
  unfold Qbq at hlo
  simp only [Zhz] at hlo
  refine Qai (QAl ca ha hok hin hd.cellW hl (l.length + 1) [] [] ⟨none, 0⟩ ⟨none, 0⟩ v (by omega) (by have := Qf2 (l.map (·.c)) []; omega) hok0 hok0 ⟨by omega, hlim.s, hlim.c⟩) [1, 2, 3, 0] rfl ⟨rfl, rfl, rfl, rfl, trivial⟩ rfl fun x hx => ?_
  rw [hds]
  generalize Qae (l.map (·.c)) (l.length + 1) ⟨[], [], []⟩ (v : Int) = W at hx hlo ⊢
  refine wXD ?_
  refine Nd.mk (by rw [Qal]; show 3 + _ < _; omega) ?_
  rw [show (⟨#[67, 77, 1]⟩ : ByteArray) = bs headB from rfl, Qb4]
  refine wXD ?_
  rfl
def Wide (l : List Qaj) : Prop := l.length <= 2000 /\ ∀ p ∈ l, p.c.names.length <= 40000 /\ p.c.items.length <= 40000
theorem Small.wide {l : List Qaj} (h : Small l) : Wide l := ⟨h.1, fun p hp => ⟨by have := (h.2 p hp).1; omega, by have := (h.2 p hp).2; omega⟩⟩
set_option maxHeartbeats 4000000 in
theorem as_m (a : Option Addr) (ca : Nat) (l : List Qaj) (ha : a = none -> l = []) (hs : Wide l) (hok : ∀ p ∈ l, Qa5 p) : SpecF Tryz.prog 18 [.slice a l.length ca] (GrF a l) (GrR (l.map (·.c))) := by
 obtain ⟨hl, hsm⟩ := hs
 refine Qm2 hm Tryz.func18 (by kernel_rfl) rfl rfl ?_
 refine wX ?_
 refine LoopN.introS DSt (DInv l) (fun ⟨i, oa, oc, m⟩ => mkS 35 0 [(0, .c (.v (.slice a l.length ca))), (3, .c (.v (.slice oa m.length oc))), (4, .c (.v (.int .i64 (i : Int))))]) (fun ⟨i, oa, oc, m⟩ => [.fact (GrF a l), .app 87 5 (grC m) oa m.length oc, .fact (fun w => ∀ p ∈ m, Qbn p w)]) (fun ⟨i, _, _, _⟩ => l.length - i) [.app 87 5 [] none 0 0, .dead] rfl (fun _ => rfl) (fun _ => rfl) (fun _ _ => ⟨trivial, trivial, trivial, trivial⟩) ?_ ?_
 ·refine ⟨⟨0, none, 0, []⟩, ⟨Zkz _, rfl, (fun p h => by cases h), (fun _ => rfl), Zcz _⟩, ?_, [.fact (GrF a l), .app 87 5 [] none 0 0, .fact (fun w => ∀ p ∈ [], Qbn p w)], Qkf ?_, ?_⟩
  ·exact wKK
  ·exact ⟨.inr (.inl rfl), .inr (.inl rfl), .inr (.inr ⟨_, rfl, fun w _ p hp => by cases hp⟩), trivial⟩
  ·exact Qag _
 rintro ⟨i, oa, oc, m⟩ hinv
 have hml := hinv.len
 obtain ⟨hi, hmc, hmo, hoa, hoc⟩ := hinv
 refine wX ?_
 refine Qab (fun h1 => ?_) (fun h1 => ?_)
 ·obtain ⟨p, hp⟩ : ∃ p, l[i]? = some p := ⟨_, Zbz (by omega)⟩
  have hpm := Ziz hp
  have hpo := hok p hpm
  obtain ⟨hnl, hil⟩ := hsm p hpm
  have hsa : a.isSome = true := by
   cases a with
   | none => rw [ha rfl] at hp; cases hp
   | some b => rfl
  refine wX ?_
  refine Nd.mk ⟨hsa, by omega, by omega⟩ ?_
  refine wX ?_
  refine LdN.agg (Qa2 p) rfl (fun w hw => hw.1.1) rfl (fun k hk => by rw [Zdz]; exact Qau l i k hk hp) ?_
  refine wXB ?_
  refine BoxN.known [.int .i64 0, .int .i64 0, .string { data := #[] }, .slice none 0 0, .slice none 0 0] rfl fun cb => ?_
  refine wXB ?_
  refine EffW.appTo (i := 3) (q := 0) (ys := Qa2 p) (Qa2 p) 5 rfl rfl rfl rfl rfl rfl rfl (Zaz rfl) rfl rfl ?_
  refine wXB ?_
  refine DrawN.planK hm (fun w => SlAt (some ⟨cb, 0, none⟩) 5 (Qa2 p) w) [7, 11] [0, 1, 3, 5, 8, 12] [(9, 1), (2, 1), (4, 1), (6, 1), (13, 1), (7, 2), (10, 0), (11, 2), (14, 0), (15, 0), (16, 0), (17, 0), (18, 0)] (by decide +kernel) (fun w hw => hw.2.2.2.1) ?_
  refine wXP ?_
  refine ReadC.one (a := some ⟨cb, 0, none⟩) (q := 3) (.slice p.na p.c.names.length p.nc) rfl rfl rfl (fun w hw => hw) rfl ?_
  refine wXP ?_
  refine ReadC.one (a := some ⟨cb, 0, none⟩) (q := 0) (.int .i64 p.c.kind) rfl rfl rfl (fun w hw => hw) rfl ?_
  refine wXP ?_
  refine ReadC.one (a := some ⟨cb, 0, none⟩) (q := 1) (.int .i64 p.c.num) rfl rfl rfl (fun w hw => hw) rfl ?_
  refine wXP ?_
  refine ReadC.one (a := some ⟨cb, 0, none⟩) (q := 2) (.string (bs p.c.text)) rfl rfl rfl (fun w hw => hw) rfl ?_
  refine wXP ?_
  refine ReadC.one (a := some ⟨cb, 0, none⟩) (q := 4) (.slice p.ia p.c.items.length p.ic) rfl rfl rfl (fun w hw => hw) rfl ?_
  refine wXP ?_
  intro nb
  refine wXP ?_
  refine Qn3 4 [] (strC p.c.names) rfl (Zcz _) (fun h => by cases hq : p.na with | none => rw [hpo.na hq] at h; cases h | some b => rfl) (by show (strC p.c.names).length = p.c.names.length * 1; simp [strC]) (fun u hu => by obtain ⟨x, _, rfl⟩ := Zoz.1 hu; rfl) (fun w hw j v hv => (hw.1.2 p hpm).1.cell hv) ⟨⟨by show (0 + p.c.names.length) * 16 <= _; omega, by omega⟩, Nat.one_ne_zero⟩ fun nb2 nc2 hnc2 => ?_
  rw [Nat.zero_add, List.nil_append]
  refine wXP ?_
  intro ib
  refine wXP ?_
  refine Qn3 5 [] (iC p.c.items) rfl (Zcz _) (fun h => by cases hq : p.ia with | none => rw [hpo.ia hq] at h; cases h | some b => rfl) (by show (iC p.c.items).length = p.c.items.length * 1; simp [iC]) (fun u hu => by obtain ⟨x, _, rfl⟩ := Zoz.1 hu; rfl) (fun w hw j v hv => (hw.1.2 p hpm).2.cell hv) ⟨⟨by show (0 + p.c.items.length) * 8 <= _; omega, by omega⟩, Nat.one_ne_zero⟩ fun ib2 ic2 hic2 => ?_
  rw [Nat.zero_add, List.nil_append]
  refine wXP ?_
  refine RwN.own ?_
  refine wXP ?_
  refine Nd.mk ⟨Zcz 1, rfl, rfl⟩ ?_
  (conv => whnf)
  refine AppN.grow 1 (grC m) (Qa2 ⟨p.c, some ⟨nb2, 0, none⟩, nc2, some ⟨ib2, 0, none⟩, ic2⟩) rfl rfl ⟨Zcz 1, ⟨by show (m.length + 1) * 80 <= _; omega, by omega⟩, by decide⟩ fun ob2 oc2 hoc2 _ => ?_
  refine wXP ?_
  have hm2 : m.length + 1 = (m ++ [(⟨p.c, some ⟨nb2, 0, none⟩, nc2, some ⟨ib2, 0, none⟩, ic2⟩ : Qaj)]).length := by simp
  have hg2 := Qf1 m ⟨p.c, some ⟨nb2, 0, none⟩, nc2, some ⟨ib2, 0, none⟩, ic2⟩
  refine ⟨⟨i + 1, some ⟨ob2, 0, none⟩, oc2, m ++ [⟨p.c, some ⟨nb2, 0, none⟩, nc2, some ⟨ib2, 0, none⟩, ic2⟩]⟩, ⟨by omega, ?_, ?_, (fun h => by cases h), by omega⟩, by show l.length - (i + 1) < l.length - i; omega, ?_, [.fact (GrF a l), .app 87 5 (grC m ++ Qa2 ⟨p.c, some ⟨nb2, 0, none⟩, nc2, some ⟨ib2, 0, none⟩, ic2⟩) (some ⟨ob2, 0, none⟩) (m.length + 1) oc2, .fact (fun w => ∀ q ∈ m ++ [⟨p.c, some ⟨nb2, 0, none⟩, nc2, some ⟨ib2, 0, none⟩, ic2⟩], Qbn q w), .dead, .dead, .dead, .dead], Qkf ?_, ?_⟩
  ·rw [List.take_add_one, hp, List.map_append, List.map_append, hmc]
   rfl
  ·intro q hq
   rcases Zmz.1 hq with hq | hq
   ·exact hmo q hq
   ·rw [Zgz.1 hq]
    exact ⟨(fun h => by cases h), (fun h => by cases h), hpo.nl, hpo.il, hpo.nw, hpo.tl, by show p.c.names.length <= nc2; omega, by show p.c.items.length <= ic2; omega⟩
  ·(repeat' (first | exact trivial | refine And.intro (by with_reducible rfl) ?_ | (with_reducible exact Qay _) | (with_reducible exact Qaq _) | refine And.intro ?_ ?_))
   all_goals first | rfl | exact Qes (by omega) | (rw [hm2])
  ·refine ⟨.inr (.inl rfl), .inr (.inl rfl), .inr (.inr ⟨_, rfl, fun w hw q hq => ?_⟩), .inl rfl, .inl rfl, .inl rfl, .inl rfl, trivial⟩
   rcases Zmz.1 hq with hq | hq
   ·exact hw.2.1 q hq
   ·rw [Zgz.1 hq]
    exact ⟨hw.2.2.2.1, hw.2.2.2.2.1⟩
  ·show wkH _ [Ent.fact (GrF a l), .app 87 5 (grC (m ++ [_])) _ (m ++ [_]).length _, _]
   rw [<- hm2, hg2]
   exact ⟨Qaa _, Qaa _, Qaa _, trivial⟩
 ·have hil : i = l.length := by omega
  subst hil
  rw [Ztz] at hmc
  refine wX ?_
  refine Qfc (GrF oa m) ⟨oa, oc, m, rfl, hoa, hmc, hmo, fun w hw => hw⟩ fun w hw => ⟨hw.2.1, hw.2.2.1⟩
def exM : Cell := ⟨6, 0, [], [], [0]⟩
def exQ (ib : Nat) : Qaj := ⟨exM, none, 0, some ⟨ib, 0, none⟩, 1⟩
theorem Qzb : Qbe [exM] := ⟨by decide, fun c hc => by rw [Zgz.1 hc]; decide, fun c hc h => by rw [Zgz.1 hc] at h; exact absurd h (by decide)⟩
theorem Qzc : AskP [exM] [0] := ⟨Qzb, fun x hx => by rw [Zgz.1 hx]; decide⟩
theorem Qw9 : Qdg [exM] 0 = [67, 77, 1, 91, 1, 64, 0] := by decide +kernel
theorem Qvn (ib : Nat) : Small [exQ ib] := ⟨by simp, fun p hp => by rw [Zgz.1 hp]; exact ⟨by show (0 : Nat) <= 2000; omega, by show (1 : Nat) <= 2000; omega⟩⟩
theorem QAs (ib : Nat) : ∀ p ∈ [exQ ib], Qa5 p := fun p hp => by
 rw [Zgz.1 hp]
 exact ⟨(fun _ => rfl), (fun h => by cases h), by show (0 : Nat) <= _; omega, by show (1 : Nat) <= _; omega, (fun s hs => by cases hs), by show (0 : Nat) <= _; omega, Zcz _, Zcz _⟩
set_option maxHeartbeats 4000000 in
theorem Qxy : ∀ H, SpecH Tryz.prog 13 (pvs []) H (Ret (.bool true) H) := by
 refine Qd1 hm Tryz.func13 (by kernel_rfl) rfl rfl ?_
 refine wXR ?_
 refine RwN.known [.int .i64 0] rfl fun ib => ?_
 refine wXR ?_
 refine RwN.known [.int .i64 6, .int .i64 0, .string { data := #[] }, .slice none 0 0, .slice (some ⟨ib, 0, none⟩) 1 1] rfl fun gb => ?_
 refine wXR ?_
 obtain ⟨e, he1, he2⟩ := Qyh (a := some ⟨gb, 0, none⟩) 1 (l := [exQ ib]) (fun h => by cases h) (Qvn ib) (QAs ib) 0
 obtain rfl : e = true := he1.2 Qzc
 have hx : (if true = true then Qdg ([exQ ib].map (·.c)) 0 else []) = [67, 77, 1, 91, 1, 64, 0] := Qw9
 rw [hx] at he2
 refine Qao (he2 [.app 3 1 [.int .i64 0] (some ⟨ib, 0, none⟩) 1 1, .app 57 5 [.int .i64 6, .int .i64 0, .string { data := #[] }, .slice none 0 0, .slice (some ⟨ib, 0, none⟩) 1 1] (some ⟨gb, 0, none⟩) 1 1] (fun w hw => ⟨hw.2.1, fun p hp => by
  rw [Zgz.1 hp]
  exact ⟨SlAt.nil, hw.1⟩⟩)) ?_
 refine wX ?_
 rfl
end Go.Proofs.YtgogonnnojcioaaGreatDoor
namespace Go.Marshal
open Go.Core
structure PS where
 s : B
 g : List Cell
 cells : List Int
 ss : List B
 e : Int
def Qam (st : PS) (e : Int) : PS := if st.e = 0 then { st with e := e } else st
def Qad (st : PS) : UInt8 × PS := if st.e ≠ 0 then (0, st) else match st.s with
 | [] => (0, { st with e := 14 })
 | x :: s => (x, { st with s := s })
def rdQ : Nat -> B -> B
 | _, [] => []
 | i, x :: s => if i = 0 /\ x = 128 \/ 9 <= i then s else if x.toNat < 128 then s else rdQ (i + 1) s
def numM (most : Nat) (st : PS) : Nat × PS := if st.e ≠ 0 then (0, st) else match rd most st.s with
 | .ok (n, _) => (n, { st with s := rdQ 0 st.s })
 | .error e => (0, { st with s := rdQ 0 st.s, e := e })
def Qa7 (most : Nat) (st : PS) : B × PS :=
 if (numM maxN st).2.e ≠ 0 then ([], (numM maxN st).2)
 else if most < (numM maxN st).1 then ([], { (numM maxN st).2 with e := 4 })
 else if (numM maxN st).2.s.length < (numM maxN st).1 then ([], { (numM maxN st).2 with e := 14 })
 else ((numM maxN st).2.s.take (numM maxN st).1, { (numM maxN st).2 with s := (numM maxN st).2.s.drop (numM maxN st).1 })
def symM (x : UInt8) (st : PS) : B × PS :=
 if x = 58 then
  ((Qa7 40 st).1, { (if (Qa7 40 st).2.e = 0 /\ (Qa7 40 st).1 ∈ (Qa7 40 st).2.ss then Qam (Qa7 40 st).2 4 else (Qa7 40 st).2) with ss := (Qa7 40 st).2.ss ++ [(Qa7 40 st).1] })
 else if x = 59 then
  if (numM maxN st).2.e = 0 /\ (numM maxN st).1 < (numM maxN st).2.ss.length then ((numM maxN st).2.ss.getD (numM maxN st).1 [], (numM maxN st).2) else ([], Qam (numM maxN st).2 4)
 else ([], Qam st 4)
def Qbh (f : PS -> Int × PS) : Nat -> List Int -> PS -> List Int × PS
 | 0, l, st => (l, st)
 | n + 1, l, st => if st.e = 0 then Qbh f n (l ++ [(f st).1]) (f st).2 else (l, st)
def Qe5 (ns : List B) (st : PS) : B × PS :=
 ((symM (Qad st).1 (Qad st).2).1, if (symM (Qad st).1 (Qad st).2).2.e = 0 /\ ((symM (Qad st).1 (Qad st).2).1 ∈ ns \/ Go.Scan.iiB (symM (Qad st).1 (Qad st).2).1 = false) then Qam (symM (Qad st).1 (Qad st).2).2 4 else (symM (Qad st).1 (Qad st).2).2)
def Qbs (f : PS -> Int × PS) : Nat -> List B -> List Int -> PS -> (List B × List Int) × PS
 | 0, ns, l, st => ((ns, l), st)
 | n + 1, ns, l, st => if st.e = 0 then Qbs f n (ns ++ [(Qe5 ns st).1]) (l ++ [(f (Qe5 ns st).2).1]) (f (Qe5 ns st).2).2 else ((ns, l), st)
def Qb6 (st : PS) : B × PS :=
 ((symM (Qad st).1 (Qad st).2).1, if (symM (Qad st).1 (Qad st).2).2.e = 0 /\ Go.Scan.icB (symM (Qad st).1 (Qad st).2).1 = false then Qam (symM (Qad st).1 (Qad st).2).2 4 else (symM (Qad st).1 (Qad st).2).2)
def objM (f : PS -> Int × PS) (st : PS) : Cell × PS :=
 (⟨8, 0, (Qb6 st).1, (Qbs f (numM maxN (Qb6 st).2).1 [] [] (numM maxN (Qb6 st).2).2).1.1, (Qbs f (numM maxN (Qb6 st).2).1 [] [] (numM maxN (Qb6 st).2).2).1.2⟩, (Qbs f (numM maxN (Qb6 st).2).1 [] [] (numM maxN (Qb6 st).2).2).2)
def Qbo (f : PS -> Int × PS) (x : UInt8) (st : PS) : Cell × PS :=
 if x = 84 then (⟨1, 0, [], [], []⟩, st)
 else if x = 70 then (⟨2, 0, [], [], []⟩, st)
 else if x = 105 then (⟨3, Qcr (numM (2 * maxN) st).1, [], [], []⟩, (numM (2 * maxN) st).2)
 else if x = 34 then (⟨4, 0, (Qa7 maxN st).1, [], []⟩, (Qa7 maxN st).2)
 else if x = 58 \/ x = 59 then (⟨5, 0, (symM x st).1, [], []⟩, (symM x st).2)
 else if x = 91 then (⟨6, 0, [], [], (Qbh f (numM maxN st).1 [] (numM maxN st).2).1⟩, (Qbh f (numM maxN st).1 [] (numM maxN st).2).2)
 else if x = 123 then (⟨7, 0, [], [], (Qbh f (2 * (numM maxN st).1) [] (numM maxN st).2).1⟩, (Qbh f (2 * (numM maxN st).1) [] (numM maxN st).2).2)
 else if x = 111 then objM f st
 else (nilC, st)
def Qcg (x : UInt8) (st : PS) : PS := { st with g := st.g ++ [nilC], cells := if x ∈ Qi1 then st.cells ++ [(st.g.length : Int)] else st.cells }
def refM (st : PS) : Int × PS :=
 let k := numM maxN st
 if k.2.e ≠ 0 then (0, k.2) else if k.2.cells.length <= k.1 then (0, Qam k.2 4) else (k.2.cells.getD k.1 0, k.2)
def Qav : Nat -> PS -> Int × PS
 | 0, st => (0, Qam st 99)
 | n + 1, st =>
  let x := Qad st
  if x.2.e ≠ 0 then (0, x.2)
  else if x.1 = 64 then refM x.2
  else if 500 <= x.2.g.length \/ x.1 ∉ Qbl then (0, Qam x.2 4)
  else let c := Qbo (Qav n) x.1 (Qcg x.1 x.2)
   ((x.2.g.length : Int), { c.2 with g := c.2.g.set x.2.g.length c.1 })
def toS (st : PS) : St := ⟨st.s, st.g, st.cells, st.ss⟩
def ofS (st : St) : PS := ⟨st.s, st.g, st.cells, st.ss, 0⟩
theorem Qqj {st : PS} (h : st.e = 0) : ofS (toS st) = st := by cases st; simp only at h; subst h; rfl
structure Ref {α : Type} (F : St -> Except Int (α × St)) (M : PS -> α × PS) : Prop where
 ok : ∀ st a st', st.e = 0 -> F (toS st) = .ok (a, st') -> M st = (a, ofS st')
 err : ∀ st e, st.e = 0 -> F (toS st) = .error e -> (M st).2.e = e /\ e ≠ 0
 dead : ∀ st, st.e ≠ 0 -> (M st).2.e = st.e
theorem Ref.ret {α : Type} (a : α) : Ref (fun st => .ok (a, st)) (fun st => (a, st)) :=
 ⟨fun st a' st' h e => by cases e; rw [Qqj h], (fun st e _ h => by cases h), fun _ _ => rfl⟩
theorem Ref.bnd {α β : Type} {F : St -> Except Int (α × St)} {M : PS -> α × PS} {G : α -> St -> Except Int (β × St)} {N : α -> PS -> β × PS} (hF : Ref F M) (hG : ∀ a, Ref (G a) (N a)) (hd : ∀ a st, st.e ≠ 0 -> (N a st).2.e = st.e) : Ref (fun st => bnd (F st) G) (fun st => N (M st).1 (M st).2) := by
 refine ⟨fun st b st2 h0 h => ?_, fun st e h0 h => ?_, fun st h => ?_⟩
 ·cases hf : F (toS st) with
  | error e => simp only [hf] at h; cases h
  | ok p =>
   obtain ⟨a, st1⟩ := p
   simp only [hf] at h
   rw [hF.ok st a st1 h0 hf]
   exact (hG a).ok (ofS st1) b st2 rfl h
 ·cases hf : F (toS st) with
  | error e1 =>
   simp only [hf] at h
   obtain rfl : e1 = e := by have : Except.error e1 = (Except.error e : Except Int (β × St)) := h; exact Except.error.inj this
   obtain ⟨h1, h2⟩ := hF.err st _ h0 hf
   exact ⟨by rw [hd _ _ (by rw [h1]; exact h2), h1], h2⟩
  | ok p =>
   obtain ⟨a, st1⟩ := p
   simp only [hf] at h
   rw [hF.ok st a st1 h0 hf]
   exact (hG a).err (ofS st1) e rfl h
 ·have h1 := hF.dead st h
  show (N (M st).1 (M st).2).2.e = _
  rw [hd _ _ (by rw [h1]; exact h), h1]
theorem Ref.map {α β : Type} {F : St -> Except Int (α × St)} {M : PS -> α × PS} (hF : Ref F M) (φ : α -> β) : Ref (fun st => Marshal.bnd (F st) fun a st => .ok (φ a, st)) (fun st => (φ (M st).1, (M st).2)) :=
 hF.bnd (fun a => Ref.ret (φ a)) (fun _ _ _ => rfl)
theorem Qel {st : PS} (h : st.e ≠ 0) (e : Int) : Qam st e = st := by unfold Qam; rw [if_neg h]
theorem Qcq {st : PS} (h : st.e = 0) (e : Int) : (Qam st e).e = e := by unfold Qam; rw [if_pos h]
theorem Qin (st : PS) (e : Int) (h : st.e ≠ 0) : (Qam st e).e = st.e := by rw [Qel h]
theorem Ref.next : Ref Qc2 Qad := by
 refine ⟨fun st a st' h0 h => ?_, fun st e h0 h => ?_, fun st h => ?_⟩
 ·unfold Qc2 toS at h
  unfold Qad
  rw [if_neg (by simp [h0])]
  cases hs : st.s with
  | nil => rw [hs] at h; cases h
  | cons x s =>
   rw [hs] at h
   cases h
   cases st
   simp only at h0
   subst h0
   rfl
 ·unfold Qc2 toS at h
  unfold Qad
  rw [if_neg (by simp [h0])]
  cases hs : st.s with
  | nil => rw [hs] at h; cases h; exact ⟨rfl, by decide⟩
  | cons x s => rw [hs] at h; cases h
 ·unfold Qad
  rw [if_pos h]
theorem Qrm {most : Nat} : ∀ (s : B) (i n a : Nat) (r : B), rdF most i n s = .ok (a, r) -> rdQ i s = r
 | [], _, _, _, _, h => by unfold rdF at h; cases h
 | x :: s, i, n, a, r, h => by
  unfold rdF at h
  unfold rdQ
  split at h
  ·cases h
  rename_i h1
  rw [if_neg h1]
  split at h
  ·rename_i h2
   rw [if_pos h2]
   split at h
   ·cases h; rfl
   ·cases h
  ·rename_i h2
   rw [if_neg h2]
   exact Qrm s _ _ a r h
theorem Qup {most : Nat} : ∀ (s : B) (i n : Nat) (e : Int), rdF most i n s = .error e -> e ≠ 0
 | [], _, _, _, h => by unfold rdF at h; cases h; decide
 | x :: s, i, n, e, h => by
  unfold rdF at h
  split at h
  ·cases h; decide
  split at h
  ·split at h
   ·cases h
   ·cases h; decide
  ·exact Qup s _ _ e h
theorem Ref.num (most : Nat) : Ref (numS most) (numM most) := by
 refine ⟨fun st a st' h0 h => ?_, fun st e h0 h => ?_, fun st h => ?_⟩
 ·unfold numS toS at h
  simp only at h
  unfold numM
  rw [if_neg (by simp [h0])]
  cases hr : rd most st.s with
  | error e => rw [hr] at h; cases h
  | ok p =>
   obtain ⟨n, r⟩ := p
   rw [hr] at h
   cases h
   have := Qrm st.s 0 0 _ _ hr
   simp only
   rw [this]
   cases st
   simp only at h0
   subst h0
   rfl
 ·unfold numS toS at h
  simp only at h
  unfold numM
  rw [if_neg (by simp [h0])]
  cases hr : rd most st.s with
  | error e1 => rw [hr] at h; cases h; exact ⟨rfl, Qup _ _ _ _ hr⟩
  | ok p => rw [hr] at h; cases h
 ·unfold numM
  rw [if_pos h]
theorem Qeu {most : Nat} {st : PS} (h : st.e ≠ 0) : numM most st = (0, st) := by unfold numM; rw [if_pos h]
theorem Qwm (most : Nat) : Qe4 most = fun st => bnd (numS maxN st) fun n st => if most < n then .error 4 else if st.s.length < n then .error 14 else .ok (st.s.take n, { st with s := st.s.drop n }) := by
 funext st
 unfold Qe4 rdT numS
 cases rd maxN st.s with
 | error e => rfl
 | ok p =>
  obtain ⟨n, r⟩ := p
  simp only [bnd]
  by_cases h1 : most < n
  ·rw [if_pos h1, if_pos h1]
  ·rw [if_neg h1, if_neg h1]
   by_cases h2 : r.length < n
   ·rw [if_pos h2, if_pos h2]
   ·rw [if_neg h2, if_neg h2]
theorem Ref.err4 {α : Type} {G : St -> Except Int (α × St)} {N : PS -> α × PS} (h : ∀ st, G st = .error 4) (hN : ∀ st, st.e = 0 -> (N st).2.e = 4) (hd : ∀ st, st.e ≠ 0 -> (N st).2.e = st.e) : Ref G N :=
 ⟨(fun st a st' _ e => by rw [h] at e; cases e), (fun st e h0 he => by rw [h] at he; cases he; exact ⟨hN st h0, by decide⟩), hd⟩
theorem Ref.text (most : Nat) : Ref (Qe4 most) (Qa7 most) := by
 rw [Qwm]
 refine Ref.bnd (Ref.num maxN) (G := fun n st => if most < n then .error 4 else if st.s.length < n then .error 14 else .ok (st.s.take n, { st with s := st.s.drop n }))
  (N := fun n st => if st.e ≠ 0 then (([] : B), st) else if most < n then ([], { st with e := 4 }) else if st.s.length < n then ([], { st with e := 14 }) else (st.s.take n, { st with s := st.s.drop n }))
  (fun n => ⟨fun st a st' h0 h => ?_, fun st e h0 h => ?_, fun st h => ?_⟩) (fun n st h => ?_)
 ·rw [if_neg (by simp [h0])]
  split at h
  ·cases h
  rename_i h1
  split at h
  ·cases h
  rename_i h2
  cases h
  have h3 : ¬ st.s.length < n := h2
  rw [if_neg h1, if_neg h3]
  cases st
  simp only at h0
  subst h0
  rfl
 ·rw [if_neg (by simp [h0])]
  split at h
  ·rename_i h1
   cases h
   rw [if_pos h1]
   exact ⟨rfl, by decide⟩
  rename_i h1
  split at h
  ·rename_i h2
   cases h
   have h3 : st.s.length < n := h2
   rw [if_neg h1, if_pos h3]
   exact ⟨rfl, by decide⟩
  ·cases h
 ·rw [if_pos h]
 ·rw [if_pos h]
theorem Ref.sym (x : UInt8) : Ref (symS x) (symM x) := by
 by_cases h58 : x = 58
 ·subst h58
  have e1 : symS 58 = fun st => Marshal.bnd (Qe4 40 st) fun t st => if t ∈ st.ss then .error 4 else .ok (t, { st with ss := st.ss ++ [t] }) := by
   funext st
   unfold symS Qgk Qe4
   rw [if_neg (by decide), if_pos rfl]
   cases rdT 40 st.s with
   | error e => rfl
   | ok p =>
    obtain ⟨t, r⟩ := p
    simp only
    by_cases h : t ∈ st.ss
    ·rw [if_pos h]
     show _ = if t ∈ st.ss then _ else _
     rw [if_pos h]
    ·rw [if_neg h]
     show _ = if t ∈ st.ss then _ else _
     rw [if_neg h]
  rw [e1]
  refine Ref.bnd (Ref.text 40) (N := fun t st => (t, { (if st.e = 0 /\ t ∈ st.ss then Qam st 4 else st) with ss := st.ss ++ [t] })) (fun t => ⟨fun st a st' h0 h => ?_, fun st e h0 h => ?_, fun st h => ?_⟩) (fun t st h => ?_)
  ·by_cases hm : t ∈ st.ss
   ·have hm2 : t ∈ (toS st).ss := hm
    rw [if_pos hm2] at h; cases h
   ·have hm2 : t ∉ (toS st).ss := hm
    rw [if_neg hm2] at h
    cases h
    rw [if_neg (by simp [hm])]
    cases st
    simp only at h0
    subst h0
    rfl
  ·by_cases hm : t ∈ st.ss
   ·have hm2 : t ∈ (toS st).ss := hm
    rw [if_pos hm2] at h
    cases h
    rw [if_pos ⟨h0, hm⟩]
    exact ⟨Qcq h0 4, by decide⟩
   ·have hm2 : t ∉ (toS st).ss := hm
    rw [if_neg hm2] at h; cases h
  ·rw [if_neg (by simp [h])]
  ·rw [if_neg (by simp [h])]
 ·by_cases h59 : x = 59
  ·subst h59
   have e1 : symS 59 = fun st => Marshal.bnd (numS maxN st) fun k st => match st.ss[k]? with
     | some t => .ok (t, st)
     | none => .error 4 := by
    funext st
    unfold symS Qgk numS
    rw [if_pos rfl]
    cases rd maxN st.s with
    | error e => rfl
    | ok p =>
     obtain ⟨k, r⟩ := p
     simp only
     show _ = (match st.ss[k]? with
      | some t => .ok (t, ⟨r, st.g, st.cells, st.ss⟩)
      | none => .error 4 : Except Int (B × St))
     cases st.ss[k]? with
     | none => rfl
     | some t => rfl
   rw [e1]
   have e2 : symM 59 = fun st => (fun k st => if st.e = 0 /\ k < st.ss.length then (st.ss.getD k [], st) else ([], Qam st 4)) (numM maxN st).1 (numM maxN st).2 := by
    funext st
    unfold symM
    rw [if_neg (by decide), if_pos rfl]
   rw [e2]
   refine Ref.bnd (Ref.num maxN) (G := fun k st => match st.ss[k]? with
     | some t => .ok (t, st)
     | none => .error 4) (N := fun k st => if st.e = 0 /\ k < st.ss.length then (st.ss.getD k [], st) else ([], Qam st 4)) (fun k => ⟨fun st a st' h0 h => ?_, fun st e h0 h => ?_, fun st h => ?_⟩) (fun k st h => ?_)
   ·cases hk : (toS st).ss[k]? with
    | none => rw [hk] at h; cases h
    | some t =>
     rw [hk] at h
     cases h
     have hk2 : st.ss[k]? = some a := hk
     have := (Zfz.1 hk2).1
     rw [if_pos ⟨h0, this⟩, Qqj h0, Zlz, hk2]
     rfl
   ·cases hk : (toS st).ss[k]? with
    | none =>
     rw [hk] at h
     cases h
     have hk2 : st.ss[k]? = none := hk
     have := List.getElem?_eq_none_iff.1 hk2
     rw [if_neg (by omega)]
     exact ⟨Qcq h0 4, by decide⟩
    | some t => rw [hk] at h; cases h
   ·rw [if_neg (by simp [h])]
    exact Qin st 4 h
   ·rw [if_neg (by simp [h])]
    exact Qin st 4 h
  ·have e1 : symS x = fun _ => .error 4 := by
    funext st
    unfold symS Qgk
    rw [if_neg h59, if_neg h58]
   have e2 : symM x = fun st => ([], Qam st 4) := by
    funext st
    unfold symM
    rw [if_neg h58, if_neg h59]
   rw [e1, e2]
   exact Ref.err4 (fun _ => rfl) (fun st h => Qcq h 4) (fun st h => Qin st 4 h)
theorem Qfj {st : PS} (h : st.e ≠ 0) : Qad st = (0, st) := by unfold Qad; rw [if_pos h]
theorem Qrh {st : PS} (h : st.e ≠ 0) : (symM 0 st).2 = st := by
 unfold symM
 rw [if_neg (by decide), if_neg (by decide), Qel h]
theorem Ql2 {x : UInt8} {st : PS} (h : st.e ≠ 0) : (symM x st).2.e = st.e := (Ref.sym x).dead st h
theorem Ref.items {f : St -> Except Int (Int × St)} {g : PS -> Int × PS} (hf : Ref f g) : ∀ (n : Nat) (l : List Int), Ref (Qdm f n l) (Qbh g n l)
 | 0, l => Ref.ret l
 | n + 1, l => by
  have h := Ref.bnd hf (G := fun i st => Qdm f n (l ++ [i]) st) (N := fun i st => Qbh g n (l ++ [i]) st) (fun i => Ref.items hf n (l ++ [i])) (fun i st hd => (Ref.items hf n (l ++ [i])).dead st hd)
  refine ⟨fun st a st' h0 hs => ?_, fun st e h0 hs => ?_, fun st hd => ?_⟩
  ·have := h.ok st a st' h0 hs
   unfold Qbh
   rw [if_pos h0]
   exact this
  ·have := h.err st e h0 hs
   unfold Qbh
   rw [if_pos h0]
   exact this
  ·unfold Qbh
   rw [if_neg hd]
theorem Ref.guard {P : Prop} [Decidable P] {β : Type} {G : St -> Except Int (β × St)} {N : PS -> β × PS} (hG : Ref G N) (hd : ∀ st, st.e ≠ 0 -> (N st).2.e = st.e) : Ref (fun st => if P then G st else .error 4) (fun st => N (if st.e = 0 /\ ¬ P then Qam st 4 else st)) := by
 refine ⟨fun st a st' h0 h => ?_, fun st e h0 h => ?_, fun st h => ?_⟩
 ·by_cases hp : P
  ·rw [if_pos hp] at h
   rw [if_neg (by simp [hp])]
   exact hG.ok st a st' h0 h
  ·rw [if_neg hp] at h; cases h
 ·by_cases hp : P
  ·rw [if_pos hp] at h
   rw [if_neg (by simp [hp])]
   exact hG.err st e h0 h
  ·rw [if_neg hp] at h
   cases h
   rw [if_pos ⟨h0, hp⟩]
   have := hd (Qam st 4) (by rw [Qcq h0]; decide)
   rw [this, Qcq h0]
   exact ⟨rfl, by decide⟩
 ·rw [if_neg (by simp [h])]
  exact hd st h
theorem Ref.attrs {f : St -> Except Int (Int × St)} {g : PS -> Int × PS} (hf : Ref f g) : ∀ (n : Nat) (ns : List B) (l : List Int), Ref (Qdq f n ns l) (Qbs g n ns l)
 | 0, ns, l => Ref.ret (ns, l)
 | n + 1, ns, l => by
  have h := Ref.bnd Ref.next (G := fun x st => Marshal.bnd (symS x st) fun t st => if Go.Scan.iiB t = true /\ t ∉ ns then Marshal.bnd (f st) fun i st => Qdq f n (ns ++ [t]) (l ++ [i]) st else .error 4)
   (N := fun x st => (fun t st => (fun st => Qbs g n (ns ++ [t]) (l ++ [(g st).1]) (g st).2) (if st.e = 0 /\ ¬ (Go.Scan.iiB t = true /\ t ∉ ns) then Qam st 4 else st)) (symM x st).1 (symM x st).2)
   (fun x => Ref.bnd (Ref.sym x) (fun t => Ref.guard (Ref.bnd hf (fun i => Ref.attrs hf n (ns ++ [t]) (l ++ [i])) (fun i st hd => (Ref.attrs hf n (ns ++ [t]) (l ++ [i])).dead st hd)) (fun st hd => by
    rw [(Ref.attrs hf n (ns ++ [t]) (l ++ [(g st).1])).dead _ (by rw [hf.dead st hd]; exact hd), hf.dead st hd]))
    (fun t st hd => by
     rw [if_neg (by simp [hd])]
     rw [(Ref.attrs hf n (ns ++ [t]) (l ++ [(g st).1])).dead _ (by rw [hf.dead st hd]; exact hd), hf.dead st hd]))
   (fun x st hd => by
    have h1 := Ql2 (x := x) hd
    simp only
    rw [if_neg (by simp [h1, hd])]
    rw [(Ref.attrs hf n _ _).dead _ (by rw [hf.dead _ (by rw [h1]; exact hd), h1]; exact hd), hf.dead _ (by rw [h1]; exact hd), h1])
  have key : ∀ st : PS, st.e = 0 -> Qbs g (n + 1) ns l st = (fun x st => (fun t st => (fun st => Qbs g n (ns ++ [t]) (l ++ [(g st).1]) (g st).2) (if st.e = 0 /\ ¬ (Go.Scan.iiB t = true /\ t ∉ ns) then Qam st 4 else st)) (symM x st).1 (symM x st).2) (Qad st).1 (Qad st).2 := fun st h0 => by
   conv => lhs; unfold Qbs
   rw [if_pos h0]
   have e : (Qe5 ns st).2 = if (symM (Qad st).1 (Qad st).2).2.e = 0 /\ ¬ (Go.Scan.iiB (symM (Qad st).1 (Qad st).2).1 = true /\ (symM (Qad st).1 (Qad st).2).1 ∉ ns) then Qam (symM (Qad st).1 (Qad st).2).2 4 else (symM (Qad st).1 (Qad st).2).2 := by
    unfold Qe5
    simp only
    by_cases h1 : (symM (Qad st).1 (Qad st).2).2.e = 0 /\ ((symM (Qad st).1 (Qad st).2).1 ∈ ns \/ Go.Scan.iiB (symM (Qad st).1 (Qad st).2).1 = false)
    ·rw [if_pos h1, if_pos]
     refine ⟨h1.1, fun h2 => ?_⟩
     rcases h1.2 with h3 | h3
     ·exact h2.2 h3
     ·rw [h2.1] at h3; cases h3
    ·rw [if_neg h1, if_neg]
     rintro ⟨h2, h3⟩
     refine h1 ⟨h2, ?_⟩
     by_cases h4 : (symM (Qad st).1 (Qad st).2).1 ∈ ns
     ·exact .inl h4
     ·refine .inr ?_
      cases h5 : Go.Scan.iiB (symM (Qad st).1 (Qad st).2).1 with
      | false => rfl
      | true => exact absurd ⟨h5, h4⟩ h3
   rw [e]
   rfl
  refine ⟨fun st a st' h0 hs => ?_, fun st e h0 hs => ?_, fun st hd => ?_⟩
  ·rw [key st h0]
   exact h.ok st a st' h0 hs
  ·rw [key st h0]
   exact h.err st e h0 hs
  ·unfold Qbs
   rw [if_neg hd]
theorem Qg5 {g : PS -> Int × PS} (n : Nat) (ns : List B) (l : List Int) {st : PS} (h : st.e ≠ 0) : Qbs g n ns l st = ((ns, l), st) := by
 cases n with
 | zero => rfl
 | succ n => unfold Qbs; rw [if_neg h]
theorem Qmg {g : PS -> Int × PS} (n : Nat) (l : List Int) {st : PS} (h : st.e ≠ 0) : Qbh g n l st = (l, st) := by
 cases n with
 | zero => rfl
 | succ n => unfold Qbh; rw [if_neg h]
theorem Ref.inner {f : St -> Except Int (Int × St)} {g : PS -> Int × PS} (hf : Ref f g) {x : UInt8} (hx : x ∈ Qbl) : Ref (Qce f x) (Qbo g x) := by
 have hnum : ∀ m, Ref (numS m) (numM m) := Ref.num
 unfold Qbl at hx
 simp only [List.mem_cons, List.not_mem_nil, or_false] at hx
 rcases hx with rfl | rfl | rfl | rfl | rfl | rfl | rfl | rfl | rfl | rfl
 ·exact Ref.ret _
 ·exact Ref.ret _
 ·exact Ref.ret _
 ·exact (Ref.num (2 * maxN)).map fun n => (⟨3, Qcr n, [], [], []⟩ : Cell)
 ·exact (Ref.text maxN).map fun t => (⟨4, 0, t, [], []⟩ : Cell)
 ·exact (Ref.sym 58).map fun t => (⟨5, 0, t, [], []⟩ : Cell)
 ·exact (Ref.sym 59).map fun t => (⟨5, 0, t, [], []⟩ : Cell)
 ·exact Ref.bnd (Ref.num maxN) (N := fun n st => ((⟨6, 0, [], [], (Qbh g n [] st).1⟩ : Cell), (Qbh g n [] st).2)) (fun n => (Ref.items hf n []).map fun l => (⟨6, 0, [], [], l⟩ : Cell)) (fun n st hd => by rw [Qmg n [] hd])
 ·exact Ref.bnd (Ref.num maxN) (N := fun n st => ((⟨7, 0, [], [], (Qbh g (2 * n) [] st).1⟩ : Cell), (Qbh g (2 * n) [] st).2)) (fun n => (Ref.items hf (2 * n) []).map fun l => (⟨7, 0, [], [], l⟩ : Cell)) (fun n st hd => by rw [Qmg _ [] hd])
 ·have h := Ref.bnd Ref.next (G := fun y st => Marshal.bnd (symS y st) fun t st => if Go.Scan.icB t = true then Marshal.bnd (numS maxN st) fun n st => Marshal.bnd (Qdq f n [] [] st) fun p st => .ok ((⟨8, 0, t, p.1, p.2⟩ : Cell), st) else .error 4)
   (N := fun y st => (fun t st => (fun st => (fun n st => ((⟨8, 0, t, (Qbs g n [] [] st).1.1, (Qbs g n [] [] st).1.2⟩ : Cell), (Qbs g n [] [] st).2)) (numM maxN st).1 (numM maxN st).2) (if st.e = 0 /\ ¬ (Go.Scan.icB t = true) then Qam st 4 else st)) (symM y st).1 (symM y st).2)
   (fun y => Ref.bnd (Ref.sym y) (fun t => Ref.guard (Ref.bnd (Ref.num maxN) (fun n => (Ref.attrs hf n [] []).map fun p => (⟨8, 0, t, p.1, p.2⟩ : Cell)) (fun n st hd => by rw [Qg5 n [] [] hd])) (fun st hd => by rw [Qeu hd, Qg5 _ _ _ hd]))
    (fun t st hd => by
     rw [if_neg (by simp [hd]), Qeu hd, Qg5 _ _ _ hd]))
   (fun y st hd => by
    have h1 := Ql2 (x := y) hd
    simp only
    rw [if_neg (by simp [h1, hd]), Qeu (by rw [h1]; exact hd), Qg5 _ _ _ (by rw [h1]; exact hd), h1])
  have e : Qbo g 111 = fun st => (fun y st => (fun t st => (fun st => (fun n st => ((⟨8, 0, t, (Qbs g n [] [] st).1.1, (Qbs g n [] [] st).1.2⟩ : Cell), (Qbs g n [] [] st).2)) (numM maxN st).1 (numM maxN st).2) (if st.e = 0 /\ ¬ (Go.Scan.icB t = true) then Qam st 4 else st)) (symM y st).1 (symM y st).2) (Qad st).1 (Qad st).2 := by
   funext st
   show objM g st = _
   unfold objM
   have e2 : (Qb6 st).2 = if (symM (Qad st).1 (Qad st).2).2.e = 0 /\ ¬ (Go.Scan.icB (symM (Qad st).1 (Qad st).2).1 = true) then Qam (symM (Qad st).1 (Qad st).2).2 4 else (symM (Qad st).1 (Qad st).2).2 := by
    unfold Qb6
    simp only [Bool.not_eq_true]
   rw [e2]
   rfl
  rw [e]
  exact h
theorem Qqp : ∀ (hs s r : B), Qns hs s = .ok r -> s = hs ++ r
 | [], s, r, h => by cases h; rfl
 | x :: hs, [], r, h => by cases h
 | x :: hs, y :: s, r, h => by
  unfold Qns at h
  split at h
  ·rename_i e
   rw [e, Qqp hs s r h]
   rfl
  ·cases h
theorem Qrf (x : UInt8) (st : PS) : toS (Qcg x st) = Qb1 x (toS st) := rfl
theorem Ref.cell : ∀ n : Nat, Ref (Qek n) (Qav n)
 | 0 => ⟨(fun st a st' h0 h => by cases h), (fun st e h0 h => by cases h; exact ⟨Qcq h0 99, by decide⟩), fun st h => Qin st 99 h⟩
 | n + 1 => by
  have ih := Ref.cell n
  refine Ref.bnd Ref.next (N := fun x st => if st.e ≠ 0 then (0, st) else if x = 64 then refM st else if 500 <= st.g.length \/ x ∉ Qbl then (0, Qam st 4) else ((st.g.length : Int), { (Qbo (Qav n) x (Qcg x st)).2 with g := (Qbo (Qav n) x (Qcg x st)).2.g.set st.g.length (Qbo (Qav n) x (Qcg x st)).1 }))
   (fun x => ⟨fun st a st' h0 h => ?_, fun st e h0 h => ?_, fun st h => ?_⟩) (fun x st h => by rw [if_pos h])
  ·rw [if_neg (by simp [h0])]
   by_cases h64 : x = 64
   ·rw [if_pos h64] at h ⊢
    cases hn : numS maxN (toS st) with
    | error e => rw [hn] at h; cases h
    | ok p =>
     obtain ⟨k, st1⟩ := p
     rw [hn] at h
     have h1 := (Ref.num maxN).ok st k st1 h0 hn
     have h2 : (match st1.cells[k]? with
      | some c => .ok (c, st1)
      | none => .error 4 : Except Int (Int × St)) = .ok (a, st') := h
     unfold refM
     rw [h1]
     simp only
     rw [if_neg (by simp [ofS])]
     cases hc : st1.cells[k]? with
     | none => rw [hc] at h2; cases h2
     | some c =>
      rw [hc] at h2
      cases h2
      have := (Zfz.1 hc).1
      have hcl : ¬ (ofS st').cells.length <= k := by show ¬ st'.cells.length <= k; omega
      rw [if_neg hcl]
      show ((st'.cells.getD k 0 : Int), ofS st') = _
      rw [Zlz, hc]
      rfl
   ·rw [if_neg h64] at h ⊢
    have e1 : (toS st).g.length = st.g.length := rfl
    rw [e1] at h
    by_cases hb : 500 <= st.g.length \/ x ∉ Qbl
    ·rw [if_pos hb] at h; cases h
    ·rw [if_neg hb] at h ⊢
     have hx : x ∈ Qbl := Classical.byContradiction fun hx => hb (.inr hx)
     rw [<- Qrf] at h
     have hi := Ref.inner ih hx
     cases hn : Qce (Qek n) x (toS (Qcg x st)) with
     | error e => rw [hn] at h; cases h
     | ok p =>
      obtain ⟨c, st1⟩ := p
      rw [hn] at h
      have h1 := hi.ok (Qcg x st) c st1 h0 hn
      cases h
      rw [h1]
      rfl
  ·rw [if_neg (by simp [h0])]
   by_cases h64 : x = 64
   ·rw [if_pos h64] at h ⊢
    unfold refM
    cases hn : numS maxN (toS st) with
    | error e1 =>
     rw [hn] at h
     have : Except.error e1 = (Except.error e : Except Int (Int × St)) := h
     cases this
     obtain ⟨h1, h2⟩ := (Ref.num maxN).err st _ h0 hn
     simp only
     rw [if_pos (by rw [h1]; exact h2)]
     exact ⟨h1, h2⟩
    | ok p =>
     obtain ⟨k, st1⟩ := p
     rw [hn] at h
     have h1 := (Ref.num maxN).ok st k st1 h0 hn
     have h2 : (match st1.cells[k]? with
      | some c => .ok (c, st1)
      | none => .error 4 : Except Int (Int × St)) = .error e := h
     rw [h1]
     simp only
     rw [if_neg (by simp [ofS])]
     cases hc : st1.cells[k]? with
     | some c => rw [hc] at h2; cases h2
     | none =>
      rw [hc] at h2
      cases h2
      have := List.getElem?_eq_none_iff.1 hc
      have hcl : (ofS st1).cells.length <= k := by show st1.cells.length <= k; omega
      rw [if_pos hcl]
      exact ⟨Qcq rfl 4, by decide⟩
   ·rw [if_neg h64] at h ⊢
    have e1 : (toS st).g.length = st.g.length := rfl
    rw [e1] at h
    by_cases hb : 500 <= st.g.length \/ x ∉ Qbl
    ·rw [if_pos hb] at h ⊢
     cases h
     exact ⟨Qcq h0 4, by decide⟩
    ·rw [if_neg hb] at h ⊢
     have hx : x ∈ Qbl := Classical.byContradiction fun hx => hb (.inr hx)
     rw [<- Qrf] at h
     have hi := Ref.inner ih hx
     cases hn : Qce (Qek n) x (toS (Qcg x st)) with
     | error e1 =>
      rw [hn] at h
      have : Except.error e1 = (Except.error e : Except Int (Int × St)) := h
      cases this
      exact hi.err (Qcg x st) _ h0 hn
     | ok p => rw [hn] at h; cases h
  ·rw [if_pos h]
theorem Qlq (n : Nat) {st : PS} (h : st.e ≠ 0) : Qav (n + 1) st = (0, st) := by
 unfold Qav
 simp only
 rw [Qfj h, if_pos h]
def Qej : B -> PS -> PS
 | [], st => st
 | h :: hs, st => Qej hs (if (Qad st).1 ≠ h then Qam (Qad st).2 4 else (Qad st).2)
def endM (st : PS) : PS := if st.e = 0 /\ st.s ≠ [] then Qam st 4 else st
open Classical in
noncomputable def Qgu (st : PS) : PS := if st.e = 0 then { st with e := if Qbe st.g then 0 else 1 } else st
noncomputable def Qhl (s : B) : PS := Qgu (endM (Qav (s.length + 1) (Qej headB ⟨s, [], [], [], 0⟩)).2)
theorem Qgq : ∀ (hs : B) {st : PS}, st.e ≠ 0 -> Qej hs st = st
 | [], _, _ => rfl
 | h :: hs, st, hd => by
  unfold Qej
  rw [Qfj hd]
  simp only
  split
  ·rw [Qel hd]; exact Qgq hs hd
  ·exact Qgq hs hd
theorem Qnr : ∀ (hs : B) (st : PS), st.e = 0 -> (∀ r, Qns hs st.s = .ok r -> Qej hs st = { st with s := r }) /\ ∀ e, Qns hs st.s = .error e -> (Qej hs st).e = e /\ e ≠ 0
 | [], st, h0 => ⟨fun r h => by cases h; rfl, fun e h => by cases h⟩
 | x :: hs, st, h0 => by
  cases hs2 : st.s with
  | nil =>
   refine ⟨(fun r h => by cases h), fun e h => ?_⟩
   cases h
   have hn : Qad st = (0, { st with e := 14 }) := by unfold Qad; rw [if_neg (by simp [h0]), hs2]
   unfold Qej
   rw [hn]
   simp only
   have hd : ({ st with e := 14 } : PS).e ≠ 0 := by show (14 : Int) ≠ 0; decide
   split
   ·rw [Qel hd, Qgq hs hd]
    exact ⟨rfl, by decide⟩
   ·rw [Qgq hs hd]
    exact ⟨rfl, by decide⟩
  | cons y s =>
   have hn : Qad st = (y, { st with s := s }) := by unfold Qad; rw [if_neg (by simp [h0]), hs2]
   unfold Qej Qns
   rw [hn]
   simp only
   by_cases hy : y = x
   ·rw [if_pos hy, if_neg (by simp [hy])]
    have ih := Qnr hs { st with s := s } h0
    exact ih
   ·rw [if_neg hy, if_pos hy]
    refine ⟨(fun r h => by cases h), fun e h => ?_⟩
    cases h
    have h4 : (Qam ({ st with s := s } : PS) 4).e = 4 := Qcq (st := { st with s := s }) h0 4
    have hd : (Qam ({ st with s := s } : PS) 4).e ≠ 0 := by rw [h4]; decide
    rw [Qgq hs hd]
    exact ⟨h4, by decide⟩
theorem Qnx {st : PS} (h : st.e ≠ 0) : endM st = st := by unfold endM; rw [if_neg (by simp [h])]
theorem Qfn {st : PS} (h : st.e ≠ 0) : Qgu st = st := by unfold Qgu; rw [if_neg h]
theorem Qnm {s : B} (hs : s.length <= 20000) : (∀ p, Qca s = .ok p -> (Qhl s).e = 0 /\ (Qhl s).g = p.1 /\ (Qhl s).ss = p.2) /\ ∀ e, Qca s = .error e -> (Qhl s).e = e /\ e ≠ 0 := by
 unfold Qca
 rw [if_neg (by omega)]
 have hh := Qnr headB ⟨s, [], [], [], 0⟩ rfl
 unfold Qhl
 cases hr : Qns headB s with
 | error e1 =>
  obtain ⟨h1, h2⟩ := hh.2 e1 hr
  refine ⟨(fun p h => by cases h), fun e h => ?_⟩
  cases h
  have hd : (Qej headB ⟨s, [], [], [], 0⟩).e ≠ 0 := by rw [h1]; exact h2
  rw [Qlq _ hd, Qnx hd, Qfn hd]
  exact ⟨h1, h2⟩
 | ok r =>
  have h1 := hh.1 r hr
  rw [h1]
  have hl : r.length <= s.length := by rw [Qqp _ _ _ hr, Zhz]; omega
  have hc := Ref.cell (s.length + 1)
  have hst : Qek (r.length + 1) ⟨r, [], [], []⟩ = Qek (s.length + 1) ⟨r, [], [], []⟩ := Qih _ _ _ (Nat.lt_succ_self _) (by show r.length < _; omega)
  simp only
  rw [hst]
  cases hf : Qek (s.length + 1) ⟨r, [], [], []⟩ with
  | error e1 =>
   obtain ⟨h2, h3⟩ := hc.err ⟨r, [], [], [], 0⟩ e1 rfl hf
   refine ⟨(fun p h => by cases h), fun e h => ?_⟩
   cases h
   have hd : (Qav (s.length + 1) ⟨r, [], [], [], 0⟩).2.e ≠ 0 := by rw [h2]; exact h3
   rw [Qnx hd, Qfn hd]
   exact ⟨h2, h3⟩
  | ok q =>
   obtain ⟨i, st⟩ := q
   have h2 := hc.ok ⟨r, [], [], [], 0⟩ i st rfl hf
   rw [h2]
   simp only
   by_cases hn : st.s = []
   ·have he : endM (ofS st) = ofS st := by
     unfold endM
     rw [if_neg]
     rintro ⟨_, h⟩
     exact h hn
    rw [if_neg (by simp [hn]), he]
    unfold Qgu
    rw [if_pos (show (ofS st).e = 0 from rfl)]
    have hg : (ofS st).g = st.g := rfl
    rw [hg]
    by_cases hv : Qbe st.g
    ·rw [if_pos hv, if_pos hv]
     exact ⟨fun p h => by cases h; exact ⟨rfl, rfl, rfl⟩, fun e h => by cases h⟩
    ·rw [if_neg hv, if_neg hv]
     exact ⟨(fun p h => by cases h), fun e h => by cases h; exact ⟨rfl, by decide⟩⟩
   ·have he : endM (ofS st) = Qam (ofS st) 4 := by
     unfold endM
     rw [if_pos ⟨rfl, hn⟩]
    have h4 : (Qam (ofS st) 4).e = 4 := Qcq rfl 4
    rw [if_pos hn, he, Qfn (by rw [h4]; decide)]
    exact ⟨(fun p h => by cases h), fun e h => by cases h; exact ⟨h4, by decide⟩⟩
structure Le (k : Nat) (st st' : PS) : Prop where
 pot : st'.ss.length + st'.s.length <= st.ss.length + st.s.length + k
 s : st'.s.length <= st.s.length
 g : st.g.length <= st'.g.length
 g5 : st.g.length <= 500 -> st'.g.length <= 500
 cl : st'.cells.length + st.g.length <= st.cells.length + st'.g.length
theorem Le.refl (st : PS) : Le 0 st st := ⟨by omega, by omega, by omega, fun h => h, by omega⟩
theorem Le.trans {k j : Nat} {a b c : PS} (h : Le k a b) (h2 : Le j b c) : Le (k + j) a c :=
 ⟨by have := h.pot; have := h2.pot; omega, Zwz h2.s h.s, Zwz h.g h2.g, fun h0 => h2.g5 (h.g5 h0), by have := h.cl; have := h2.cl; have := h.g; have := h2.g; omega⟩
theorem Le.mono {k j : Nat} {a b : PS} (h : Le k a b) (hj : k <= j) : Le j a b := ⟨by have := h.pot; omega, h.s, h.g, h.g5, h.cl⟩
theorem Qcj (st : PS) (e : Int) : Le 0 st (Qam st e) := by unfold Qam; split <;> exact ⟨by simp, by simp, by simp, fun h => h, by simp⟩
theorem Qdd (st : PS) : Le 0 st (Qad st).2 := by
 unfold Qad
 split
 ·exact Le.refl st
 split
 ·exact ⟨by simp, by simp, by simp, fun h => h, by simp⟩
 ·rename_i x s h
  refine ⟨?_, ?_, by simp, fun h => h, by simp⟩ <;> · rw [h]; simp
theorem Qk2 {st : PS} (h : (Qad st).2.e = 0 \/ (Qad st).1 ≠ 0) : (Qad st).2.s.length + 1 <= st.s.length /\ (Qad st).2.ss = st.ss /\ (Qad st).2.g = st.g /\ (Qad st).2.cells = st.cells /\ (Qad st).2.e = st.e /\ st.e = 0 := by
 unfold Qad at h ⊢
 split at h
 ·rename_i h1
  rcases h with h | h
  ·exact absurd h h1
  ·exact absurd rfl h
 rename_i h1
 rw [if_neg h1]
 cases hs : st.s with
 | nil =>
  rw [hs] at h
  rcases h with h | h
  ·exact absurd h (by show (14 : Int) ≠ 0; decide)
  ·exact absurd rfl h
 | cons x s => exact ⟨by simp, rfl, rfl, rfl, rfl, Classical.not_not.1 h1⟩
theorem Qx0 : ∀ (s : B) (i : Nat), (rdQ i s).length <= s.length
 | [], _ => Zcz _
 | x :: s, i => by
  unfold rdQ
  split
  ·simp
  split
  ·simp
  ·exact Zwz (Qx0 s _) (by simp)
theorem Qc4 (most : Nat) (st : PS) : Le 0 st (numM most st).2 := by
 have h := Qx0 st.s 0
 unfold numM
 split
 ·exact Le.refl st
 split <;> exact ⟨by show st.ss.length + (rdQ 0 st.s).length <= _; omega, h, Zcz _, fun h => h, Zcz _⟩
theorem Qrp {most : Nat} : ∀ (s : B) (i n a : Nat) (r : B), rdF most i n s = .ok (a, r) -> a <= most
 | [], _, _, _, _, h => by unfold rdF at h; cases h
 | x :: s, i, n, a, r, h => by
  unfold rdF at h
  split at h
  ·cases h
  split at h
  ·split at h
   ·rename_i h3
    cases h
    exact h3
   ·cases h
  ·exact Qrp s _ _ a r h
theorem Qea (most : Nat) (st : PS) : (numM most st).1 <= most := by
 unfold numM
 split
 ·exact Zkz _
 split
 ·rename_i n r h
  exact Qrp _ _ _ _ _ h
 ·exact Zkz _
theorem Qkh (most : Nat) (st : PS) : Le 0 st (Qa7 most st).2 := by
 have h := Qc4 maxN st
 unfold Qa7
 split
 ·exact h
 split
 ·exact h.trans (k := 0) (j := 0) ⟨by simp, by simp, by simp, fun h => h, by simp⟩
 split
 ·exact h.trans (k := 0) (j := 0) ⟨by simp, by simp, by simp, fun h => h, by simp⟩
 ·exact h.trans (k := 0) (j := 0) ⟨by simp, by simp, by simp, fun h => h, by simp⟩
theorem Qxw (x : UInt8) (st : PS) : Le (if x = 58 then 1 else 0) st (symM x st).2 := by
 unfold symM
 split
 ·have h := Qkh 40 st
  have h2 : Le 0 (Qa7 40 st).2 (if (Qa7 40 st).2.e = 0 /\ (Qa7 40 st).1 ∈ (Qa7 40 st).2.ss then Qam (Qa7 40 st).2 4 else (Qa7 40 st).2) := by
   split
   ·exact Qcj _ _
   ·exact Le.refl _
  have h3 := h.trans h2
  generalize (if (Qa7 40 st).2.e = 0 /\ (Qa7 40 st).1 ∈ (Qa7 40 st).2.ss then Qam (Qa7 40 st).2 4 else (Qa7 40 st).2) = q at h2 h3 ⊢
  have h4 := h.pot
  have h5 := h2.s
  exact ⟨by simp; omega, h3.s, h3.g, h3.g5, h3.cl⟩
 split
 ·have h := Qc4 maxN st
  split
  ·exact h
  ·exact h.trans (Qcj _ _)
 ·exact Qcj _ _
theorem Qfi (st : PS) : Le 0 st (symM (Qad st).1 (Qad st).2).2 := by
 have h := Qxw (Qad st).1 (Qad st).2
 by_cases hx : (Qad st).1 = 58
 ·rw [if_pos hx] at h
  obtain ⟨h1, h2, h3, h4, _⟩ := Qk2 (st := st) (.inr (by rw [hx]; decide))
  have h5 := h.pot
  have h6 := h.cl
  rw [h2] at h5
  rw [h3, h4] at h6
  exact ⟨by omega, Zwz h.s (by omega), by rw [<- h3]; exact h.g, fun h0 => h.g5 (by rw [h3]; exact h0), h6⟩
 ·rw [if_neg hx] at h
  exact (Qdd st).trans h
theorem Qj2 (st : PS) : Le 0 st (Qb6 st).2 := by
 unfold Qb6
 simp only
 split
 ·exact (Qfi st).trans (Qcj _ _)
 ·exact Qfi st
theorem Qqk (ns : List B) (st : PS) : Le 0 st (Qe5 ns st).2 := by
 unfold Qe5
 simp only
 split
 ·exact (Qfi st).trans (Qcj _ _)
 ·exact Qfi st
structure Qp2 (f : PS -> Int × PS) : Prop where
 le : ∀ st, Le 0 st (f st).2
 lt : ∀ st, (f st).2.e = 0 -> (f st).2.s.length < st.s.length
def liv (st : PS) : Nat := if st.e = 0 then 1 else 0
theorem Qg1 {f : PS -> Int × PS} (hf : Qp2 f) : ∀ (n : Nat) (l : List Int) (st : PS), Le 0 st (Qbh f n l st).2 /\ (Qbh f n l st).1.length + (Qbh f n l st).2.s.length + liv (Qbh f n l st).2 <= l.length + st.s.length + liv st
 | 0, l, st => ⟨Le.refl st, Zcz _⟩
 | n + 1, l, st => by
  unfold Qbh
  split
  ·rename_i h0
   obtain ⟨h1, h2⟩ := Qg1 hf n (l ++ [(f st).1]) (f st).2
   refine ⟨(hf.le st).trans h1, Zwz h2 ?_⟩
   have h3 := (hf.le st).s
   have h4 := hf.lt st
   unfold liv
   rw [if_pos h0, Zhz, List.length_singleton]
   split
   ·rename_i h5
    have := h4 h5
    omega
   ·omega
  ·exact ⟨Le.refl st, Zcz _⟩
theorem Qn0 {f : PS -> Int × PS} (hf : Qp2 f) : ∀ (n : Nat) (ns : List B) (l : List Int) (st : PS), Le 0 st (Qbs f n ns l st).2 /\ (Qbs f n ns l st).1.2.length + (Qbs f n ns l st).2.s.length + liv (Qbs f n ns l st).2 <= l.length + st.s.length + liv st /\ (Qbs f n ns l st).1.1.length + l.length = ns.length + (Qbs f n ns l st).1.2.length
 | 0, ns, l, st => ⟨Le.refl st, Zcz _, rfl⟩
 | n + 1, ns, l, st => by
  unfold Qbs
  split
  ·rename_i h0
   obtain ⟨h1, h2, h6⟩ := Qn0 hf n (ns ++ [(Qe5 ns st).1]) (l ++ [(f (Qe5 ns st).2).1]) (f (Qe5 ns st).2).2
   have h7 := Qqk ns st
   refine ⟨(h7.trans (hf.le _)).trans h1, Zwz h2 ?_, ?_⟩
   ·have h3 := (hf.le (Qe5 ns st).2).s
    have h4 := hf.lt (Qe5 ns st).2
    have h8 := h7.s
    unfold liv
    rw [if_pos h0, Zhz, List.length_singleton]
    split
    ·rename_i h5
     have := h4 h5
     omega
    ·omega
   ·simp only [Zhz, List.length_singleton] at h6
    omega
  ·exact ⟨Le.refl st, Zcz _, rfl⟩
theorem Qr5 {f : PS -> Int × PS} (hf : Qp2 f) (x : UInt8) (st : PS) : Le (if x = 58 then 1 else 0) st (Qbo f x st).2 := by
 have z : ∀ {st' : PS}, Le 0 st st' -> Le (if x = 58 then 1 else 0) st st' := fun h => h.mono (Zkz _)
 have hs := Qxw x st
 generalize (if x = 58 then 1 else 0) = k at z hs ⊢
 unfold Qbo
 split
 ·exact z (Le.refl _)
 split
 ·exact z (Le.refl _)
 split
 ·exact z (Qc4 _ _)
 split
 ·exact z (Qkh _ _)
 split
 ·exact hs
 split
 ·exact z ((Qc4 _ _).trans (Qg1 hf _ _ _).1)
 split
 ·exact z ((Qc4 _ _).trans (Qg1 hf _ _ _).1)
 split
 ·exact z (((Qj2 st).trans (Qc4 _ _)).trans (Qn0 hf _ _ _ _).1)
 ·exact z (Le.refl _)
theorem Qz1 (st : PS) : Le 0 st (refM st).2 := by
 have h := Qc4 maxN st
 unfold refM
 simp only
 split
 ·exact h
 split
 ·exact h.trans (Qcj _ _)
 ·exact h
theorem Qdo : ∀ n : Nat, Qp2 (Qav n)
 | 0 => ⟨fun st => Qcj st 99, fun st h => by
   unfold Qav Qam at h
   split at h
   ·exact absurd h (by show (99 : Int) ≠ 0; decide)
   ·rename_i h2; exact absurd h h2⟩
 | n + 1 => by
  have ih := Qdo n
  have key : ∀ st, Le 0 st (Qav (n + 1) st).2 /\ ((Qav (n + 1) st).2.e = 0 -> (Qav (n + 1) st).2.s.length < st.s.length) := by
   intro st
   unfold Qav
   simp only
   have h0 := Qdd st
   split
   ·rename_i h1
    exact ⟨h0, fun h => absurd h h1⟩
   rename_i h1
   obtain ⟨k1, k2, k3, k4, k5, k6⟩ := Qk2 (st := st) (.inl (Classical.not_not.1 h1))
   split
   ·have h2 := Qz1 (Qad st).2
    exact ⟨h0.trans h2, fun _ => Nat.lt_of_le_of_lt h2.s (by omega)⟩
   split
   ·have h2 := Qcj (Qad st).2 4
    exact ⟨h0.trans h2, fun _ => Nat.lt_of_le_of_lt h2.s (by omega)⟩
   ·rename_i h2 h3
    have h4 := Qr5 ih (Qad st).1 (Qcg (Qad st).1 (Qad st).2)
    have o1 : (Qcg (Qad st).1 (Qad st).2).s = (Qad st).2.s := rfl
    have o2 : (Qcg (Qad st).1 (Qad st).2).ss = (Qad st).2.ss := rfl
    have o3 : (Qcg (Qad st).1 (Qad st).2).g.length = (Qad st).2.g.length + 1 := by unfold Qcg; simp
    have o4 : (Qcg (Qad st).1 (Qad st).2).cells.length <= (Qad st).2.cells.length + 1 := by unfold Qcg; simp only; split <;> simp
    have p1 := h4.pot
    have p2 := h4.s
    have p3 := h4.g
    have p4 := h4.g5
    have p5 := h4.cl
    rw [o1, o2] at p1
    rw [o1] at p2
    rw [o3] at p3 p4 p5
    rw [k2] at p1
    rw [k3] at p3 p4 p5
    rw [k4] at o4
    have hg : ¬ 500 <= (Qad st).2.g.length := fun h => h3 (.inl h)
    rw [k3] at hg
    have h58 : (if (Qad st).1 = 58 then 1 else 0) <= 1 := by split <;> omega
    refine ⟨⟨?_, ?_, ?_, fun _ => ?_, ?_⟩, fun _ => ?_⟩
    ·show (Qbo (Qav n) (Qad st).1 (Qcg (Qad st).1 (Qad st).2)).2.ss.length + (Qbo (Qav n) (Qad st).1 (Qcg (Qad st).1 (Qad st).2)).2.s.length <= _
     omega
    ·show (Qbo (Qav n) (Qad st).1 (Qcg (Qad st).1 (Qad st).2)).2.s.length <= _
     omega
    ·show _ <= (List.set _ _ _).length
     rw [List.length_set]
     omega
    ·show (List.set _ _ _).length <= _
     rw [List.length_set]
     omega
    ·show (Qbo (Qav n) (Qad st).1 (Qcg (Qad st).1 (Qad st).2)).2.cells.length + _ <= _ + (List.set _ _ _).length
     rw [List.length_set]
     omega
    ·show (Qbo (Qav n) (Qad st).1 (Qcg (Qad st).1 (Qad st).2)).2.s.length < _
     omega
  exact ⟨fun st => (key st).1, fun st => (key st).2⟩
structure Bd (st : PS) : Prop where
 g : st.g.length <= 500
 cl : st.cells.length <= st.g.length
 pot : st.ss.length + st.s.length <= 30000
theorem Bd.le {st st' : PS} (b : Bd st) (h : Le 0 st st') : Bd st' := ⟨h.g5 b.g, by have := h.cl; have := b.cl; omega, by have := h.pot; have := b.pot; omega⟩
def gS (st : St) (g : List Cell) : St := { st with g := g }
structure FrS {α : Type} (F : St -> Except Int (α × St)) : Prop where
 ok : ∀ st a st', F st = .ok (a, st') -> ∃ tl, st'.g = st.g ++ tl /\ ∀ g2, g2.length = st.g.length -> F (gS st g2) = .ok (a, gS st' (g2 ++ tl))
 err : ∀ st e, F st = .error e -> ∀ g2, g2.length = st.g.length -> F (gS st g2) = .error e
theorem FrS.ret {α : Type} (a : α) : FrS fun st => .ok (a, st) :=
 ⟨fun st b st' h => by cases h; exact ⟨[], by simp, fun g2 _ => by rw [List.append_nil]⟩, fun st e h => by cases h⟩
theorem FrS.fail {α : Type} (e : Int) : FrS fun _ => (.error e : Except Int (α × St)) :=
 ⟨(fun st b st' h => by cases h), fun st e h g2 _ => h⟩
theorem FrS.bnd {α β : Type} {F : St -> Except Int (α × St)} {G : α -> St -> Except Int (β × St)} (hF : FrS F) (hG : ∀ a, FrS (G a)) : FrS fun st => Marshal.bnd (F st) G := by
 refine ⟨fun st b st2 h => ?_, fun st e h g2 hg => ?_⟩
 ·cases hf : F st with
  | error e => simp only [hf] at h; cases h
  | ok p =>
   obtain ⟨a, st1⟩ := p
   simp only [hf] at h
   obtain ⟨t1, e1, k1⟩ := hF.ok st a st1 hf
   obtain ⟨t2, e2, k2⟩ := (hG a).ok st1 b st2 h
   refine ⟨t1 ++ t2, by rw [e2, e1, Zuz], fun g2 hg => ?_⟩
   simp only [k1 g2 hg]
   have := k2 (g2 ++ t1) (by rw [e1, Zhz, Zhz, hg])
   rw [Zuz] at this
   exact this
 ·cases hf : F st with
  | error e1 =>
   simp only [hf] at h
   simp only [hF.err st e1 hf g2 hg]
   exact h
  | ok p =>
   obtain ⟨a, st1⟩ := p
   simp only [hf] at h
   obtain ⟨t1, e1, k1⟩ := hF.ok st a st1 hf
   simp only [k1 g2 hg]
   exact (hG a).err st1 e h (g2 ++ t1) (by rw [e1, Zhz, Zhz, hg])
theorem FrS.same {α : Type} {F : St -> Except Int (α × St)} (h : ∀ st g2, F (gS st g2) = match F st with
  | .ok (a, st') => .ok (a, gS st' g2)
  | .error e => .error e) (hg : ∀ st a st', F st = .ok (a, st') -> st'.g = st.g) : FrS F :=
 ⟨fun st a st' e => ⟨[], by rw [hg st a st' e, List.append_nil], fun g2 _ => by rw [h, e, List.append_nil]⟩, fun st e he g2 _ => by rw [h, he]⟩
theorem FrS.next : FrS Qc2 := by
 refine FrS.same (fun st g2 => ?_) fun st a st' h => ?_
 ·unfold Qc2 gS
  cases st.s <;> rfl
 ·unfold Qc2 at h
  split at h
  ·cases h
  ·cases h; rfl
theorem FrS.num (most : Nat) : FrS (numS most) := by
 refine FrS.same (fun st g2 => ?_) fun st a st' h => ?_
 ·unfold numS gS
  cases rd most st.s <;> rfl
 ·unfold numS at h
  split at h
  ·cases h
  ·cases h; rfl
theorem FrS.text (most : Nat) : FrS (Qe4 most) := by
 refine FrS.same (fun st g2 => ?_) fun st a st' h => ?_
 ·unfold Qe4 gS
  cases rdT most st.s <;> rfl
 ·unfold Qe4 at h
  split at h
  ·cases h
  ·cases h; rfl
theorem FrS.sym (x : UInt8) : FrS (symS x) := by
 refine FrS.same (fun st g2 => ?_) fun st a st' h => ?_
 ·unfold symS gS
  cases Qgk x st.ss st.s <;> rfl
 ·unfold symS at h
  split at h
  ·cases h
  ·cases h; rfl
theorem FrS.ite {α : Type} {P : Prop} [Decidable P] {F G : St -> Except Int (α × St)} (hF : FrS F) (hG : FrS G) : FrS (fun st => if P then F st else G st) := by
 by_cases h : P
 ·simp only [if_pos h]; exact hF
 ·simp only [if_neg h]; exact hG
theorem FrS.items {f : St -> Except Int (Int × St)} (hf : FrS f) : ∀ (n : Nat) (l : List Int), FrS (Qdm f n l)
 | 0, l => FrS.ret l
 | n + 1, l => hf.bnd fun i => FrS.items hf n (l ++ [i])
theorem FrS.attrs {f : St -> Except Int (Int × St)} (hf : FrS f) : ∀ (n : Nat) (ns : List B) (l : List Int), FrS (Qdq f n ns l)
 | 0, ns, l => FrS.ret (ns, l)
 | n + 1, ns, l => FrS.bnd FrS.next fun x => FrS.bnd (FrS.sym x) fun t => FrS.ite (FrS.bnd hf fun i => FrS.attrs hf n (ns ++ [t]) (l ++ [i])) (FrS.fail 4)
theorem FrS.inner {f : St -> Except Int (Int × St)} (hf : FrS f) (x : UInt8) : FrS (Qce f x) :=
 FrS.ite (FrS.ret _) <| FrS.ite (FrS.ret _) <| FrS.ite (FrS.ret _) <| FrS.ite (FrS.bnd (FrS.num _) fun _ => FrS.ret _) <| FrS.ite (FrS.bnd (FrS.text _) fun _ => FrS.ret _) <|
  FrS.ite (FrS.bnd (FrS.sym _) fun _ => FrS.ret _) <| FrS.ite (FrS.bnd (FrS.num _) fun n => FrS.bnd (FrS.items hf n []) fun _ => FrS.ret _) <|
  FrS.ite (FrS.bnd (FrS.num _) fun n => FrS.bnd (FrS.items hf (2 * n) []) fun _ => FrS.ret _) <|
  FrS.bnd FrS.next fun y => FrS.bnd (FrS.sym y) fun _ => FrS.ite (FrS.bnd (FrS.num _) fun n => FrS.bnd (FrS.attrs hf n [] []) fun _ => FrS.ret _) (FrS.fail 4)
theorem FrS.form : ∀ n : Nat, FrS (Qek n)
 | 0 => FrS.fail 99
 | n + 1 => by
  have ih := FrS.form n
  refine FrS.bnd FrS.next fun x => FrS.ite (FrS.bnd (FrS.num _) fun k => ?_) ⟨fun st a st' h => ?_, fun st e h g2 hg => ?_⟩
  ·refine FrS.same (fun st g2 => ?_) fun st a st' h => ?_
   ·show (match st.cells[k]? with
     | some c => .ok (c, gS st g2)
     | none => .error 4 : Except Int (Int × St)) = _
    cases st.cells[k]? <;> rfl
   ·split at h
    ·cases h; rfl
    ·cases h
  ·split at h
   ·cases h
   rename_i hc
   cases hn : Qce (Qek n) x (Qb1 x st) with
   | error e => simp only [hn] at h; cases h
   | ok p =>
    obtain ⟨c, st1⟩ := p
    simp only [hn] at h
    cases h
    obtain ⟨t1, e1, k1⟩ := (FrS.inner ih x).ok _ c st1 hn
    have e1 : st1.g = st.g ++ nilC :: t1 := by rw [e1]; show (st.g ++ [nilC]) ++ t1 = _; simp
    have hset : ∀ g : List Cell, g.length = st.g.length -> (g ++ nilC :: t1).set st.g.length c = g ++ c :: t1 := fun g hg => by rw [<- hg, List.set_append_right _ _ (Zcz _), Nat.sub_self]; rfl
    refine ⟨c :: t1, ?_, fun g2 hg => ?_⟩
    ·show st1.g.set st.g.length c = _
     rw [e1, hset st.g rfl]
    ·have hc2 : ¬ (500 <= (gS st g2).g.length \/ x ∉ Qbl) := by show ¬ (500 <= g2.length \/ x ∉ Qbl); rw [hg]; exact hc
     rw [if_neg hc2]
     have ho : Qb1 x (gS st g2) = gS (Qb1 x st) (g2 ++ [nilC]) := by unfold Qb1 gS; simp only [hg]
     have k2 := k1 (g2 ++ [nilC]) (by show (g2 ++ [nilC]).length = (st.g ++ [nilC]).length; simp [hg])
     rw [ho, k2]
     show Except.ok (((gS st g2).g.length : Int), setS (gS st g2).g.length c (gS st1 (g2 ++ [nilC] ++ t1))) = _
     have hgl : (gS st g2).g.length = st.g.length := hg
     rw [hgl]
     have h9 := hset g2 hg
     have h8 : setS st.g.length c (gS st1 (g2 ++ [nilC] ++ t1)) = gS (setS st.g.length c st1) (g2 ++ c :: t1) := by
      unfold setS gS
      simp only [Zuz, List.singleton_append, h9]
     rw [h8]
  ·split at h
   ·rename_i hc
    have hc2 : 500 <= (gS st g2).g.length \/ x ∉ Qbl := by show 500 <= g2.length \/ x ∉ Qbl; rw [hg]; exact hc
    rw [if_pos hc2]
    exact h
   rename_i hc
   have hc2 : ¬ (500 <= (gS st g2).g.length \/ x ∉ Qbl) := by show ¬ (500 <= g2.length \/ x ∉ Qbl); rw [hg]; exact hc
   rw [if_neg hc2]
   have ho : Qb1 x (gS st g2) = gS (Qb1 x st) (g2 ++ [nilC]) := by unfold Qb1 gS; simp only [hg]
   cases hn : Qce (Qek n) x (Qb1 x st) with
   | ok p => simp only [hn] at h; cases h
   | error e1 =>
    simp only [hn] at h
    have k2 := (FrS.inner ih x).err _ e1 hn (g2 ++ [nilC]) (by show (g2 ++ [nilC]).length = (st.g ++ [nilC]).length; simp [hg])
    rw [ho, k2]
    exact h
def symD (x : UInt8) (st : PS) : B × PS :=
 if x = 59 then
  if (numM maxN st).2.e = 0 /\ (numM maxN st).1 < (numM maxN st).2.ss.length then ((numM maxN st).2.ss.getD (numM maxN st).1 [], (numM maxN st).2) else ([], Qam (numM maxN st).2 4)
 else if x = 58 then
  ((Qa7 40 st).1, if (Qa7 40 st).2.e ≠ 0 then (Qa7 40 st).2 else if (Qa7 40 st).1 ∈ (Qa7 40 st).2.ss then Qam (Qa7 40 st).2 4 else { (Qa7 40 st).2 with ss := (Qa7 40 st).2.ss ++ [(Qa7 40 st).1] })
 else ([], Qam st 4)
theorem Qt0 (x : UInt8) (st : PS) : (symD x st).2.e = (symM x st).2.e /\ ((symM x st).2.e = 0 -> symD x st = symM x st) := by
 unfold symD symM
 by_cases h59 : x = 59
 ·subst h59
  simp only [if_true, show ¬ (59 : UInt8) = 58 by decide, if_false]
  exact ⟨trivial, fun _ => trivial⟩
 by_cases h58 : x = 58
 ·subst h58
  simp only [if_true, show ¬ (58 : UInt8) = 59 by decide, if_false]
  generalize Qa7 40 st = q
  obtain ⟨t, st1⟩ := q
  by_cases he : st1.e = 0
  ·by_cases hm : t ∈ st1.ss
   ·rw [if_neg (fun h => h he), if_pos hm, if_pos ⟨he, hm⟩]
    exact ⟨rfl, fun h => absurd (show (Qam st1 4).e = 0 from h) (by rw [Qcq he 4]; decide)⟩
   ·rw [if_neg (fun h => h he), if_neg hm, if_neg (fun h => hm h.2)]
    exact ⟨rfl, fun _ => rfl⟩
  ·rw [if_pos he, if_neg (fun h => he h.1)]
   exact ⟨rfl, fun h => absurd h he⟩
 ·simp only [h58, h59, if_false]
  exact ⟨trivial, fun _ => trivial⟩
theorem Ref.symD (x : UInt8) : Ref (symS x) (symD x) :=
  ⟨fun st a st' h0 h => by
    have h1 := (Ref.sym x).ok st a st' h0 h
    rw [(Qt0 x st).2 (by rw [h1]; rfl), h1],
   fun st e h0 h => by rw [(Qt0 x st).1]; exact (Ref.sym x).err st e h0 h,
   fun st h => by rw [(Qt0 x st).1]; exact (Ref.sym x).dead st h⟩
end Go.Marshal
namespace Go.Proofs.YtgogonnnojcioaaGreatDoor
open Go.AX Go.RowKit Go.Core Go.Marshal
set_option maxRecDepth 20000
def ddE (rb : Nat) (S : List UInt8) (gv cv sv : Value) (st : PS) : List Ent :=
 [.app 109 6 [.string (bs S), .int .i64 ((S.length - st.s.length : Nat) : Int), gv, cv, sv, .int .i64 st.e] (some ⟨rb, 0, none⟩) 1 1]
theorem Qpp (rb : Nat) (S : List UInt8) (gv cv sv : Value) (st : PS) : okH (ddE rb S gv cv sv st).length (ddE rb S gv cv sv st) := Qan rfl
def Left (S : List UInt8) (st : PS) : Prop := ∃ u, S = u ++ st.s
theorem Qjk (rb : Nat) (S : List UInt8) (gv cv sv : Value) (st : PS) (e : Int) : SpecH Tryz.prog 85 [.c (.v (.pointer (some ⟨rb, 0, none⟩))), .c (.v (.int .i64 e))] (ddE rb S gv cv sv st) (RetG (ι := Unit) (fun _ => True) (fun _ => .tuple #[]) fun _ => ddE rb S gv cv sv (Qam st e)) := by
 refine ownC hm Tryz.func85 (by kernel_rfl) rfl rfl (fun _ _ => Qpp _ _ _ _ _ _) (fun _ _ => Zcz _) ?_
 refine wX ?_
 refine LdN.one (a := some ⟨rb, 0, none⟩) (q := 5) (.int .i64 st.e) rfl (fun w hw => hw.1) rfl ?_
 refine wX ?_
 refine Qa0 (fun h => ?_) (fun h => ?_)
 ·have e0 : Qam st e = { st with e := e } := by unfold Qam; rw [if_pos (by simpa using h)]
  rw [e0]
  refine wX ?_
  refine EffW.appTo (i := 0) (q := 5) (ys := [_]) [.string (bs S), .int .i64 ((S.length - st.s.length : Nat) : Int), gv, cv, sv, .int .i64 e] 6 rfl rfl rfl rfl rfl rfl rfl (Zaz rfl) rfl rfl ?_
  refine wX ?_
  exact ⟨(), trivial, rfl, Qag _⟩
 ·have e0 : Qam st e = st := by unfold Qam; rw [if_neg (by simpa using h)]
  rw [e0]
  refine wX ?_
  exact ⟨(), trivial, rfl, Qag _⟩
theorem Qx3 (rb : Nat) (S : List UInt8) (hS : S.length <= 1000000) (gv cv sv : Value) (st : PS) (hl : Left S st) : SpecH Tryz.prog 84 [.c (.v (.pointer (some ⟨rb, 0, none⟩)))] (ddE rb S gv cv sv st) (RetG (ι := Unit) (fun _ => True) (fun _ => .int .u8 ((Qad st).1.toNat : Int)) fun _ => ddE rb S gv cv sv (Qad st).2) := by
 refine ownC hm Tryz.func84 (by kernel_rfl) rfl rfl (fun _ _ => Qpp _ _ _ _ _ _) (fun _ _ => Zcz _) ?_
 have hsz := Qal S
 by_cases he : st.e = 0
 ·obtain ⟨s, g, cells, ss, e⟩ := st
  simp only at he
  subst he
  obtain ⟨u, hu⟩ := hl
  simp only at hu
  have hul : S.length = u.length + s.length := by rw [hu, Zhz]
  refine wX ?_
  refine LdN.one (a := some ⟨rb, 0, none⟩) (q := 5) (.int .i64 0) rfl (fun w hw => hw.1) rfl ?_
  refine wX ?_
  refine LdN.one (a := some ⟨rb, 0, none⟩) (q := 1) (.int .i64 ((S.length - s.length : Nat) : Int)) rfl (fun w hw => hw.1) rfl ?_
  refine wX ?_
  refine LdN.one (a := some ⟨rb, 0, none⟩) (q := 0) (.string (bs S)) rfl (fun w hw => hw.1) rfl ?_
  refine wX ?_
  refine Qab (fun h1 => ?_) (fun h1 => ?_)
  ·have hs0 : s = [] := Zez (by rw [hsz] at h1; omega)
   subst hs0
   refine wX ?_
   refine Qai (Qjk rb S gv cv sv ⟨[], g, cells, ss, 0⟩ 14) [0] rfl ⟨rfl, trivial⟩ rfl fun _ _ => ?_
   refine wX ?_
   exact ⟨(), trivial, rfl, Qag _⟩
  ·cases s with
   | nil => exact absurd (by rw [hsz, List.length_nil, Nat.sub_zero]; exact Int.le_refl _) h1
   | cons x s =>
    have hat : S.length - (x :: s).length = u.length := by omega
    have hat2 : S.length - s.length = u.length + 1 := by rw [Znz] at hul; omega
    have hby : Qcx (bs S) u.length = (x.toNat : Int) := by rw [hu]; simp [Qcx, bs]
    rw [hat]
    refine wX ?_
    refine LdN.one (a := some ⟨rb, 0, none⟩) (q := 1) (.int .i64 ((S.length - (x :: s).length : Nat) : Int)) rfl (fun w hw => hw.1) rfl ?_
    rw [hat]
    refine wX ?_
    refine EffW.appTo (i := 0) (q := 1) (ys := [_]) [.string (bs S), .int .i64 ((S.length - s.length : Nat) : Int), gv, cv, sv, .int .i64 0] 6 rfl rfl rfl rfl rfl rfl rfl (Zaz rfl) ?_ rfl ?_
    ·rw [hat2, Qaf (by omega)]
     rfl
    refine wX ?_
    refine LdN.one (a := some ⟨rb, 0, none⟩) (q := 0) (.string (bs S)) rfl (fun w hw => hw.1) rfl ?_
    refine wX ?_
    refine LdN.one (a := some ⟨rb, 0, none⟩) (q := 1) (.int .i64 ((S.length - s.length : Nat) : Int)) rfl (fun w hw => hw.1) rfl ?_
    refine wX ?_
    have hix : IntKind.i64.wrap (((S.length - s.length : Nat) : Int) - 1) = (u.length : Int) := by rw [hat2, Qaf (by omega)]; omega
    rw [hix]
    refine Nd.mk ⟨by omega, by rw [hsz, hul]; simp; omega⟩ ?_
    refine wX ?_
    rw [Zdz, hby]
    exact ⟨(), trivial, rfl, Qag _⟩
 ·have e0 : Qad st = (0, st) := by unfold Qad; rw [if_pos he]
  rw [e0]
  refine wX ?_
  refine LdN.one (a := some ⟨rb, 0, none⟩) (q := 5) (.int .i64 st.e) rfl (fun w hw => hw.1) rfl ?_
  refine wX ?_
  refine Qbb (fun _ => ?_) (fun h => absurd h he)
  refine wX ?_
  exact ⟨(), trivial, rfl, Qag _⟩
structure RdP where
 m : List Qaj
 ga : Option Addr
 gc : Nat
 ca : Option Addr
 cc : Nat
 sa : Option Addr
 sc : Nat
def rdC (st : PS) (p : RdP) : List Value := [.string (bs st.s), .slice p.ga p.m.length p.gc, .slice p.ca st.cells.length p.cc, .slice p.sa st.ss.length p.sc, .int .i64 st.e]
def rdE (rb : Nat) (st : PS) (p : RdP) : List Ent :=
 [.app 84 5 (rdC st p) (some ⟨rb, 0, none⟩) 1 1, .app 57 5 (grC p.m) p.ga p.m.length p.gc, .fact (fun w => ∀ q ∈ p.m, Qbn q w), .app 3 1 (iC st.cells) p.ca st.cells.length p.cc, .app 9 1 (strC st.ss) p.sa st.ss.length p.sc]
theorem Qks (rb : Nat) (st : PS) (p : RdP) : okH (rdE rb st p).length (rdE rb st p) := Qan rfl
theorem Qdn (rb : Nat) (st : PS) (p : RdP) (e : Int) : SpecH Tryz.prog 63 [.c (.v (.pointer (some ⟨rb, 0, none⟩))), .c (.v (.int .i64 e))] (rdE rb st p) (RetG (ι := Unit) (fun _ => True) (fun _ => .tuple #[]) fun _ => rdE rb (Qam st e) p) := by
 refine ownC hm Tryz.func63 (by kernel_rfl) rfl rfl (fun _ _ => Qks _ _ _) (fun _ _ => Zcz _) ?_
 refine wX ?_
 refine LdN.one (a := some ⟨rb, 0, none⟩) (q := 4) (.int .i64 st.e) rfl (fun w hw => hw.1) rfl ?_
 refine wX ?_
 refine Qa0 (fun h => ?_) (fun h => ?_)
 ·have e0 : Qam st e = { st with e := e } := by unfold Qam; rw [if_pos (by simpa using h)]
  rw [e0]
  refine wX ?_
  refine EffW.appTo (i := 0) (q := 4) (ys := [_]) (rdC ({ st with e := e }) p) 5 rfl rfl rfl rfl rfl rfl rfl (Zaz rfl) rfl rfl ?_
  refine wX ?_
  exact ⟨(), trivial, rfl, Qag _⟩
 ·have e0 : Qam st e = st := by unfold Qam; rw [if_neg (by simpa using h)]
  rw [e0]
  refine wX ?_
  exact ⟨(), trivial, rfl, Qag _⟩
theorem Qza (rb : Nat) (st : PS) (p : RdP) (h : st.e ≠ 0) (e : Int) : Qam st e = st := by unfold Qam; rw [if_neg h]
theorem Qjh (rb : Nat) (st : PS) (p : RdP) : SpecH Tryz.prog 62 [.c (.v (.pointer (some ⟨rb, 0, none⟩)))] (rdE rb st p) (RetG (ι := Unit) (fun _ => True) (fun _ => .int .u8 ((Qad st).1.toNat : Int)) fun _ => rdE rb (Qad st).2 p) := by
 refine ownC hm Tryz.func62 (by kernel_rfl) rfl rfl (fun _ _ => Qks _ _ _) (fun _ _ => Zcz _) ?_
 by_cases he : st.e = 0
 ·obtain ⟨s, g, cells, ss, e⟩ := st
  simp only at he
  subst he
  refine wX ?_
  refine LdN.one (a := some ⟨rb, 0, none⟩) (q := 4) (.int .i64 0) rfl (fun w hw => hw.1) rfl ?_
  refine wX ?_
  refine LdN.one (a := some ⟨rb, 0, none⟩) (q := 0) (.string (bs s)) rfl (fun w hw => hw.1) rfl ?_
  cases s with
  | nil =>
   refine wX ?_
   refine Qai (Qdn rb ⟨[], g, cells, ss, 0⟩ p 14) [0, 1, 2, 3, 4] rfl ⟨rfl, rfl, rfl, rfl, rfl, trivial⟩ rfl fun _ _ => ?_
   refine wX ?_
   exact ⟨(), trivial, rfl, Qag _⟩
  | cons x s =>
   refine wX ?_
   refine LdN.one (a := some ⟨rb, 0, none⟩) (q := 0) (.string (bs (x :: s))) rfl (fun w hw => hw.1) rfl ?_
   refine wX ?_
   have hz : 0 < (bs (x :: s)).size := by rw [Qal]; exact Nat.succ_pos _
   refine Nd.mk ⟨Int.le_refl _, by omega⟩ ?_
   refine wX ?_
   refine LdN.one (a := some ⟨rb, 0, none⟩) (q := 0) (.string (bs (x :: s))) rfl (fun w hw => hw.1) rfl ?_
   refine wX ?_
   refine ReadW.str_l rfl (by kernel_rfl) rfl rfl ⟨by decide, by omega⟩ ?_
   have e1 : (bs (x :: s)).extract (Int.toNat 1) (bs (x :: s)).size = bs s := by rw [Qal]; exact Qnz (x :: s) 1
   have e2 : Qcx (bs (x :: s)) (Int.toNat 0) = (x.toNat : Int) := rfl
   rw [e1, e2]
   refine wX ?_
   refine EffW.appTo (i := 0) (q := 0) (ys := [_]) (rdC (⟨s, g, cells, ss, 0⟩) p) 5 rfl rfl rfl rfl rfl rfl rfl (Zaz rfl) rfl rfl ?_
   refine wX ?_
   exact ⟨(), trivial, rfl, Qag _⟩
 ·have e0 : Qad st = (0, st) := by unfold Qad; rw [if_pos he]
  rw [e0]
  refine wX ?_
  refine LdN.one (a := some ⟨rb, 0, none⟩) (q := 4) (.int .i64 st.e) rfl (fun w hw => hw.1) rfl ?_
  refine wX ?_
  rw [show (st.e != 0) = true by simpa using he]
  refine wX ?_
  refine Qai (Qdn rb st p 14) [0, 1, 2, 3, 4] rfl ⟨rfl, rfl, rfl, rfl, rfl, trivial⟩ rfl fun _ _ => ?_
  rw [Qza rb st p he]
  refine wX ?_
  exact ⟨(), trivial, rfl, Qag _⟩
theorem Qrq (most i n : Nat) (x : UInt8) (s : List UInt8) : rdF most i n (x :: s) = if i = 0 /\ x = 128 \/ 9 <= i then .error 4 else if x.toNat < 128 then (if n * 128 + x.toNat % 128 <= most then .ok (n * 128 + x.toNat % 128, s) else .error 4) else rdF most (i + 1) (n * 128 + x.toNat % 128) s := by
 conv => lhs; unfold rdF
theorem Qro (i : Nat) (x : UInt8) (s : List UInt8) : rdQ i (x :: s) = if i = 0 /\ x = 128 \/ 9 <= i then s else if x.toNat < 128 then s else rdQ (i + 1) s := by
 conv => lhs; unfold rdQ
theorem Qye (x : UInt8) : IntKind.u8.wrap ((BitVec.ofInt IntKind.u8.bits (x.toNat : Int) &&& BitVec.ofInt IntKind.u8.bits 127).toNat : Int) = ((x.toNat % 128 : Nat) : Int) := by
 show IntKind.u8.wrap ((BitVec.ofInt 8 (x.toNat : Int) &&& BitVec.ofInt 8 127).toNat : Int) = _
 have hx := x.toNat_lt
 rw [BitVec.toNat_and, BitVec.toNat_ofInt, BitVec.toNat_ofInt]
 have e1 : ((x.toNat : Int) % ((2 ^ 8 : Nat) : Int)).toNat = x.toNat := by omega
 have e2 : ((127 : Int) % ((2 ^ 8 : Nat) : Int)).toNat = 2 ^ 7 - 1 := by decide
 rw [e1, e2, Nat.and_two_pow_sub_one_eq_mod]
 rw [Qkb (by omega)]
theorem Qzz (n c : Nat) (hn : n < 72057594037927936) (hc : c < 128) : IntKind.i64.wrap ((BitVec.ofInt IntKind.i64.bits (IntKind.i64.wrap ((n : Int) * 2 ^ min (Int.toNat 7) IntKind.i64.bits)) ||| BitVec.ofInt IntKind.i64.bits (IntKind.i64.wrap (c : Int))).toNat : Int) = ((n * 128 + c : Nat) : Int) := by
 rw [show (2 : Int) ^ min (Int.toNat 7) IntKind.i64.bits = 128 from rfl, Qaf (x := (n : Int) * 128) (by omega), Qaf (x := (c : Int)) (by omega)]
 show IntKind.i64.wrap ((BitVec.ofInt 64 ((n : Int) * 128) ||| BitVec.ofInt 64 (c : Int)).toNat : Int) = _
 rw [BitVec.toNat_or, BitVec.toNat_ofInt, BitVec.toNat_ofInt]
 have e1 : (((n : Int) * 128) % ((2 ^ 64 : Nat) : Int)).toNat = n * 128 := by omega
 have e2 : ((c : Int) % ((2 ^ 64 : Nat) : Int)).toNat = c := by omega
 rw [e1, e2]
 have := Nat.shiftLeft_add_eq_or_of_lt (b := c) (i := 7) (by omega) n
 rw [Nat.shiftLeft_eq] at this
 rw [show n * 128 = n * 2 ^ 7 from rfl, <- this, Qaf (by omega)]
theorem Qu1 (rb : Nat) (x : UInt8) (s : List UInt8) (g : List Cell) (cells : List Int) (ss : List (List UInt8)) (p : RdP) : SpecH Tryz.prog 62 [.c (.v (.pointer (some ⟨rb, 0, none⟩)))] (rdE rb ⟨x :: s, g, cells, ss, 0⟩ p) (RetG (ι := Unit) (fun _ => True) (fun _ => .int .u8 (x.toNat : Int)) fun _ => rdE rb ⟨s, g, cells, ss, 0⟩ p) :=
 Qjh rb ⟨x :: s, g, cells, ss, 0⟩ p
theorem Qf0 (rb : Nat) (st : PS) (p : RdP) (most : Nat) (hm2 : most <= 2000000000000000) : SpecH Tryz.prog 87 [.c (.v (.pointer (some ⟨rb, 0, none⟩))), .c (.v (.int .i64 (most : Int)))] (rdE rb st p) (RetG (ι := Unit) (fun _ => True) (fun _ => .int .i64 ((numM most st).1 : Int)) fun _ => rdE rb (numM most st).2 p) := by
  refine ownC hm Tryz.func87 (by kernel_rfl) rfl rfl (fun _ _ => Qks _ _ _) (fun _ _ => Zcz _) ?_
  by_cases he : st.e = 0
  · obtain ⟨s0, g, cells, ss, e⟩ := st
    simp only at he
    subst he
    refine wX ?_
    refine LoopN.intro (Nat × Nat × List UInt8) (fun ⟨i, n, s⟩ => rdF most i n s = rdF most 0 0 s0 /\ rdQ i s = rdQ 0 s0 /\ i <= 9 /\ n < 128 ^ i)
      (fun ⟨i, n, _⟩ => mkS Tryz.f87.ntmps 0 [(0, .c (.v (.pointer (some ⟨rb, 0, none⟩)))), (1, .c (.v (.int .i64 (most : Int)))), (4, .c (.v (.int .i64 0))), (5, .c (.v (.int .i64 (n : Int)))), (6, .c (.v (.int .i64 (i : Int))))])
      (fun ⟨_, _, s⟩ => rdE rb ⟨s, g, cells, ss, 0⟩ p) (fun ⟨_, _, s⟩ => s.length) [] rfl
      (fun _ => rfl) (fun _ => rfl) (fun _ _ => Qks _ _ _) ⟨(0, 0, s0), ⟨rfl, rfl, by omega, by omega⟩, ?_, Qag _⟩ ?_
    · exact wKK
    rintro ⟨i, n, s⟩ ⟨h1, h2, h3, h4⟩
    have hn : n < 9223372036854775808 := Nat.lt_of_lt_of_le h4 (Zwz (Nat.pow_le_pow_right (by decide) h3) (by decide))
    cases s with
    | nil =>
      refine wX ?_
      refine Qai (Qjh rb ⟨[], g, cells, ss, 0⟩ p) [0, 1, 2, 3, 4] rfl ⟨rfl, rfl, rfl, rfl, rfl, trivial⟩ rfl fun _ _ => ?_
      have e0 : numM most ⟨s0, g, cells, ss, 0⟩ = (0, ⟨[], g, cells, ss, 14⟩) := by
        unfold numM rd
        rw [if_neg (by show ¬ (0 : Int) ≠ 0; decide)]
        simp only
        rw [<- h1, <- h2]
        rfl
      rw [e0]
      refine wX ?_
      refine LdN.one (a := some ⟨rb, 0, none⟩) (q := 4) (.int .i64 14) rfl (fun w hw => hw.1) rfl ?_
      refine wX ?_
      exact ⟨(), trivial, rfl, Qag _⟩
    | cons x s =>
      have hx128 : ((x.toNat : Int) == 128) = decide (x = 128) := by
        by_cases h : x = 128
        · subst h; rfl
        · rw [decide_eq_false h, beq_eq_false_iff_ne]
          intro h5
          exact h (UInt8.toNat_inj.1 (by have : x.toNat = 128 := by omega
                                         rw [this]; rfl))
      have bad : (i = 0 /\ x = 128 \/ 9 <= i) -> numM most ⟨s0, g, cells, ss, 0⟩ = (0, ⟨s, g, cells, ss, 4⟩) := by
        intro hb
        unfold numM rd
        rw [if_neg (by show ¬ (0 : Int) ≠ 0; decide)]
        simp only
        rw [<- h1, <- h2]
        unfold rdF rdQ
        rw [if_pos hb, if_pos hb]
      refine wX ?_
      refine Qai (Qu1 rb x s g cells ss p) [0, 1, 2, 3, 4] rfl ⟨rfl, rfl, rfl, rfl, rfl, trivial⟩ rfl fun _ _ => ?_
      refine wX ?_
      refine LdN.one (a := some ⟨rb, 0, none⟩) (q := 4) (.int .i64 0) rfl (fun w hw => hw.1) rfl ?_
      refine wX ?_
      by_cases hb : i = 0 /\ x = 128 \/ 9 <= i
      · rw [bad hb]
        rcases hb with ⟨rfl, rfl⟩ | hb
        · refine wX ?_
          refine Qai (Qdn rb ⟨s, g, cells, ss, 0⟩ p 4) [0, 1, 2, 3, 4] rfl ⟨rfl, rfl, rfl, rfl, rfl, trivial⟩ rfl fun _ _ => ?_
          refine wX ?_
          exact ⟨(), trivial, rfl, Qag _⟩
        · obtain rfl : i = 9 := by omega
          refine wX ?_
          refine Qai (Qdn rb ⟨s, g, cells, ss, 0⟩ p 4) [0, 1, 2, 3, 4] rfl ⟨rfl, rfl, rfl, rfl, rfl, trivial⟩ rfl fun _ _ => ?_
          refine wX ?_
          exact ⟨(), trivial, rfl, Qag _⟩
      · have f1 := h1
        have f2 := h2
        rw [Qrq, if_neg hb] at f1
        rw [Qro, if_neg hb] at f2
        have hi8 : i <= 8 := by omega
        have hn56 : n < 72057594037927936 := Nat.lt_of_lt_of_le h4 (Zwz (Nat.pow_le_pow_right (by decide) hi8) (by decide))
        by_cases hi : i = 0
        · subst hi
          have hx : x ≠ 128 := fun h => hb (.inl ⟨rfl, h⟩)
          refine wX ?_
          rw [hx128, decide_eq_false hx]
          refine wX ?_
          rw [Qye, Qzz n (x.toNat % 128) hn56 (Nat.mod_lt _ (by decide))]
          refine Qab (fun h5 => ?_) (fun h5 => ?_)
          · have h6 : x.toNat < 128 := by omega
            rw [if_pos h6] at f1 f2
            refine wX ?_
            refine Qab (fun h7 => ?_) (fun h7 => ?_)
            · have e0 : numM most ⟨s0, g, cells, ss, 0⟩ = (0, ⟨s, g, cells, ss, 4⟩) := by
                unfold numM rd
                rw [if_neg (by show ¬ (0 : Int) ≠ 0; decide)]
                simp only
                rw [<- f1, <- f2, if_neg (by omega)]
              rw [e0]
              refine wX ?_
              refine Qai (Qdn rb ⟨s, g, cells, ss, 0⟩ p 4) [0, 1, 2, 3, 4] rfl ⟨rfl, rfl, rfl, rfl, rfl, trivial⟩ rfl fun _ _ => ?_
              refine wX ?_
              exact ⟨(), trivial, rfl, Qag _⟩
            · have e0 : numM most ⟨s0, g, cells, ss, 0⟩ = (n * 128 + x.toNat % 128, ⟨s, g, cells, ss, 0⟩) := by
                unfold numM rd
                rw [if_neg (by show ¬ (0 : Int) ≠ 0; decide)]
                simp only
                rw [<- f1, <- f2, if_pos (by omega)]
              rw [e0]
              refine wX ?_
              exact ⟨(), trivial, rfl, Qag _⟩
          · have h6 : ¬ x.toNat < 128 := by omega
            rw [if_neg h6] at f1 f2
            refine wX ?_
            refine ⟨(0 + 1, n * 128 + x.toNat % 128, s), ⟨f1, f2, by omega, by have h9 : n + 1 <= 128 ^ 0 := h4; rw [Nat.pow_succ]; have := Nat.mul_le_mul_right 128 h9; omega⟩, by show s.length < s.length + 1; omega, ?_, wHH⟩
            exact wKK
        · refine wX ?_
          rw [show ((i : Int) == 0) = false by rw [beq_eq_false_iff_ne]; omega]
          refine wX ?_
          rw [show ((i : Int) == 9) = false by rw [beq_eq_false_iff_ne]; omega]
          refine wX ?_
          rw [Qye, Qzz n (x.toNat % 128) hn56 (Nat.mod_lt _ (by decide))]
          refine Qab (fun h5 => ?_) (fun h5 => ?_)
          · have h6 : x.toNat < 128 := by omega
            rw [if_pos h6] at f1 f2
            refine wX ?_
            refine Qab (fun h7 => ?_) (fun h7 => ?_)
            · have e0 : numM most ⟨s0, g, cells, ss, 0⟩ = (0, ⟨s, g, cells, ss, 4⟩) := by
                unfold numM rd
                rw [if_neg (by show ¬ (0 : Int) ≠ 0; decide)]
                simp only
                rw [<- f1, <- f2, if_neg (by omega)]
              rw [e0]
              refine wX ?_
              refine Qai (Qdn rb ⟨s, g, cells, ss, 0⟩ p 4) [0, 1, 2, 3, 4] rfl ⟨rfl, rfl, rfl, rfl, rfl, trivial⟩ rfl fun _ _ => ?_
              refine wX ?_
              exact ⟨(), trivial, rfl, Qag _⟩
            · have e0 : numM most ⟨s0, g, cells, ss, 0⟩ = (n * 128 + x.toNat % 128, ⟨s, g, cells, ss, 0⟩) := by
                unfold numM rd
                rw [if_neg (by show ¬ (0 : Int) ≠ 0; decide)]
                simp only
                rw [<- f1, <- f2, if_pos (by omega)]
              rw [e0]
              refine wX ?_
              exact ⟨(), trivial, rfl, Qag _⟩
          · have h6 : ¬ x.toNat < 128 := by omega
            rw [if_neg h6] at f1 f2
            refine wX ?_
            refine ⟨(i + 1, n * 128 + x.toNat % 128, s), ⟨f1, f2, by omega, by have h9 : n + 1 <= 128 ^ i := h4; rw [Nat.pow_succ]; have := Nat.mul_le_mul_right 128 h9; omega⟩, by show s.length < s.length + 1; omega, ?_, wHH⟩
            exact wKK
  · rw [Qeu he]
    refine wX ?_
    refine LoopN.unroll 1 ?_
    refine wX ?_
    refine Qai (Qjh rb st p) [0, 1, 2, 3, 4] rfl ⟨rfl, rfl, rfl, rfl, rfl, trivial⟩ rfl fun _ _ => ?_
    rw [Qfj he]
    refine wX ?_
    refine LdN.one (a := some ⟨rb, 0, none⟩) (q := 4) (.int .i64 st.e) rfl (fun w hw => hw.1) rfl ?_
    refine wX ?_
    refine Qbb (fun _ => ?_) (fun h => absurd h he)
    refine wX ?_
    exact ⟨(), trivial, rfl, Qag _⟩
theorem Qt4 (n c : Nat) (hn : n < 72057594037927936) : IntKind.i64.wrap (IntKind.i64.wrap ((n : Int) * 128) + IntKind.i64.wrap (((c : Nat) : Int).tmod 128)) = ((n * 128 + c % 128 : Nat) : Int) := by
 rw [Int.tmod_eq_emod_of_nonneg (by omega), Qaf (x := (n : Int) * 128) (by omega), Qaf (x := (c : Int) % 128) (by omega), Qaf (by omega)]
 omega
theorem Qo1 (rb : Nat) (S : List UInt8) (hS : S.length <= 1000000) (gv cv sv : Value) (st : PS) (hl : Left S st) (most : Nat) : SpecH Tryz.prog 98 [.c (.v (.pointer (some ⟨rb, 0, none⟩))), .c (.v (.int .i64 (most : Int)))] (ddE rb S gv cv sv st) (RetG (ι := Unit) (fun _ => True) (fun _ => .int .i64 ((numM most st).1 : Int)) fun _ => ddE rb S gv cv sv (numM most st).2) := by
  refine ownC hm Tryz.func98 (by kernel_rfl) rfl rfl (fun _ _ => Qpp _ _ _ _ _ _) (fun _ _ => Zcz _) ?_
  by_cases he : st.e = 0
  · obtain ⟨s0, g, cells, ss, e⟩ := st
    simp only at he
    subst he
    refine wX ?_
    refine LoopN.intro (Nat × Nat × List UInt8) (fun ⟨i, n, s⟩ => rdF most i n s = rdF most 0 0 s0 /\ rdQ i s = rdQ 0 s0 /\ i <= 9 /\ n < 128 ^ i /\ ∃ u, S = u ++ s)
      (fun ⟨i, n, _⟩ => mkS Tryz.f98.ntmps 0 [(0, .c (.v (.pointer (some ⟨rb, 0, none⟩)))), (1, .c (.v (.int .i64 (most : Int)))), (4, .c (.v (.int .i64 0))), (5, .c (.v (.int .i64 (n : Int)))), (6, .c (.v (.int .i64 (i : Int))))])
      (fun ⟨_, _, s⟩ => ddE rb S gv cv sv ⟨s, g, cells, ss, 0⟩) (fun ⟨_, _, s⟩ => s.length) [] rfl
      (fun _ => rfl) (fun _ => rfl) (fun _ _ => Qpp _ _ _ _ _ _) ⟨(0, 0, s0), ⟨rfl, rfl, by omega, by omega, hl⟩, ?_, Qag _⟩ ?_
    · exact wKK
    rintro ⟨i, n, s⟩ ⟨h1, h2, h3, h4, hu⟩
    have hnx := Qx3 rb S hS gv cv sv ⟨s, g, cells, ss, 0⟩ hu
    cases s with
    | nil =>
      have e0 : numM most ⟨s0, g, cells, ss, 0⟩ = (0, ⟨[], g, cells, ss, 14⟩) := by
        unfold numM rd
        rw [if_neg (by show ¬ (0 : Int) ≠ 0; decide)]
        simp only
        rw [<- h1, <- h2]
        rfl
      rw [e0]
      refine wX ?_
      refine LdN.one (a := some ⟨rb, 0, none⟩) (q := 5) (.int .i64 0) rfl (fun w hw => hw.1) rfl ?_
      refine wX ?_
      refine Qai hnx [0] rfl ⟨rfl, trivial⟩ rfl fun _ _ => ?_
      refine wX ?_
      refine LdN.one (a := some ⟨rb, 0, none⟩) (q := 5) (.int .i64 14) rfl (fun w hw => hw.1) rfl ?_
      refine wX ?_
      exact ⟨(), trivial, rfl, Qag _⟩
    | cons x s =>
      have hx128 : ((x.toNat : Int) == 128) = decide (x = 128) := by
        by_cases h : x = 128
        · subst h; rfl
        · rw [decide_eq_false h, beq_eq_false_iff_ne]
          intro h5
          exact h (UInt8.toNat_inj.1 (by have : x.toNat = 128 := by omega
                                         rw [this]; rfl))
      have bad : (i = 0 /\ x = 128 \/ 9 <= i) -> numM most ⟨s0, g, cells, ss, 0⟩ = (0, ⟨s, g, cells, ss, 4⟩) := by
        intro hb
        unfold numM rd
        rw [if_neg (by show ¬ (0 : Int) ≠ 0; decide)]
        simp only
        rw [<- h1, <- h2]
        unfold rdF rdQ
        rw [if_pos hb, if_pos hb]
      obtain ⟨u, hu⟩ := hu
      have hu2 : ∃ u, S = u ++ s := ⟨u ++ [x], by rw [hu]; simp⟩
      have hnx2 : SpecH Tryz.prog 84 [.c (.v (.pointer (some ⟨rb, 0, none⟩)))] (ddE rb S gv cv sv ⟨x :: s, g, cells, ss, 0⟩) (RetG (ι := Unit) (fun _ => True) (fun _ => .int .u8 (x.toNat : Int)) fun _ => ddE rb S gv cv sv ⟨s, g, cells, ss, 0⟩) := hnx
      refine wX ?_
      refine LdN.one (a := some ⟨rb, 0, none⟩) (q := 5) (.int .i64 0) rfl (fun w hw => hw.1) rfl ?_
      refine wX ?_
      refine Qai hnx2 [0] rfl ⟨rfl, trivial⟩ rfl fun _ _ => ?_
      refine wX ?_
      refine LdN.one (a := some ⟨rb, 0, none⟩) (q := 5) (.int .i64 0) rfl (fun w hw => hw.1) rfl ?_
      refine wX ?_
      by_cases hb : i = 0 /\ x = 128 \/ 9 <= i
      · rw [bad hb]
        rcases hb with ⟨rfl, rfl⟩ | hb
        · refine wX ?_
          refine Qai (Qjk rb S gv cv sv ⟨s, g, cells, ss, 0⟩ 4) [0] rfl ⟨rfl, trivial⟩ rfl fun _ _ => ?_
          refine wX ?_
          exact ⟨(), trivial, rfl, Qag _⟩
        · obtain rfl : i = 9 := by omega
          refine wX ?_
          refine Qai (Qjk rb S gv cv sv ⟨s, g, cells, ss, 0⟩ 4) [0] rfl ⟨rfl, trivial⟩ rfl fun _ _ => ?_
          refine wX ?_
          exact ⟨(), trivial, rfl, Qag _⟩
      · have f1 := h1
        have f2 := h2
        rw [Qrq, if_neg hb] at f1
        rw [Qro, if_neg hb] at f2
        have hi8 : i <= 8 := by omega
        have hn56 : n < 72057594037927936 := Nat.lt_of_lt_of_le h4 (Zwz (Nat.pow_le_pow_right (by decide) hi8) (by decide))
        by_cases hi : i = 0
        · subst hi
          have hx : x ≠ 128 := fun h => hb (.inl ⟨rfl, h⟩)
          refine wX ?_
          rw [hx128, decide_eq_false hx]
          refine wX ?_
          rw [Qt4 n x.toNat hn56]
          refine Qab (fun h5 => ?_) (fun h5 => ?_)
          · have h6 : x.toNat < 128 := by omega
            rw [if_pos h6] at f1 f2
            refine wX ?_
            refine Qab (fun h7 => ?_) (fun h7 => ?_)
            · have e0 : numM most ⟨s0, g, cells, ss, 0⟩ = (0, ⟨s, g, cells, ss, 4⟩) := by
                unfold numM rd
                rw [if_neg (by show ¬ (0 : Int) ≠ 0; decide)]
                simp only
                rw [<- f1, <- f2, if_neg (by omega)]
              rw [e0]
              refine wX ?_
              refine Qai (Qjk rb S gv cv sv ⟨s, g, cells, ss, 0⟩ 4) [0] rfl ⟨rfl, trivial⟩ rfl fun _ _ => ?_
              refine wX ?_
              exact ⟨(), trivial, rfl, Qag _⟩
            · have e0 : numM most ⟨s0, g, cells, ss, 0⟩ = (n * 128 + x.toNat % 128, ⟨s, g, cells, ss, 0⟩) := by
                unfold numM rd
                rw [if_neg (by show ¬ (0 : Int) ≠ 0; decide)]
                simp only
                rw [<- f1, <- f2, if_pos (by omega)]
              rw [e0]
              refine wX ?_
              exact ⟨(), trivial, rfl, Qag _⟩
          · have h6 : ¬ x.toNat < 128 := by omega
            rw [if_neg h6] at f1 f2
            refine wX ?_
            refine ⟨(0 + 1, n * 128 + x.toNat % 128, s), ⟨f1, f2, by omega, by have h9 : n + 1 <= 128 ^ 0 := h4; rw [Nat.pow_succ]; have := Nat.mul_le_mul_right 128 h9; omega, hu2⟩, by show s.length < s.length + 1; omega, ?_, wHH⟩
            exact wKK
        · refine wX ?_
          rw [show ((i : Int) == 0) = false by rw [beq_eq_false_iff_ne]; omega]
          refine wX ?_
          rw [show decide ((i : Int) ≥ 9) = false by rw [decide_eq_false_iff_not]; omega]
          refine wX ?_
          rw [Qt4 n x.toNat hn56]
          refine Qab (fun h5 => ?_) (fun h5 => ?_)
          · have h6 : x.toNat < 128 := by omega
            rw [if_pos h6] at f1 f2
            refine wX ?_
            refine Qab (fun h7 => ?_) (fun h7 => ?_)
            · have e0 : numM most ⟨s0, g, cells, ss, 0⟩ = (0, ⟨s, g, cells, ss, 4⟩) := by
                unfold numM rd
                rw [if_neg (by show ¬ (0 : Int) ≠ 0; decide)]
                simp only
                rw [<- f1, <- f2, if_neg (by omega)]
              rw [e0]
              refine wX ?_
              refine Qai (Qjk rb S gv cv sv ⟨s, g, cells, ss, 0⟩ 4) [0] rfl ⟨rfl, trivial⟩ rfl fun _ _ => ?_
              refine wX ?_
              exact ⟨(), trivial, rfl, Qag _⟩
            · have e0 : numM most ⟨s0, g, cells, ss, 0⟩ = (n * 128 + x.toNat % 128, ⟨s, g, cells, ss, 0⟩) := by
                unfold numM rd
                rw [if_neg (by show ¬ (0 : Int) ≠ 0; decide)]
                simp only
                rw [<- f1, <- f2, if_pos (by omega)]
              rw [e0]
              refine wX ?_
              exact ⟨(), trivial, rfl, Qag _⟩
          · have h6 : ¬ x.toNat < 128 := by omega
            rw [if_neg h6] at f1 f2
            refine wX ?_
            refine ⟨(i + 1, n * 128 + x.toNat % 128, s), ⟨f1, f2, by omega, by have h9 : n + 1 <= 128 ^ i := h4; rw [Nat.pow_succ]; have := Nat.mul_le_mul_right 128 h9; omega, hu2⟩, by show s.length < s.length + 1; omega, ?_, wHH⟩
            exact wKK
  · rw [Qeu he]
    refine wX ?_
    refine LoopN.unroll 1 ?_
    refine wX ?_
    refine LdN.one (a := some ⟨rb, 0, none⟩) (q := 5) (.int .i64 st.e) rfl (fun w hw => hw.1) rfl ?_
    refine wX ?_
    refine Qa0 (fun h => absurd h he) (fun _ => ?_)
    refine wX ?_
    exact ⟨(), trivial, rfl, Qag _⟩
theorem Qtw (rb : Nat) (st : PS) (p : RdP) (most : Nat) : SpecH Tryz.prog 104 [.c (.v (.pointer (some ⟨rb, 0, none⟩))), .c (.v (.int .i64 (most : Int)))] (rdE rb st p) (RetG (ι := Unit) (fun _ => True) (fun _ => .string (bs (Qa7 most st).1)) fun _ => rdE rb (Qa7 most st).2 p) := by
 refine ownC hm Tryz.func104 (by kernel_rfl) rfl rfl (fun _ _ => Qks _ _ _) (fun _ _ => Zcz _) ?_
 have hnum := Qf0 rb st p maxN (by decide)
 unfold Qa7
 generalize numM maxN st = q at hnum ⊢
 obtain ⟨n, st1⟩ := q
 simp only at hnum ⊢
 refine wX ?_
 refine Qai (hnum) [0, 1, 2, 3, 4] rfl ⟨rfl, rfl, rfl, rfl, rfl, trivial⟩ rfl fun _ _ => ?_
 refine wX ?_
 refine LdN.one (a := some ⟨rb, 0, none⟩) (q := 4) (.int .i64 st1.e) rfl (fun w hw => hw.1) rfl ?_
 refine wX ?_
 refine Qbb (fun h1 => ?_) (fun h1 => ?_)
 ·rw [if_pos h1]
  refine wX ?_
  exact ⟨(), trivial, rfl, Qag _⟩
 rw [if_neg (fun h => h h1)]
 have e4 : ∀ e : Int, ({ st1 with e := e } : PS) = Qam st1 e := fun e => by unfold Qam; rw [if_pos h1]
 rw [e4 4, e4 14]
 refine wX ?_
 refine Qab (fun h2 => ?_) (fun h2 => ?_)
 ·rw [if_pos (by omega)]
  refine wX ?_
  refine Qai (Qdn rb st1 p 4) [0, 1, 2, 3, 4] rfl ⟨rfl, rfl, rfl, rfl, rfl, trivial⟩ rfl fun _ _ => ?_
  refine wX ?_
  exact ⟨(), trivial, rfl, Qag _⟩
 rw [if_neg (by omega)]
 refine wX ?_
 refine LdN.one (a := some ⟨rb, 0, none⟩) (q := 0) (.string (bs st1.s)) rfl (fun w hw => hw.1) rfl ?_
 refine wX ?_
 have hsz := Qal st1.s
 refine Qab (fun h3 => ?_) (fun h3 => ?_)
 ·rw [if_pos (by omega)]
  refine wX ?_
  refine Qai (Qdn rb st1 p 14) [0, 1, 2, 3, 4] rfl ⟨rfl, rfl, rfl, rfl, rfl, trivial⟩ rfl fun _ _ => ?_
  refine wX ?_
  exact ⟨(), trivial, rfl, Qag _⟩
 rw [if_neg (by omega)]
 refine wX ?_
 refine LdN.one (a := some ⟨rb, 0, none⟩) (q := 0) (.string (bs st1.s)) rfl (fun w hw => hw.1) rfl ?_
 refine wX ?_
 refine ReadW.str_h rfl (by kernel_rfl) rfl rfl ⟨by omega, by omega⟩ ?_
 rw [Qzi, Zdz]
 refine wX ?_
 refine LdN.one (a := some ⟨rb, 0, none⟩) (q := 0) (.string (bs st1.s)) rfl (fun w hw => hw.1) rfl ?_
 refine wX ?_
 refine ReadW.str_l rfl (by kernel_rfl) rfl rfl ⟨by omega, by omega⟩ ?_
 have e1 : (bs st1.s).extract (Int.toNat (n : Int)) (bs st1.s).size = bs (st1.s.drop n) := by rw [Qal, Zdz]; exact Qnz st1.s n
 rw [e1]
 refine wX ?_
 refine EffW.appTo (i := 0) (q := 0) (ys := [_]) (rdC ({ st1 with s := st1.s.drop n }) p) 5 rfl rfl rfl rfl rfl rfl rfl (Zaz rfl) rfl rfl ?_
 refine wX ?_
 exact ⟨(), trivial, rfl, Qag _⟩
theorem Qxk (a : Option Addr) (l : List (List UInt8)) (cap : Nat) (s : List UInt8) (ha : a = none -> l = []) (hl : l.length <= 1000000) :
  ∀ H, (∀ w, Qax H w -> SlAt a (l.length * 1) (strC l) w) -> SpecH Tryz.prog 151 (pvs [.slice a l.length cap, .string (bs s)]) H (RetR (fun v => ∃ n : Int, v = .int .i64 n /\ (0 <= n ↔ s ∈ l)) H) := by
 refine QBp hm Tryz.func151 (by kernel_rfl) rfl rfl ?_
 refine wX ?_
 refine Qdu Nat (fun i => i <= l.length /\ s ∉ l.take i) (fun i => mkS Tryz.f151.ntmps 0 [(0, .c (.v (.slice a l.length cap))), (1, .c (.v (.string (bs s)))), (7, .c (.v (.int .i64 (l.length : Int)))), (8, .c (.v (.int .i64 (i : Int))))]) (fun i => l.length - i) rfl (fun _ => rfl) 0 ⟨Zkz _, by simp⟩ ?_ ?_
 ·exact wKK
 intro i ⟨hi, hno⟩
 refine wX ?_
 refine Qab (fun h1 => ?_) (fun h1 => ?_)
 ·obtain ⟨t, ht⟩ : ∃ t, l[i]? = some t := ⟨_, Zbz (by omega)⟩
  have hsa : a.isSome = true := by
   cases a with
   | none => rw [ha rfl] at ht; cases ht
   | some b => rfl
  refine wX ?_
  refine Nd.mk ⟨hsa, by omega, by omega⟩ ?_
  refine wX ?_
  refine LdN.one (.string (bs t)) rfl (fun w hw => hw.1) (by show (strC l)[Int.toNat _ * 1]? = _; rw [Zdz, Nat.mul_one]; exact Qcz ht) ?_
  refine wX ?_
  refine Qgv (fun h2 => ?_) (fun h2 => ?_)
  ·have h3 : s = t := eq_of_beq (show (s == t) = true from h2)
   refine wX ?_
   refine ⟨_, rfl, (i : Int), rfl, ⟨fun _ => ?_, fun _ => by omega⟩⟩
   rw [h3]
   exact Ziz ht
  ·have h3 : (s == t) = false := h2
   refine wX ?_
   refine ⟨i + 1, ⟨by omega, ?_⟩, by omega, ?_, wHH⟩
   ·rw [List.take_add_one, ht]
    simp only [Option.toList_some, Zmz, Zgz, not_or]
    exact ⟨hno, by simpa using h3⟩
   ·exact wKK
 ·have hie : i = l.length := by omega
  subst hie
  rw [Ztz] at hno
  refine wX ?_
  exact ⟨_, rfl, -1, rfl, ⟨fun h => absurd h (by decide), fun h => absurd h hno⟩⟩
theorem Qmr (a : Option Addr) (l : List (List UInt8)) (cap : Nat) (s : List UInt8) (ha : a = none -> l = []) (hl : l.length <= 1000000) :
  ∀ H, (∀ w, Qax H w -> SlAt a (l.length * 1) (strC l) w) -> SpecH Tryz.prog 130 (pvs [.slice a l.length cap, .string (bs s)]) H (Ret (.bool (decide (s ∈ l))) H) := by
 refine Qem hm Tryz.func130 (by kernel_rfl) rfl rfl ?_
 refine wX ?_
 refine QBq (Qxk a l cap s ha hl _ (fun w hw => hw.1)) fun v hv => ?_
 obtain ⟨n, rfl, hn⟩ := hv
 refine wX ?_
 refine Qb0 ?_
 rw [ZBz, ZBz]
 exact hn
structure RdOk (st : PS) (p : RdP) : Prop where
 g : p.m.map (·.c) = st.g
 cell : ∀ q ∈ p.m, Qa5 q
 ga : p.ga = none -> p.m = []
 ca : p.ca = none -> st.cells = []
 sa : p.sa = none -> st.ss = []
 sw : ∀ t ∈ st.ss, t.length <= 30000
 gx : p.ga = none \/ ∃ b : Nat, p.ga = some ⟨b, 0, none⟩
theorem Qbj (st : PS) (e : Int) : (Qam st e).ss = st.ss /\ (Qam st e).g = st.g /\ (Qam st e).cells = st.cells := by unfold Qam; split <;> exact ⟨rfl, rfl, rfl⟩
theorem QAp (st : PS) (e : Int) : (Qam st e).s = st.s := by unfold Qam; split <;> rfl
theorem Qb7 (most : Nat) (st : PS) : (numM most st).2.ss = st.ss /\ (numM most st).2.g = st.g /\ (numM most st).2.cells = st.cells := by
 unfold numM
 split
 ·exact ⟨rfl, rfl, rfl⟩
 split <;> exact ⟨rfl, rfl, rfl⟩
theorem Qey (most : Nat) (st : PS) : (Qa7 most st).2.ss = st.ss /\ (Qa7 most st).2.g = st.g /\ (Qa7 most st).2.cells = st.cells := by
 have h := Qb7 maxN st
 unfold Qa7
 split
 ·exact h
 split
 ·exact h
 split <;> exact h
theorem Qhy (rb : Nat) (x : UInt8) (st : PS) (p : RdP) (ok : RdOk st p) (hss : st.ss.length < 100000) : SpecH Tryz.prog 105 [.c (.v (.pointer (some ⟨rb, 0, none⟩))), .c (.v (.int .u8 (x.toNat : Int)))] (rdE rb st p) (RetG (ι := Option Addr × Nat) (fun i => i.1 = none -> (symM x st).2.ss = []) (fun _ => .string (bs (symM x st).1)) fun i => rdE rb (symM x st).2 { p with sa := i.1, sc := i.2 }) := by
  refine ownC hm Tryz.func105 (by kernel_rfl) rfl rfl (fun _ _ => Qks _ _ _) (fun _ _ => Zcz _) ?_
  have htext := Qtw rb st p 40
  have hnum := Qf0 rb st p maxN (by decide)
  have kt := Qey 40 st
  have kn := Qb7 maxN st
  unfold symM
  generalize Qa7 40 st = qt at htext kt ⊢
  generalize numM maxN st = qn at hnum kn ⊢
  obtain ⟨t, st1⟩ := qt
  obtain ⟨n, st2⟩ := qn
  simp only at htext hnum kt kn ⊢
  by_cases h58 : x = 58
  · subst h58
    rw [if_pos rfl]
    have hsa : p.sa = none -> st1.ss = [] := fun h => by rw [kt.1]; exact ok.sa h
    have hl1 : st1.ss.length < 100000 := by rw [kt.1]; exact hss
    refine wX ?_
    refine Qai (htext) [0, 1, 2, 3, 4] rfl ⟨rfl, rfl, rfl, rfl, rfl, trivial⟩ rfl fun _ _ => ?_
    refine wX ?_
    refine LdN.one (a := some ⟨rb, 0, none⟩) (q := 4) (.int .i64 st1.e) rfl (fun w hw => hw.1) rfl ?_
    refine wX ?_
    by_cases he : st1.e = 0
    · rw [show (st1.e == 0) = true by rw [he]; rfl]
      refine wX ?_
      refine LdN.one (a := some ⟨rb, 0, none⟩) (q := 3) (.slice p.sa st1.ss.length p.sc) rfl (fun w hw => hw.1) rfl ?_
      refine wX ?_
      refine Qao (Qmr p.sa st1.ss p.sc t hsa (by omega) _ (fun w hw => hw.2.2.2.2.1)) ?_
      refine wX ?_
      refine Qab (fun hm => ?_) (fun hm => ?_)
      · refine wX ?_
        refine Qai (Qdn rb st1 p 4) [0, 1, 2, 3, 4] rfl ⟨rfl, rfl, rfl, rfl, rfl, trivial⟩ rfl fun _ _ => ?_
        rw [if_pos ⟨he, hm⟩, show ({ Qam st1 4 with ss := st1.ss ++ [t] } : PS) = { Qam st1 4 with ss := (Qam st1 4).ss ++ [t] } by rw [(Qbj st1 4).1]]
        have hl2 : (Qam st1 4).ss.length < 100000 := by rw [(Qbj st1 4).1]; exact hl1
        generalize Qam st1 4 = st3 at hl2 ⊢
        refine wX ?_
        refine LdN.one (a := some ⟨rb, 0, none⟩) (q := 3) (.slice p.sa (st3).ss.length p.sc) rfl (fun w hw => hw.1) rfl ?_
        refine wX ?_
        refine Nd.mk ⟨Zcz 1, rfl, rfl⟩ ?_
        (conv => whnf)
        refine AppN.grow 4 (strC (st3).ss) [.string (bs t)] rfl rfl ⟨Zcz 1, ⟨by show ((st3).ss.length + 1) * 16 <= _; omega, by omega⟩, by decide⟩ fun b' cap' h1 h2 => ?_
        refine wX ?_
        refine EffW.appTo (i := 0) (q := 3) (ys := [_]) (rdC { (st3) with ss := (st3).ss ++ [t] } { p with sa := some ⟨b', 0, none⟩, sc := cap' }) 5 rfl rfl rfl rfl rfl rfl rfl (Zaz rfl) (by simp [rdC]) rfl ?_
        refine wX ?_
        refine ⟨(some ⟨b', 0, none⟩, cap'), (fun h => by cases h), rfl, Qaa _, Qaa _, Qaa _, Qaa _, ?_, trivial⟩
        rw [show strC (st3).ss ++ [.string (bs t)] = strC ((st3).ss ++ [t]) by simp [strC], show (st3).ss.length + 1 = ((st3).ss ++ [t]).length by simp]
        exact Qaa _
      · rw [if_neg (fun h => hm h.2)]
        refine wX ?_
        refine LdN.one (a := some ⟨rb, 0, none⟩) (q := 3) (.slice p.sa (st1).ss.length p.sc) rfl (fun w hw => hw.1) rfl ?_
        refine wX ?_
        refine Nd.mk ⟨Zcz 1, rfl, rfl⟩ ?_
        (conv => whnf)
        refine AppN.grow 4 (strC (st1).ss) [.string (bs t)] rfl rfl ⟨Zcz 1, ⟨by show ((st1).ss.length + 1) * 16 <= _; omega, by omega⟩, by decide⟩ fun b' cap' h1 h2 => ?_
        refine wX ?_
        refine EffW.appTo (i := 0) (q := 3) (ys := [_]) (rdC { (st1) with ss := (st1).ss ++ [t] } { p with sa := some ⟨b', 0, none⟩, sc := cap' }) 5 rfl rfl rfl rfl rfl rfl rfl (Zaz rfl) (by simp [rdC]) rfl ?_
        refine wX ?_
        refine ⟨(some ⟨b', 0, none⟩, cap'), (fun h => by cases h), rfl, Qaa _, Qaa _, Qaa _, Qaa _, ?_, trivial⟩
        rw [show strC (st1).ss ++ [.string (bs t)] = strC ((st1).ss ++ [t]) by simp [strC], show (st1).ss.length + 1 = ((st1).ss ++ [t]).length by simp]
        exact Qaa _
    · rw [show (st1.e == 0) = false by simpa using he, if_neg (fun h => he h.1)]
      refine wX ?_
      refine LdN.one (a := some ⟨rb, 0, none⟩) (q := 3) (.slice p.sa (st1).ss.length p.sc) rfl (fun w hw => hw.1) rfl ?_
      refine wX ?_
      refine Nd.mk ⟨Zcz 1, rfl, rfl⟩ ?_
      (conv => whnf)
      refine AppN.grow 4 (strC (st1).ss) [.string (bs t)] rfl rfl ⟨Zcz 1, ⟨by show ((st1).ss.length + 1) * 16 <= _; omega, by omega⟩, by decide⟩ fun b' cap' h1 h2 => ?_
      refine wX ?_
      refine EffW.appTo (i := 0) (q := 3) (ys := [_]) (rdC { (st1) with ss := (st1).ss ++ [t] } { p with sa := some ⟨b', 0, none⟩, sc := cap' }) 5 rfl rfl rfl rfl rfl rfl rfl (Zaz rfl) (by simp [rdC]) rfl ?_
      refine wX ?_
      refine ⟨(some ⟨b', 0, none⟩, cap'), (fun h => by cases h), rfl, Qaa _, Qaa _, Qaa _, Qaa _, ?_, trivial⟩
      rw [show strC (st1).ss ++ [.string (bs t)] = strC ((st1).ss ++ [t]) by simp [strC], show (st1).ss.length + 1 = ((st1).ss ++ [t]).length by simp]
      exact Qaa _
  by_cases h59 : x = 59
  · subst h59
    rw [if_neg (by decide), if_pos rfl]
    refine wX ?_
    refine Qai (hnum) [0, 1, 2, 3, 4] rfl ⟨rfl, rfl, rfl, rfl, rfl, trivial⟩ rfl fun _ _ => ?_
    refine wX ?_
    refine LdN.one (a := some ⟨rb, 0, none⟩) (q := 4) (.int .i64 st2.e) rfl (fun w hw => hw.1) rfl ?_
    refine wX ?_
    by_cases he : st2.e = 0
    · rw [show (st2.e == 0) = true by rw [he]; rfl]
      refine wX ?_
      refine LdN.one (a := some ⟨rb, 0, none⟩) (q := 3) (.slice p.sa st2.ss.length p.sc) rfl (fun w hw => hw.1) rfl ?_
      refine wX ?_
      refine Qab (fun hlt => ?_) (fun hlt => ?_)
      · have hn : n < st2.ss.length := by omega
        rw [if_pos ⟨he, hn⟩]
        have hsa : p.sa.isSome = true := by
          cases h : p.sa with
          | none =>
            have := ok.sa h
            rw [kn.1, this] at hn
            exact absurd hn (Nat.not_lt_zero _)
          | some b => rfl
        have hget : st2.ss[n]? = some (st2.ss.getD n []) := by rw [Zlz, Zbz hn]; rfl
        refine wX ?_
        refine LdN.one (a := some ⟨rb, 0, none⟩) (q := 3) (.slice p.sa st2.ss.length p.sc) rfl (fun w hw => hw.1) rfl ?_
        refine wX ?_
        refine Nd.mk ⟨hsa, by omega, by omega⟩ ?_
        refine wX ?_
        refine LdN.one (.string (bs (st2.ss.getD n []))) rfl (fun w hw => hw.2.2.2.2.1) (by show (strC st2.ss)[Int.toNat _ * 1]? = _; rw [Zdz, Nat.mul_one]; exact Qcz hget) ?_
        refine wX ?_
        exact ⟨(p.sa, p.sc), (fun h => by show st2.ss = []; rw [kn.1]; exact ok.sa h), rfl, Qag _⟩
      · rw [if_neg (fun h => hlt (by omega))]
        refine wX ?_
        refine Qai (Qdn rb st2 p 4) [0, 1, 2, 3, 4] rfl ⟨rfl, rfl, rfl, rfl, rfl, trivial⟩ rfl fun _ _ => ?_
        refine wX ?_
        exact ⟨(p.sa, p.sc), (fun h => by rw [(Qbj _ _).1, kn.1]; exact ok.sa h), rfl, Qag _⟩
    · rw [show (st2.e == 0) = false by simpa using he, if_neg (fun h => he h.1)]
      refine wX ?_
      refine Qai (Qdn rb st2 p 4) [0, 1, 2, 3, 4] rfl ⟨rfl, rfl, rfl, rfl, rfl, trivial⟩ rfl fun _ _ => ?_
      refine wX ?_
      exact ⟨(p.sa, p.sc), (fun h => by rw [(Qbj _ _).1, kn.1]; exact ok.sa h), rfl, Qag _⟩
  · rw [if_neg h58, if_neg h59]
    have e1 : ((x.toNat : Int) == 58) = false := by
      rw [beq_eq_false_iff_ne]
      intro h5
      exact h58 (UInt8.toNat_inj.1 (by have : x.toNat = 58 := by omega
                                       rw [this]; rfl))
    have e2 : ((x.toNat : Int) == 59) = false := by
      rw [beq_eq_false_iff_ne]
      intro h5
      exact h59 (UInt8.toNat_inj.1 (by have : x.toNat = 59 := by omega
                                       rw [this]; rfl))
    refine wX ?_
    rw [e1]
    refine wX ?_
    rw [e2]
    refine wX ?_
    refine Qai (Qdn rb st p 4) [0, 1, 2, 3, 4] rfl ⟨rfl, rfl, rfl, rfl, rfl, trivial⟩ rfl fun _ _ => ?_
    refine wX ?_
    exact ⟨(p.sa, p.sc), (fun h => by rw [(Qbj _ _).1]; exact ok.sa h), rfl, Qag _⟩
def Qtl (n : Nat) : Prop := ∀ (rb : Nat) (st : PS) (p : RdP), RdOk st p -> Bd st -> (st.s.length < n \/ st.e ≠ 0) -> SpecH Tryz.prog 64 [.c (.v (.pointer (some ⟨rb, 0, none⟩)))] (rdE rb st p) (RetG (ι := RdP) (fun p' => RdOk (Qav n st).2 p') (fun _ => .int .i64 (Qav n st).1) fun p' => rdE rb (Qav n st).2 p')
def ownI (l : List Int) (a : Option Addr) (cap : Nat) : Ent := .app 3 1 (iC l) a l.length cap
structure ItP where
 i : Nat
 l : List Int
 st : PS
 p : RdP
 a : Option Addr
 cap : Nat
theorem Qr3 (n : Nat) (hc : Qtl n) (rb : Nat) (st : PS) (p : RdP) (ok : RdOk st p) (bd : Bd st) (hn : st.s.length < n \/ st.e ≠ 0) (m : Nat) (hm2 : m <= 4000000000000000) : SpecH Tryz.prog 106 [.c (.v (.pointer (some ⟨rb, 0, none⟩))), .c (.v (.int .i64 (m : Int)))] (rdE rb st p ++ [.app 3 1 [] none 0 0]) (RetG (ι := RdP × Option Addr × Nat) (fun i => RdOk (Qbh (Qav n) m [] st).2 i.1 /\ (i.2.1 = none -> (Qbh (Qav n) m [] st).1 = []) /\ (Qbh (Qav n) m [] st).1.length <= i.2.2) (fun i => .slice i.2.1 (Qbh (Qav n) m [] st).1.length i.2.2) fun i => rdE rb (Qbh (Qav n) m [] st).2 i.1 ++ [ownI (Qbh (Qav n) m [] st).1 i.2.1 i.2.2]) := by
 refine ownC hm Tryz.func106 (by kernel_rfl) rfl rfl (fun _ _ => Qan rfl) (fun _ _ => Zaz rfl) ?_
 have hI : ∀ k l st', Qbh (Qav n) (k + 1) l st' = if st'.e = 0 then Qbh (Qav n) k (l ++ [(Qav n st').1]) (Qav n st').2 else (l, st') := fun k l st' => by conv => lhs; unfold Qbh
 obtain ⟨R, hR⟩ : ∃ R, Qbh (Qav n) m [] st = R := ⟨_, rfl⟩
 rw [hR]
 have htk := Qdo n
 refine wX ?_
 refine LoopN.intro ItP (fun ⟨i, l, st, p, a, cap⟩ => Qbh (Qav n) (m - i) l st = R /\ i <= m /\ RdOk st p /\ Bd st /\ (st.s.length < n \/ st.e ≠ 0) /\ l.length + st.s.length + liv st <= 30001 /\ (a = none -> l = []) /\ l.length <= cap)
  (fun ⟨i, l, _, _, a, cap⟩ => mkS Tryz.f106.ntmps 0 [(0, .c (.v (.pointer (some ⟨rb, 0, none⟩)))), (1, .c (.v (.int .i64 (m : Int)))), (4, .c (.v (.slice none 0 0))), (5, .c (.v (.slice a l.length cap))), (6, .c (.v (.int .i64 (i : Int))))])
  (fun ⟨_, l, st, p, a, cap⟩ => rdE rb st p ++ [ownI l a cap]) (fun ⟨_, _, st, _, _, _⟩ => if st.e = 0 then st.s.length + 1 else 0) [] rfl
  (fun _ => rfl) (fun _ => rfl) (fun _ _ => Qan rfl) ⟨⟨0, [], st, p, none, 0⟩, ⟨hR, Zkz _, ok, bd, hn, ?_, fun _ => rfl, Zcz _⟩, ?_, Qag _⟩ ?_
 ·have := bd.pot
  unfold liv
  show 0 + st.s.length + _ <= _
  split <;> omega
 ·exact wKK
 rintro ⟨i, l, st1, p1, a, cap⟩ ⟨h1, h2, h3, h4, h5, h6, h7, h8⟩
 refine wX ?_
 by_cases hi : i < m
 ·rw [show decide ((i : Int) < (m : Int)) = true by simpa using hi]
  obtain ⟨k, hk⟩ : ∃ k, m - i = k + 1 := ⟨m - i - 1, by omega⟩
  rw [hk, hI] at h1
  refine wX ?_
  refine LdN.one (a := some ⟨rb, 0, none⟩) (q := 4) (.int .i64 st1.e) rfl (fun w hw => hw.1) rfl ?_
  refine wX ?_
  by_cases he : st1.e = 0
  ·rw [show (st1.e == 0) = true by rw [he]; rfl]
   rw [if_pos he] at h1
   refine wX ?_
   refine Qai (hc rb st1 p1 h3 h4 h5) [0, 1, 2, 3, 4] rfl ⟨rfl, rfl, rfl, rfl, rfl, trivial⟩ rfl fun p2 hp2 => ?_
   have hle := htk.le st1
   have hlt := htk.lt st1
   have hll : l.length <= 30001 := by omega
   generalize Qav n st1 = r at h1 hp2 hle hlt ⊢
   obtain ⟨z, st2⟩ := r
   simp only at h1 hp2 hle hlt
   refine wX ?_
   refine Nd.mk ⟨Zcz 1, rfl, rfl⟩ ?_
   (conv => whnf)
   refine AppN.grow 5 (iC l) [.int .i64 z] rfl rfl ⟨Zcz 1, ⟨by show (l.length + 1) * 8 <= _; omega, by omega⟩, by decide⟩ fun b' cap' g1 g2 => ?_
   refine wX ?_
   have e1 : iC l ++ [.int .i64 z] = iC (l ++ [z]) := by simp [iC]
   have e2 : l.length + 1 = (l ++ [z]).length := by simp
   rw [e1, e2]
   refine ⟨⟨i + 1, l ++ [z], st2, p2, some ⟨b', 0, none⟩, cap'⟩, ⟨by rw [<- h1, show m - (i + 1) = k by omega], by show i + 1 <= m; omega, hp2, h4.le hle, ?_, ?_, (fun h => by cases h), by rw [<- e2]; exact g1⟩, ?_, ?_, ?_⟩
   ·show st2.s.length < n \/ _
    have := hle.s
    rcases h5 with h | h
    ·left; omega
    ·exact absurd he h
   ·show (l ++ [z]).length + st2.s.length + liv st2 <= _
    rw [Zhz, List.length_singleton]
    have hs := hle.s
    unfold liv at h6 ⊢
    rw [if_pos he] at h6
    split
    ·rename_i h9
     have := hlt h9
     omega
    ·omega
   ·show (if st2.e = 0 then st2.s.length + 1 else 0) < if st1.e = 0 then st1.s.length + 1 else 0
    rw [if_pos he]
    split
    ·rename_i h9
     have := hlt h9
     omega
    ·omega
   ·exact wKK
   ·exact ⟨Qaa _, Qaa _, Qaa _, Qaa _, Qaa _, Qaa _, Qbu _⟩
  ·rw [show (st1.e == 0) = false by simpa using he]
   rw [if_neg he] at h1
   subst h1
   refine wX ?_
   exact ⟨(p1, a, cap), ⟨h3, h7, h8⟩, rfl, Qag _⟩
 ·rw [show decide ((i : Int) < (m : Int)) = false by simpa using hi]
  rw [show m - i = 0 by omega] at h1
  have h1 : (l, st1) = R := h1
  subst h1
  refine wX ?_
  exact ⟨(p1, a, cap), ⟨h3, h7, h8⟩, rfl, Qag _⟩
end Go.Proofs.YtgogonnnojcioaaGreatDoor
namespace Go.Marshal
open Go.Core
theorem Qhx (most : Nat) (st : PS) : (Qa7 most st).1.length <= st.s.length := by
 have h := (Qc4 maxN st).s
 unfold Qa7
 split
 ·simp
 split
 ·simp
 split
 ·simp
 ·rw [List.length_take]
  omega
theorem Qc6 (st : PS) : (Qad st).2.ss = st.ss /\ (Qad st).2.g = st.g /\ (Qad st).2.cells = st.cells := by
 unfold Qad
 split
 ·exact ⟨rfl, rfl, rfl⟩
 split <;> exact ⟨rfl, rfl, rfl⟩
theorem Qju (x : UInt8) (st : PS) (hs : st.s.length <= 30000) (hw : ∀ t ∈ st.ss, t.length <= 30000) : (symM x st).1.length <= 30000 := by
 unfold symM
 split
 ·exact Zwz (Qhx 40 st) hs
 split
 ·split
  ·rename_i h
   have hk : (numM maxN st).2.ss = st.ss := by
    unfold numM
    split
    ·rfl
    split <;> rfl
   rw [hk] at h ⊢
   rw [Zlz, Zbz h.2]
   exact hw _ (List.getElem_mem _)
  ·exact Zkz _
 ·exact Zkz _
theorem Qod {c : Cell} (hk : c.kind = 8) : Qbe [c] ↔ (plainS c && Qei 1 c) = true := by
 unfold Qbe
 constructor
 ·intro ⟨_, h, _⟩
  have := h c (by simp)
  rw [Qlo]
  exact this
 ·intro h
  refine ⟨by simp, fun d hd => ?_, fun d hd h7 => ?_⟩
  ·obtain rfl := Zgz.1 hd
   rw [Qlo] at h
   exact h
  ·obtain rfl := Zgz.1 hd
   rw [hk] at h7
   exact absurd h7 (by decide)
theorem Qp9 (t : B) : Qbe [⟨8, 0, t, [], []⟩] ↔ Go.Scan.icB t = true := by
 rw [Qod rfl]
 unfold plainS Qei
 simp [maxI]
theorem Qsn (t : B) : Qbe [⟨8, 0, [65], [t], [0]⟩] ↔ Go.Scan.iiB t = true := by
 rw [Qod rfl]
 unfold plainS Qei
 have h : Go.Scan.icB [65] = true := by decide +kernel
 simp [maxI, h]
end Go.Marshal
namespace Go.Proofs.YtgogonnnojcioaaGreatDoor
open Go.AX Go.RowKit Go.Core Go.Marshal
set_option maxRecDepth 20000
theorem RdOk.same {st st' : PS} {p : RdP} (ok : RdOk st p) (h : st'.ss = st.ss /\ st'.g = st.g /\ st'.cells = st.cells) : RdOk st' p :=
 ⟨by rw [h.2.1]; exact ok.g, ok.cell, ok.ga, by rw [h.2.2]; exact ok.ca, by rw [h.1]; exact ok.sa, by rw [h.1]; exact ok.sw, ok.gx⟩
theorem Qrg (x : UInt8) (st : PS) : (symM x st).2.g = st.g /\ (symM x st).2.cells = st.cells := by
 have kt := Qey 40 st
 have kn := Qb7 maxN st
 unfold symM
 split
 ·simp only
  split
  ·have k4 := Qbj (Qa7 40 st).2 4
   exact ⟨by rw [k4.2.1, kt.2.1], by rw [k4.2.2, kt.2.2]⟩
  ·exact kt.2
 split
 ·split
  ·exact kn.2
  ·have k4 := Qbj (numM maxN st).2 4
   exact ⟨by rw [k4.2.1, kn.2.1], by rw [k4.2.2, kn.2.2]⟩
 ·exact (Qbj st 4).2
theorem Qzx (x : UInt8) (st : PS) (hs : st.s.length <= 30000) (hw : ∀ t ∈ st.ss, t.length <= 30000) : ∀ t ∈ (symM x st).2.ss, t.length <= 30000 := by
 have kt := Qey 40 st
 have kn := Qb7 maxN st
 have tl := Qhx 40 st
 unfold symM
 split
 ·intro t ht
  simp only at ht
  rw [kt.1] at ht
  rcases Zmz.1 ht with h | h
  ·exact hw t h
  ·rw [Zgz.1 h]; omega
 split
 ·split
  ·rw [kn.1]; exact hw
  ·rw [(Qbj _ _).1, kn.1]; exact hw
 ·rw [(Qbj _ _).1]; exact hw
theorem RdOk.sym {st : PS} {p : RdP} (ok : RdOk st p) (hs : st.s.length <= 30000) (x : UInt8) {i : Option Addr × Nat} (hi : i.1 = none -> (symM x st).2.ss = []) : RdOk (symM x st).2 { p with sa := i.1, sc := i.2 } :=
 ⟨by rw [(Qrg x st).1]; exact ok.g, ok.cell, ok.ga, by rw [(Qrg x st).2]; exact ok.ca, hi, Qzx x st hs ok.sw, ok.gx⟩
end Go.Proofs.YtgogonnnojcioaaGreatDoor
