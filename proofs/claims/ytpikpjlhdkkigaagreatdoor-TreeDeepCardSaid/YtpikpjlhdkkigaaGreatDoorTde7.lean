/-
  TreeDeepCardSaid is proved: of every two numbers TreeDeep returns true and leaves its arguments as they were; the listed tables are tied to the program's text.
-/
import Derived.Test.YtpikpjlhdkkigaaGreatDoorCards
import Derived.Test.YtpikpjlhdkkigaaGreatDoorTie
import Derived.Test.YtpikpjlhdkkigaaGreatDoorTde6
set_option linter.unusedVariables false
set_option linter.unusedSimpArgs false
namespace Go.Proofs.YtpikpjlhdkkigaaGreatDoor
open Go.AX Go.RowKit Go.Tree Go.Scan
set_option maxRecDepth 20000
def vOp (o : Int) : Bool := [0, 1, 2, 3, 39, 4, 5, 17, 32, 35, 46].contains o
def nOp (o : Int) : Bool := [6, 10, 11, 12, 13, 14, 15, 16, 18, 33, 43, 44].contains o
theorem valid_nm {t : TP} (ho : vOp t.op = false) (hn : t.n = 0) (h : Yes 68 t) : Yes 46 t := by
 obtain ⟨o, x, n, a, ks, c⟩ := t
 simp only at ho hn
 subst hn
 simp [vOp] at ho
 refine factC (xs := [.agg #[.int .i64 o, .string (bs x), .int .i64 0, .slice a ks.length c]]) hm Tryz.func46 (by kernel_rfl) rfl rfl ?_
 refine wX ?_
 repeat (refine brd_eq (fun h => absurd h (by omega)) (fun _ => ?_); (first | refine wX ?_ | exact wZ))
 refine call1 (h _ (fun w hw => hw.1)) ?_
 exact wZ
theorem named_ot {t : TP} (ho : nOp t.op = false) (hx : t.name = []) (h : Yes 93 t) : Yes 68 t := by
 obtain ⟨o, x, n, a, ks, c⟩ := t
 simp only at ho hx
 subst hx
 simp [nOp] at ho
 refine factC (xs := [.agg #[.int .i64 o, .string (bs []), .int .i64 n, .slice a ks.length c]]) hm Tryz.func68 (by kernel_rfl) rfl rfl ?_
 refine wX ?_
 repeat (refine brd_eq (fun h => absurd h (by omega)) (fun _ => ?_); (first | refine wX ?_ | exact wZ))
 refine call1 (h _ (fun w hw => hw.1)) ?_
 exact wZ
set_option maxHeartbeats 4000000 in
theorem valid_ot {t : TP} (hv : vOp t.op = false) (ho : nOp t.op = false) (hn : t.n = 0) (hx : t.name = []) (h : Yes 93 t) : Yes 46 t := valid_nm hv hn (named_ot ho hx h)
set_option maxHeartbeats 4000000 in
theorem valid_c : ∀ N, Hx N := by
 intro N
 induction N with
 | zero => intro t h; omega
 | succ N ih =>
  intro t hs hk hv
  have hN : t.sz ≤ N := by omega
  have hin : ∀ k ∈ t.kids, k.sz < N ∧ TreeK k := fun k h => by
   have := sz_kid h
   exact ⟨by omega, hk.kid h⟩
  have hls := hk.ls
  have hxl := hk.str
  cases hv with
  | bare h =>
   rename_i o a c
   have hb := bare_c (⟨o, [], 0, a, [], c⟩ : TP) rfl rfl rfl
   rcases h with rfl | rfl | rfl | rfl | rfl
   ·-- a node's kind, name, number, length of kids: 0 [] 0 0
    refine factC (xs := [.agg #[.int .i64 0, .string (bs []), .int .i64 0, .slice a 0 c]]) hm Tryz.func46 (by kernel_rfl) rfl rfl ?_
    refine wX ?_
    refine call1 (hb _) ?_
    exact wZ
   ·-- a node's kind, name, number, length of kids: 1 [] 0 0
    refine factC (xs := [.agg #[.int .i64 1, .string (bs []), .int .i64 0, .slice a 0 c]]) hm Tryz.func46 (by kernel_rfl) rfl rfl ?_
    refine wX ?_
    refine call1 (hb _) ?_
    exact wZ
   ·-- a node's kind, name, number, length of kids: 2 [] 0 0
    refine factC (xs := [.agg #[.int .i64 2, .string (bs []), .int .i64 0, .slice a 0 c]]) hm Tryz.func46 (by kernel_rfl) rfl rfl ?_
    refine wX ?_
    refine call1 (hb _) ?_
    exact wZ
   ·-- a node's kind, name, number, length of kids: 3 [] 0 0
    refine factC (xs := [.agg #[.int .i64 3, .string (bs []), .int .i64 0, .slice a 0 c]]) hm Tryz.func46 (by kernel_rfl) rfl rfl ?_
    refine wX ?_
    refine call1 (hb _) ?_
    exact wZ
   ·-- a node's kind, name, number, length of kids: 39 [] 0 0
    refine factC (xs := [.agg #[.int .i64 39, .string (bs []), .int .i64 0, .slice a 0 c]]) hm Tryz.func46 (by kernel_rfl) rfl rfl ?_
    refine wX ?_
    refine call1 (hb _) ?_
    exact wZ
  | int h =>
   rename_i n a c
   refine factC (xs := [.agg #[.int .i64 4, .string (bs []), .int .i64 n, .slice a 0 c]]) hm Tryz.func46 (by kernel_rfl) rfl rfl ?_
   refine wX ?_
   refine call1 (leaf_c (⟨4, [], n, a, [], c⟩ : TP) rfl _) ?_
   refine wX ?_
   rw [show decide (n ≥ -1000000000000000) = true by simpa using h.1]
   refine wX ?_
   rw [show decide (n ≤ 1000000000000000) = true by simpa using h.2]
  | str h =>
   rename_i x a c
   refine factC (xs := [.agg #[.int .i64 5, .string (bs x), .int .i64 0, .slice a 0 c]]) hm Tryz.func46 (by kernel_rfl) rfl rfl ?_
   refine wX ?_
   refine call1 (leaf_c (⟨5, x, 0, a, [], c⟩ : TP) rfl _) ?_
   refine wX ?_
   exact ret_b (by rw [bs_size]; simp; omega)
  | sym h =>
   rename_i x a c
   refine valid_nm rfl rfl ?_
   have hxl : x.length ≤ 1048576 := hxl
   refine factC (xs := [.agg #[.int .i64 6, .string (bs x), .int .i64 0, .slice a 0 c]]) hm Tryz.func68 (by kernel_rfl) rfl rfl ?_
   refine wX ?_
   refine call1 (leaf_c (⟨6, x, 0, a, [], c⟩ : TP) rfl _) ?_
   refine wX ?_
   refine call1 (IsMethod_c x (by omega) _ (fun w hw => hw.1.1)) ?_
   rw [show (opL.contains x || inB x || setB x) = meB x from rfl]
   cases h1 : meB x with
   | true =>
    exact wZ
   | false =>
    refine wX ?_
    refine call1 (IsConst_c x (by omega) _) ?_
    cases h2 : icB x with
    | true =>
     exact wZ
    | false =>
     refine wX ?_
     refine call1 (IsIvar_c x (by omega) _) ?_
     have h3 : iiB x = true := by
      rcases h with h | h | h
      ·rw [h1] at h; cases h
      ·rw [h2] at h; cases h
      ·exact h
     rw [h3]
     exact wZ
  | dstr1 h ho =>
   rename_i a c s
   refine valid_ot rfl rfl rfl rfl ?_
   refine factC (xs := [.agg #[.int .i64 7, .string (bs []), .int .i64 0, .slice a 1 c]]) hm Tryz.func93 (by kernel_rfl) rfl rfl ?_
   refine wX ?_
   refine call1 (dstr1_c ih (hin _ (by simp)).1 h ho a c hls _ (fun w hw => ⟨hw.1.1, hw.1.2.ls⟩)) ?_
   exact wZ
  | dstr3 h ho hx hy =>
   rename_i a c s x y ax ay cx cy
   refine valid_ot rfl rfl rfl rfl ?_
   refine factC (xs := [.agg #[.int .i64 7, .string (bs []), .int .i64 0, .slice a 3 c]]) hm Tryz.func93 (by kernel_rfl) rfl rfl ?_
   refine wX ?_
   refine call1 (dstr3_c ih (fun k hk => (hin k hk).1) h ho hx hy a c hls _ (fun w hw => ⟨hw.1.1, hw.1.2.ls⟩)) ?_
   exact wZ
  | args ho h =>
   rename_i o a c l
   have hl : Sm N .arg l := fun k hk => ⟨(hin k hk).1, h k hk⟩
   rcases ho with rfl | rfl
   ·refine valid_ot rfl rfl rfl rfl ?_
    refine factC (xs := [.agg #[.int .i64 8, .string (bs []), .int .i64 0, .slice a l.length c]]) hm Tryz.func93 (by kernel_rfl) rfl rfl ?_
    refine wX ?_
    refine call1 (args_c ih hl a c hls _ (fun w hw => ⟨hw.1.1, hw.1.2.ls⟩)) ?_
    exact wZ
   ·refine valid_ot rfl rfl rfl rfl ?_
    refine factC (xs := [.agg #[.int .i64 21, .string (bs []), .int .i64 0, .slice a l.length c]]) hm Tryz.func93 (by kernel_rfl) rfl rfl ?_
    refine wX ?_
    refine call1 (args_c ih hl a c hls _ (fun w hw => ⟨hw.1.1, hw.1.2.ls⟩)) ?_
    exact wZ
  | hash h2 h =>
   rename_i a c l
   have hl : Sm N .ex l := fun k hk => ⟨(hin k hk).1, h k hk⟩
   refine valid_ot rfl rfl rfl rfl ?_
   have hmd : ((l.length : Int).tmod 2 == 0) = true := by
    rw [Int.tmod_eq_emod_of_nonneg (by omega)]
    simp
    omega
   refine factC (xs := [.agg #[.int .i64 9, .string (bs []), .int .i64 0, .slice a l.length c]]) hm Tryz.func93 (by kernel_rfl) rfl rfl ?_
   refine wX ?_
   rw [hmd]
   refine wX ?_
   refine call1 (exprs_c ih hl a c hls _ (fun w hw => ⟨hw.1.1, hw.1.2.ls⟩)) ?_
   exact wZ
  | loc h =>
   rename_i x a c
   refine valid_nm rfl rfl ?_
   refine factC (xs := [.agg #[.int .i64 10, .string (bs x), .int .i64 0, .slice a 0 c]]) hm Tryz.func68 (by kernel_rfl) rfl rfl ?_
   refine wX ?_
   refine call1 (leaf_c (⟨10, x, 0, a, [], c⟩ : TP) rfl _) ?_
   refine wX ?_
   refine call1 (isLocal_c x hxl h _ (fun w hw => hw.1.1)) ?_
   exact wZ
  | setl h hkv =>
   rename_i x a c k
   refine valid_nm rfl rfl ?_
   refine factC (xs := [.agg #[.int .i64 11, .string (bs x), .int .i64 0, .slice a 1 c]]) hm Tryz.func68 (by kernel_rfl) rfl rfl ?_
   refine wX ?_
   refine call1 (isLocal_c x hxl h _ (fun w hw => hw.1.1)) ?_
   refine wX ?_
   refine call1 (shaped_c ih [101] ([k]) (⟨⟨(hin k (by simp)).1, hkv, .inl rfl⟩, trivial⟩) (by decide) a c hls _ (fun w hw => ⟨hw.1.1, hw.1.2.ls⟩)) ?_
   exact wZ
  | ivar h =>
   rename_i x a c
   refine valid_nm rfl rfl ?_
   have hxl : x.length ≤ 1048576 := hxl
   refine factC (xs := [.agg #[.int .i64 12, .string (bs x), .int .i64 0, .slice a 0 c]]) hm Tryz.func68 (by kernel_rfl) rfl rfl ?_
   refine wX ?_
   refine call1 (leaf_c (⟨12, x, 0, a, [], c⟩ : TP) rfl _) ?_
   refine wX ?_
   refine call1 (IsIvar_c x (by omega) _) ?_
   rw [h]
   exact wZ
  | seti h hkv =>
   rename_i x a c k
   refine valid_nm rfl rfl ?_
   have hxl : x.length ≤ 1048576 := hxl
   refine factC (xs := [.agg #[.int .i64 13, .string (bs x), .int .i64 0, .slice a 1 c]]) hm Tryz.func68 (by kernel_rfl) rfl rfl ?_
   refine wX ?_
   refine call1 (IsIvar_c x (by omega) _) ?_
   rw [h]
   refine wX ?_
   refine call1 (shaped_c ih [101] ([k]) (⟨⟨(hin k (by simp)).1, hkv, .inl rfl⟩, trivial⟩) (by decide) a c hls _ (fun w hw => ⟨hw.1.1, hw.1.2.ls⟩)) ?_
   exact wZ
  | const h =>
   rename_i x a c
   refine valid_nm rfl rfl ?_
   have hxl : x.length ≤ 1048576 := hxl
   refine factC (xs := [.agg #[.int .i64 14, .string (bs x), .int .i64 0, .slice a 0 c]]) hm Tryz.func68 (by kernel_rfl) rfl rfl ?_
   refine wX ?_
   refine call1 (leaf_c (⟨14, x, 0, a, [], c⟩ : TP) rfl _) ?_
   refine wX ?_
   refine call1 (IsConst_c x (by omega) _) ?_
   rw [h]
   exact wZ
  | scope ho h hkv =>
   rename_i o x a c k
   have hxl : x.length ≤ 1048576 := hxl
   rcases ho with rfl | rfl
   ·refine valid_nm rfl rfl ?_
    refine factC (xs := [.agg #[.int .i64 15, .string (bs x), .int .i64 0, .slice a 1 c]]) hm Tryz.func68 (by kernel_rfl) rfl rfl ?_
    refine wX ?_
    refine call1 (IsConst_c x (by omega) _) ?_
    rw [h]
    refine wX ?_
    refine call1 (shaped_c ih [101] ([k]) (⟨⟨(hin k (by simp)).1, hkv, .inl rfl⟩, trivial⟩) (by decide) a c hls _ (fun w hw => ⟨hw.1.1, hw.1.2.ls⟩)) ?_
    exact wZ
   ·refine valid_nm rfl rfl ?_
    refine factC (xs := [.agg #[.int .i64 16, .string (bs x), .int .i64 0, .slice a 1 c]]) hm Tryz.func68 (by kernel_rfl) rfl rfl ?_
    refine wX ?_
    refine call1 (IsConst_c x (by omega) _) ?_
    rw [h]
    refine wX ?_
    refine call1 (shaped_c ih [101] ([k]) (⟨⟨(hin k (by simp)).1, hkv, .inl rfl⟩, trivial⟩) (by decide) a c hls _ (fun w hw => ⟨hw.1.1, hw.1.2.ls⟩)) ?_
    exact wZ
  | cop h hkv hl h1 h2 h3 =>
   rename_i x a c k l
   refine factC (xs := [.agg #[.int .i64 17, .string (bs x), .int .i64 0, .slice a (k :: l).length c]]) hm Tryz.func46 (by kernel_rfl) rfl rfl ?_
   refine wX ?_
   refine call1 (callop_c ih h hkv hl h1 h2 h3 hN hk _ (fun w hw => hw.1)) ?_
   exact wZ
  | cset h ho he hkv hq =>
   rename_i x a c k q
   refine factC (xs := [.agg #[.int .i64 17, .string (bs x), .int .i64 0, .slice a 2 c]]) hm Tryz.func46 (by kernel_rfl) rfl rfl ?_
   refine wX ?_
   refine call1 (callset_c ih h ho he hkv hq hN hk _ (fun w hw => hw.1)) ?_
   exact wZ
  | call h ho he hn hkv hl hb h1 =>
   rename_i x n a c k l b
   refine factC (xs := [.agg #[.int .i64 17, .string (bs x), .int .i64 n, .slice a (k :: (l ++ b)).length c]]) hm Tryz.func46 (by kernel_rfl) rfl rfl ?_
   refine wX ?_
   refine call1 (callx_c ih h ho he hn hkv hl hb h1 hN hk _ (fun w hw => hw.1)) ?_
   exact wZ
  | fcall h hl hb h1 =>
   rename_i x a c l b
   have hxl : x.length ≤ 1048576 := hxl
   refine valid_nm rfl rfl ?_
   refine factC (xs := [.agg #[.int .i64 18, .string (bs x), .int .i64 0, .slice a (l ++ b).length c]]) hm Tryz.func68 (by kernel_rfl) rfl rfl ?_
   refine wX ?_
   refine call1 (IsName_c x (by omega) _ (fun w hw => hw.1.1)) ?_
   rw [show (inB x && !kwB x) = true from h]
   refine wX ?_
   refine call1 (called_c ih (l := l) (b := b) (fun k hk => ⟨(hin k (by simp [hk])).1, hl k hk⟩) (fun k hk => ⟨(hin k (by simp [hk])).1, hb k hk⟩) h1 a c hls _ (fun w hw => ⟨hw.1.1, hw.1.2.ls⟩)) ?_
   exact wZ
  | super hl hb h1 =>
   rename_i a c l b
   refine valid_ot rfl rfl rfl rfl ?_
   refine factC (xs := [.agg #[.int .i64 19, .string (bs []), .int .i64 0, .slice a (l ++ b).length c]]) hm Tryz.func93 (by kernel_rfl) rfl rfl ?_
   refine wX ?_
   refine call1 (called_c ih (l := l) (b := b) (fun k hk => ⟨(hin k (by simp [hk])).1, hl k hk⟩) (fun k hk => ⟨(hin k (by simp [hk])).1, hb k hk⟩) h1 a c hls _ (fun w hw => ⟨hw.1.1, hw.1.2.ls⟩)) ?_
   exact wZ
  | zsup =>
   rename_i a c
   refine valid_ot rfl rfl rfl rfl ?_
   refine factC (xs := [.agg #[.int .i64 20, .string (bs []), .int .i64 0, .slice a 0 c]]) hm Tryz.func93 (by kernel_rfl) rfl rfl ?_
   refine wX ?_
   refine call1 (cut_c ih (l := []) (b := []) (fun k hk => by cases hk) (fun k hk => by cases hk) (by decide) a c hls _ (fun w hw => ⟨hw.1.1, hw.1.2.ls⟩)) ?_
   refine wX ?_
   refine call1 (leaf_c (⟨20, [], 0, a, [], c⟩ : TP) rfl _) ?_
   exact wZ
  | lam hl hp hsv hso =>
   rename_i a c l s
   refine valid_ot rfl rfl rfl rfl ?_
   refine factC (xs := [.agg #[.int .i64 25, .string (bs []), .int .i64 0, .slice a (l ++ [s]).length c]]) hm Tryz.func93 (by kernel_rfl) rfl rfl ?_
   refine wX ?_
   refine call1 (body_c ih (l := l) (s := s) (fun k hk => ⟨(hin k (by simp [hk])).1, hl k hk⟩) hp (hin s (by simp)).1 hsv hso a c hls _ (fun w hw => ⟨hw.1.1, hw.1.2.ls⟩)) ?_
   exact wZ
  | seq h =>
   rename_i a c l
   refine valid_ot rfl rfl rfl rfl ?_
   refine factC (xs := [.agg #[.int .i64 26, .string (bs []), .int .i64 0, .slice a l.length c]]) hm Tryz.func93 (by kernel_rfl) rfl rfl ?_
   refine wX ?_
   refine call1 (exprs_c ih (l := l) (fun k hk => ⟨(hin k hk).1, h k hk⟩) a c hls _ (fun w hw => ⟨hw.1.1, hw.1.2.ls⟩)) ?_
   exact wZ
  | iff hkv hsv hso hqv hqo =>
   rename_i a c k s q
   refine valid_ot rfl rfl rfl rfl ?_
   refine factC (xs := [.agg #[.int .i64 27, .string (bs []), .int .i64 0, .slice a 3 c]]) hm Tryz.func93 (by kernel_rfl) rfl rfl ?_
   refine wX ?_
   refine call1 (shaped_c ih [101, 115, 115] ([k, s, q]) (⟨⟨(hin k (by simp)).1, hkv, .inl rfl⟩, ⟨(hin s (by simp)).1, hsv, .inr ⟨rfl, hso⟩⟩, ⟨(hin q (by simp)).1, hqv, .inr ⟨rfl, hqo⟩⟩, trivial⟩) (by decide) a c hls _ (fun w hw => ⟨hw.1.1, hw.1.2.ls⟩)) ?_
   exact wZ
  | whil ho hkv hsv hso =>
   rename_i o a c k s
   rcases ho with rfl | rfl
   ·refine valid_ot rfl rfl rfl rfl ?_
    refine factC (xs := [.agg #[.int .i64 28, .string (bs []), .int .i64 0, .slice a 2 c]]) hm Tryz.func93 (by kernel_rfl) rfl rfl ?_
    refine wX ?_
    refine call1 (shaped_c ih [101, 115] ([k, s]) (⟨⟨(hin k (by simp)).1, hkv, .inl rfl⟩, ⟨(hin s (by simp)).1, hsv, .inr ⟨rfl, hso⟩⟩, trivial⟩) (by decide) a c hls _ (fun w hw => ⟨hw.1.1, hw.1.2.ls⟩)) ?_
    exact wZ
   ·refine valid_ot rfl rfl rfl rfl ?_
    refine factC (xs := [.agg #[.int .i64 34, .string (bs []), .int .i64 0, .slice a 2 c]]) hm Tryz.func93 (by kernel_rfl) rfl rfl ?_
    refine wX ?_
    refine call1 (shaped_c ih [101, 115] ([k, s]) (⟨⟨(hin k (by simp)).1, hkv, .inl rfl⟩, ⟨(hin s (by simp)).1, hsv, .inr ⟨rfl, hso⟩⟩, trivial⟩) (by decide) a c hls _ (fun w hw => ⟨hw.1.1, hw.1.2.ls⟩)) ?_
    exact wZ
  | and ho hkv hqv =>
   rename_i o a c k q
   rcases ho with rfl | rfl
   ·refine valid_ot rfl rfl rfl rfl ?_
    refine factC (xs := [.agg #[.int .i64 29, .string (bs []), .int .i64 0, .slice a 2 c]]) hm Tryz.func93 (by kernel_rfl) rfl rfl ?_
    refine wX ?_
    refine call1 (shaped_c ih [101, 101] ([k, q]) (⟨⟨(hin k (by simp)).1, hkv, .inl rfl⟩, ⟨(hin q (by simp)).1, hqv, .inl rfl⟩, trivial⟩) (by decide) a c hls _ (fun w hw => ⟨hw.1.1, hw.1.2.ls⟩)) ?_
    exact wZ
   ·refine valid_ot rfl rfl rfl rfl ?_
    refine factC (xs := [.agg #[.int .i64 30, .string (bs []), .int .i64 0, .slice a 2 c]]) hm Tryz.func93 (by kernel_rfl) rfl rfl ?_
    refine wX ?_
    refine call1 (shaped_c ih [101, 101] ([k, q]) (⟨⟨(hin k (by simp)).1, hkv, .inl rfl⟩, ⟨(hin q (by simp)).1, hqv, .inl rfl⟩, trivial⟩) (by decide) a c hls _ (fun w hw => ⟨hw.1.1, hw.1.2.ls⟩)) ?_
    exact wZ
  | not hkv =>
   rename_i a c k
   refine valid_ot rfl rfl rfl rfl ?_
   refine factC (xs := [.agg #[.int .i64 31, .string (bs []), .int .i64 0, .slice a 1 c]]) hm Tryz.func93 (by kernel_rfl) rfl rfl ?_
   refine wX ?_
   refine call1 (shaped_c ih [101] ([k]) (⟨⟨(hin k (by simp)).1, hkv, .inl rfl⟩, trivial⟩) (by decide) a c hls _ (fun w hw => ⟨hw.1.1, hw.1.2.ls⟩)) ?_
   exact wZ
  | cls0 h hsv hso =>
   rename_i x a c s
   have hxl : x.length ≤ 1048576 := hxl
   refine factC (xs := [.agg #[.int .i64 32, .string (bs x), .int .i64 0, .slice a 1 c]]) hm Tryz.func46 (by kernel_rfl) rfl rfl ?_
   refine wX ?_
   refine call1 (IsConst_c x (by omega) _) ?_
   rw [h]
   refine wX ?_
   refine call1 (shaped_c ih [115] ([s]) (⟨⟨(hin s (by simp)).1, hsv, .inr ⟨rfl, hso⟩⟩, trivial⟩) (by decide) a c hls _ (fun w hw => ⟨hw.1.1, hw.1.2.ls⟩)) ?_
   exact wZ
  | cls1 h hkv hsv hso =>
   rename_i x a c k s
   have hxl : x.length ≤ 1048576 := hxl
   refine factC (xs := [.agg #[.int .i64 32, .string (bs x), .int .i64 1, .slice a 2 c]]) hm Tryz.func46 (by kernel_rfl) rfl rfl ?_
   refine wX ?_
   refine call1 (IsConst_c x (by omega) _) ?_
   rw [h]
   refine wX ?_
   refine call1 (shaped_c ih [101, 115] ([k, s]) (⟨⟨(hin k (by simp)).1, hkv, .inl rfl⟩, ⟨(hin s (by simp)).1, hsv, .inr ⟨rfl, hso⟩⟩, trivial⟩) (by decide) a c hls _ (fun w hw => ⟨hw.1.1, hw.1.2.ls⟩)) ?_
   exact wZ
  | modu h hsv hso =>
   rename_i x a c s
   have hxl : x.length ≤ 1048576 := hxl
   refine valid_nm rfl rfl ?_
   refine factC (xs := [.agg #[.int .i64 33, .string (bs x), .int .i64 0, .slice a 1 c]]) hm Tryz.func68 (by kernel_rfl) rfl rfl ?_
   refine wX ?_
   refine call1 (IsConst_c x (by omega) _) ?_
   rw [h]
   refine wX ?_
   refine call1 (shaped_c ih [115] ([s]) (⟨⟨(hin s (by simp)).1, hsv, .inr ⟨rfl, hso⟩⟩, trivial⟩) (by decide) a c hls _ (fun w hw => ⟨hw.1.1, hw.1.2.ls⟩)) ?_
   exact wZ
  | dfn h hn hl hp hsv hso =>
   rename_i x n a c l s
   have hxl : x.length ≤ 1048576 := hxl
   rcases hn with rfl | rfl
   ·-- a node's kind, name, number, length of kids: 35 x 0 (l ++ [s]).length
    refine factC (xs := [.agg #[.int .i64 35, .string (bs x), .int .i64 0, .slice a (l ++ [s]).length c]]) hm Tryz.func46 (by kernel_rfl) rfl rfl ?_
    refine wX ?_
    refine call1 (IsMethod_c x (by omega) _ (fun w hw => hw.1.1)) ?_
    rw [show (opL.contains x || inB x || setB x) = true from h]
    refine wX ?_
    refine call1 (body_c ih (l := l) (s := s) (fun k hk => ⟨(hin k (by simp [hk])).1, hl k hk⟩) hp (hin s (by simp)).1 hsv hso a c hls _ (fun w hw => ⟨hw.1.1, hw.1.2.ls⟩)) ?_
    exact wZ
   ·-- a node's kind, name, number, length of kids: 35 x 1 (l ++ [s]).length
    refine factC (xs := [.agg #[.int .i64 35, .string (bs x), .int .i64 1, .slice a (l ++ [s]).length c]]) hm Tryz.func46 (by kernel_rfl) rfl rfl ?_
    refine wX ?_
    refine call1 (IsMethod_c x (by omega) _ (fun w hw => hw.1.1)) ?_
    rw [show (opL.contains x || inB x || setB x) = true from h]
    refine wX ?_
    refine call1 (body_c ih (l := l) (s := s) (fun k hk => ⟨(hin k (by simp [hk])).1, hl k hk⟩) hp (hin s (by simp)).1 hsv hso a c hls _ (fun w hw => ⟨hw.1.1, hw.1.2.ls⟩)) ?_
    exact wZ
  | ret ho h1 h =>
   rename_i o a c l
   have hd : decide ((l.length : Int) ≤ 1) = true := by rw [decide_eq_true_iff]; omega
   rcases ho with rfl | rfl | rfl
   ·refine valid_ot rfl rfl rfl rfl ?_
    refine factC (xs := [.agg #[.int .i64 36, .string (bs []), .int .i64 0, .slice a l.length c]]) hm Tryz.func93 (by kernel_rfl) rfl rfl ?_
    refine wX ?_
    rw [hd]
    refine wX ?_
    refine call1 (exprs_c ih (l := l) (fun k hk => ⟨(hin k hk).1, h k hk⟩) a c hls _ (fun w hw => ⟨hw.1.1, hw.1.2.ls⟩)) ?_
    exact wZ
   ·refine valid_ot rfl rfl rfl rfl ?_
    refine factC (xs := [.agg #[.int .i64 37, .string (bs []), .int .i64 0, .slice a l.length c]]) hm Tryz.func93 (by kernel_rfl) rfl rfl ?_
    refine wX ?_
    rw [hd]
    refine wX ?_
    refine call1 (exprs_c ih (l := l) (fun k hk => ⟨(hin k hk).1, h k hk⟩) a c hls _ (fun w hw => ⟨hw.1.1, hw.1.2.ls⟩)) ?_
    exact wZ
   ·refine valid_ot rfl rfl rfl rfl ?_
    refine factC (xs := [.agg #[.int .i64 38, .string (bs []), .int .i64 0, .slice a l.length c]]) hm Tryz.func93 (by kernel_rfl) rfl rfl ?_
    refine wX ?_
    rw [hd]
    refine wX ?_
    refine call1 (exprs_c ih (l := l) (fun k hk => ⟨(hin k hk).1, h k hk⟩) a c hls _ (fun w hw => ⟨hw.1.1, hw.1.2.ls⟩)) ?_
    exact wZ
  | begin hsv hso hl he h1 h2 =>
   rename_i a c s l e
   refine valid_ot rfl rfl rfl rfl ?_
   refine factC (xs := [.agg #[.int .i64 40, .string (bs []), .int .i64 0, .slice a (s :: (l ++ e)).length c]]) hm Tryz.func93 (by kernel_rfl) rfl rfl ?_
   refine wX ?_
   refine call1 (begin_c ih (s := s) (rs := l) (es := e) (hin s (by simp)).1 hsv hso (fun k hk => ⟨(hin k (by simp [hk])).1, hl k hk⟩) (fun k hk => ⟨(hin k (by simp [hk])).1, he k hk⟩) h1 h2 a c hls _ (fun w hw => ⟨hw.1.1, hw.1.2.ls⟩)) ?_
   exact wZ
  | alias h hy =>
   rename_i x y a c ay cy
   have hxl : x.length ≤ 1048576 := hxl
   have hyl : y.length ≤ 1048576 := (hin ⟨6, y, 0, ay, [], cy⟩ (by simp)).2.str
   have hsa : a.isSome = true := kid_some (i := 0) hk rfl
   refine valid_nm rfl rfl ?_
   refine factC (xs := [.agg #[.int .i64 43, .string (bs x), .int .i64 0, .slice a 1 c]]) hm Tryz.func68 (by kernel_rfl) rfl rfl ?_
   refine wX ?_
   refine call1 (IsMethod_c x (by omega) _ (fun w hw => hw.1.1)) ?_
   rw [show (opL.contains x || inB x || setB x) = true from h]
   refine wX ?_
   refine call1 (shaped_c ih [101] ([⟨6, y, 0, ay, [], cy⟩]) (⟨⟨(hin ⟨6, y, 0, ay, [], cy⟩ (by simp)).1, .sym (.inl hy), .inl rfl⟩, trivial⟩) (by decide) a c hls _ (fun w hw => ⟨hw.1.1, hw.1.2.ls⟩)) ?_
   refine wX ?_
   refine Nd.mk ⟨hsa, by decide, by decide⟩ ?_
   refine wX ?_
   refine LdN.fld (a := a) (q := 0) (.int .i64 6) rfl (fun w hw => hw.1.2.row) rfl ?_
   refine wX ?_
   refine Nd.mk ⟨hsa, by decide, by decide⟩ ?_
   refine wX ?_
   refine LdN.fld (a := a) (q := 0) (.string (bs y)) rfl (fun w hw => hw.1.2.row) rfl ?_
   refine wX ?_
   refine call1 (IsMethod_c y (by omega) _ (fun w hw => hw.1.1)) ?_
   rw [show (opL.contains y || inB y || setB y) = true from hy]
   exact wZ
  | undef h =>
   rename_i x a c
   have hxl : x.length ≤ 1048576 := hxl
   refine valid_nm rfl rfl ?_
   refine factC (xs := [.agg #[.int .i64 44, .string (bs x), .int .i64 0, .slice a 0 c]]) hm Tryz.func68 (by kernel_rfl) rfl rfl ?_
   refine wX ?_
   refine call1 (leaf_c (⟨44, x, 0, a, [], c⟩ : TP) rfl _) ?_
   refine wX ?_
   refine call1 (IsMethod_c x (by omega) _ (fun w hw => hw.1.1)) ?_
   rw [show (opL.contains x || inB x || setB x) = true from h]
   exact wZ
  | cas hn hkv hl h1 he h2 =>
   rename_i d n a c k l e
   refine factC (xs := [.agg #[.int .i64 46, .string (bs []), .int .i64 n, .slice a (k :: (l ++ e)).length c]]) hm Tryz.func46 (by kernel_rfl) rfl rfl ?_
   refine wX ?_
   refine call1 (cases_c ih d n hn hkv hl h1 he h2 hN hk _ (fun w hw => hw.1)) ?_
   exact wZ
set_option maxHeartbeats 4000000 in
theorem use_c {t : TP} (hk : TreeK t) (hv : V .use t) : Yes 79 t := by
 cases hv with
 | use hkv hp =>
  rename_i a c k
  have hks := (hk.kid (k := k) (List.mem_singleton.2 rfl))
  have hsa : a.isSome = true := kid_some (i := 0) hk rfl
  refine factC (xs := [.agg #[.int .i64 45, .string (bs []), .int .i64 0, .slice a 1 c]]) hm Tryz.func79 (by kernel_rfl) rfl rfl ?_
  refine wX ?_
  refine call1 (Expr_c 45 (by unfold exOp; decide) _) ?_
  refine wX ?_
  refine call1 (valid_ot (t := ⟨45, [], 0, a, [k], c⟩) rfl rfl rfl rfl ?_ _ (fun w hw => hw.1)) ?_
  ·-- .. in other: 45 1
   refine factC (xs := [.agg #[.int .i64 45, .string (bs []), .int .i64 0, .slice a 1 c]]) hm Tryz.func93 (by kernel_rfl) rfl rfl ?_
   refine wX ?_
   refine call1 (shaped_c (valid_c (k.sz + 1)) [101] [k] ⟨⟨by omega, hkv, .inl rfl⟩, trivial⟩ (by decide) a c hk.ls _ (fun w hw => ⟨hw.1.1, hw.1.2.ls⟩)) ?_
   refine wX ?_
   refine Nd.mk ⟨hsa, by decide, by decide⟩ ?_
   refine wX ?_
   refine LdN.agg (a := a) (q := 0) (nodeC k) rfl (fun w hw => hw.1.2.row) rfl (fun j hj => nodesC_get [k] 0 j hj rfl) ?_
   refine wX ?_
   refine call1 (isPath_c k hp hks _ (fun w hw => hw.1.2.kid (List.mem_singleton.2 rfl))) ?_
   exact wZ
  ·exact wZ
set_option maxHeartbeats 4000000 in
theorem top_c {t : TP} (hk : TreeK t) (hv : V .top t) : Yes 20 t := by
 cases hv with
 | top h hu =>
  rename_i a c l
  have hkid : ∀ k ∈ l, Yes 79 k := fun k hkm => by
   by_cases ho : k.op = 45
   ·exact use_c (hk.kid hkm) (hu k hkm ho)
   ·exact expr_c (valid_c (k.sz + 1)) (Nat.lt_succ_self _) (hk.kid hkm) (h k hkm ho)
  have hval : Yes 46 ⟨26, [], 0, a, l, c⟩ := by
   refine valid_ot rfl rfl rfl rfl ?_
   refine factC (xs := [.agg #[.int .i64 26, .string (bs []), .int .i64 0, .slice a l.length c]]) hm Tryz.func93 (by kernel_rfl) rfl rfl ?_
   refine wX ?_
   refine call1 (?_ : SpecH Tryz.prog 83 (pvs [.slice a l.length c]) _ (Ret (.bool true) _)) ?_
   ·refine factC hm Tryz.func83 (by kernel_rfl) rfl rfl ?_ _ (fun w hw => (hw.1 : ScanF w ∧ TreeF w ⟨26, [], 0, a, l, c⟩))
    refine wX ?_
    refine call1 (NoFn_c 117 #[] a l c (fun _ => True) hk.ls (fun k hkm => ?_) _ (fun w hw => ⟨hw.1.1, hw.1.2.ls, trivial⟩)) ?_
    ·refine factC (xs := [nodeV k]) hm Tryz.func117 (by kernel_rfl) rfl rfl ?_
     refine wX ?_
     refine call1 (hkid k hkm _ (fun w hw => ⟨hw.1.1, hw.1.2.1⟩)) ?_
     refine wX ?_
     rfl
    ·refine wX ?_
     rfl
   ·exact wZ
  refine factC (xs := [.agg #[.int .i64 26, .string (bs []), .int .i64 0, .slice a l.length c]]) hm Tryz.func20 (by kernel_rfl) rfl rfl ?_
  refine wX ?_
  refine call1 (hval _ (fun w hw => hw.1)) ?_
  exact wZ
end Go.Proofs.YtpikpjlhdkkigaaGreatDoor
namespace Go.AX
theorem swT {H : List Ent} (i j : Nat) (hi : isA (nthE H i) = true) (hj : isA (nthE H j) = true) (hne : Nat.beq i j = false) : TurnS H (swE H i j) := by
 refine ⟨?_, fun ρ S w hs => ⟨S, hs.swE hi hj hne⟩⟩
 unfold swE
 split <;> simp
end Go.AX
namespace Go.Proofs.YtpikpjlhdkkigaaGreatDoor
open Go.AX Go.RowKit Go.Tree Go.Scan
set_option maxRecDepth 20000
def stN : RvS := ⟨[], [], false, none, 0, none, 0⟩
theorem stN_ok : RvOk stN 0 := ⟨fun d h => (by cases h), Nat.le_refl _, fun _ => rfl, Nat.le_refl _, Nat.le_refl _, fun _ => rfl, Nat.le_refl _, fun d h => (by cases h), by decide⟩
abbrev whole (t : TP) : WR := wk t [0] [[]]
structure ReI where
 rb : Nat
 st : RvS
structure Resd (t : TP) (st : RvS) : Prop where
 ok : RvOk st (1 + 2 * t.sz)
 nm : nmS st.sc = (whole t).nm
 pl : st.pl = (whole t).pl
 un : st.un = (whole t).un
set_option maxHeartbeats 4000000 in
theorem resolve_c (t : TP) (ht : TreeK t) (hz : t.sz ≤ 40000) (A : World → Prop) (hA : ∀ w, A w → TreeF w t) :
  SpecH Tryz.prog 18 (pvs [nodeV t]) [.fact A] (RetG (ι := ReI) (fun i => Resd t i.st) (fun i => .pointer (some ⟨i.rb, 0, none⟩)) fun i => rvE A i.rb i.st) := by
 refine SpecH.pad [.app 56 3 [] none 0 0, .app 59 1 [] none 0 0, .app 35 2 [] none 0 0, .dead, .dead] rfl (SpecH.turnS (famNew 4 rfl).s (SpecH.turnS (famNew 5 rfl).s ?_))
 refine ownT hm Tryz.func18 (by kernel_rfl) rfl rfl (fun _ _ => okHB_eq rfl) (fun _ _ => Nat.le_of_ble_eq_true rfl) ?_
 (conv => whnf)
 refine BoxN.known (nodeC t) rfl fun nb => ?_
 (conv => whnf)
 refine BoxN.known [.slice none 0 0, .slice none 0 0, .bool false] rfl fun rb => ?_
 ((conv => whnf); (repeat ((first | refine VrN.keep ?_ | refine BoxN.own ?_ | refine RwN.own ?_); (conv => whnf))))
 refine DrawN.planC (fun w => SlAt (some ⟨nb, 0, none⟩) 4 (nodeC t) w) [0, 2] [(1, 1), (3, 0), (4, 0)] [] (by decide +kernel) (fun w hw => hw.2.2.2.2.2.2.1) ?_
 refine wXO ?_
 refine ReadC.agg (a := some ⟨nb, 0, none⟩) (q := 0) (nodeC t) rfl rfl rfl (fun w hw => hw) rfl (fun j hj => by rw [Nat.zero_add]) ?_
 refine wXO ?_
 refine callG (open_c A rb stN stN_ok none) [0, 7, 2, 3, 4, 5] rfl ⟨rfl, rfl, rfl, rfl, rfl, rfl, trivial⟩ rfl fun j hj => ?_
 obtain ⟨b, sb, c⟩ := j
 refine wXO ?_
 refine callG (walk_c t ht A hA rb (opened stN b none sb c) 1 [0] (some b) (stN_ok.opened (by decide) hj) (by omega) ⟨⟨b, none, 0, none, []⟩, rfl, rfl, rfl⟩ (by simp)) [0, 7, 2, 3, 4, 5] rfl ⟨rfl, rfl, rfl, rfl, rfl, rfl, trivial⟩ rfl fun st1 w1 => ?_
 refine wXO ?_
 refine wX ?_
 refine ⟨_, swT 1 7 rfl rfl rfl, ⟨rb, st1⟩, ⟨w1.ok, w1.nm, w1.pl, ?_⟩, rfl, ?_⟩
 ·rw [w1.un]
  rfl
 ·exact ⟨wkE_refl _, wkE_refl _, wkE_refl _, wkE_refl _, wkE_refl _, wkE_refl _, wkH_nil _⟩
end Go.Proofs.YtpikpjlhdkkigaaGreatDoor
namespace Go.Proofs.YtpikpjlhdkkigaaGreatDoor
open Go.AX Go.RowKit Go.Tree Go.Scan
set_option maxRecDepth 20000
noncomputable def chkV (t : TP) : Int := open Classical in if Fit 3000 1 [t] then (if (whole t).un then 6 else 0) else 2
set_option maxHeartbeats 4000000 in
theorem Check_c (t : TP) (ht : TreeK t) (hv : Fit 3000 1 [t] → V .top t) : ∀ H, (∀ w, Facts H w → ScanF w ∧ TreeF w t) → SpecH Tryz.prog 10 (pvs [nodeV t]) H (Ret (.int .i64 (chkV t)) H) := by
 refine factC hm Tryz.func10 (by kernel_rfl) rfl rfl ?_
 have hs1 : szs [t] = t.sz := by simp [szs]
 have hkl := ht.len
 (conv => whnf)
 refine BoxN.own ?_
 (conv => whnf)
 refine BoxN.known [.int .i64 0] rfl fun lb => ?_
 refine wX ?_
 refine EffW.appTo (i := 2) (q := 0) (ys := [_]) [.int .i64 3000] 1 rfl rfl rfl rfl rfl rfl rfl (Nat.le_of_ble_eq_true rfl) rfl rfl ?_
 refine wX ?_
 refine callG (small_c t ht lb 3000 1 ⟨by decide, by decide⟩ ⟨by decide, by decide⟩ (fun w => ScanF w ∧ TreeF w t) (fun w hw => hw.2)) [0, 2] rfl ⟨rfl, rfl, trivial⟩ rfl fun i hi => ?_
 obtain ⟨b, z⟩ := i
 obtain ⟨h1, _, _, _⟩ := hi
 cases b with
 | false =>
  have hnf : ¬ Fit 3000 1 [t] := fun h => by cases h1.2 h
  refine wX ?_
  rw [chkV, if_neg hnf]
 | true =>
  have hf : Fit 3000 1 [t] := h1.1 rfl
  have hvt := hv hf
  have hz : (szs [t] : Int) ≤ 3000 := hf.1
  refine wX ?_
  refine call1 (top_c ht hvt _ (fun w hw => hw.1)) ?_
  refine wX ?_
  have hfl : ∀ l : List TP, (l.filter fun k => k.op == 45).length ≤ l.length := fun l => List.length_filter_le _ _
  refine LoopN.intro Nat (fun i => i ≤ t.kids.length)
   (fun i => mkS Tryz.f10.ntmps 0 [(1, .c (.lp 1 0)), (2, .c (.v (.int .i64 0))), (4, .c (.v (.int .i64 (((t.kids.take i).filter fun k => k.op == 45).length : Int)))), (15, .c (.v (.slice t.a t.kids.length t.cap))), (16, .c (.v (.int .i64 (t.kids.length : Int)))), (17, .c (.v (.int .i64 (i : Int))))])
   (fun _ => [.fact (fun w => ScanF w ∧ TreeF w t), .blk 25 (vs (nodeC t)), .dead]) (fun i => t.kids.length - i) [] rfl (fun _ => rfl) (fun _ => rfl) (fun _ _ => okHB_eq rfl)
   ⟨0, Nat.zero_le _, ?_, ⟨fun _ h => h, wkE_refl _, trivial, wkH_nil _⟩⟩ ?_
  ·exact wKK
  intro i hi
  have hti := hfl (t.kids.take i)
  have htl : (t.kids.take i).length ≤ t.kids.length := by rw [List.length_take]; omega
  refine wX ?_
  refine brd_dec (fun h2 => ?_) (fun h2 => ?_)
  ·obtain ⟨k, hk⟩ : ∃ k, t.kids[i]? = some k := ⟨_, List.getElem?_eq_getElem (by omega)⟩
   have hsa := kid_some ht hk
   refine wX ?_
   refine Nd.mk ⟨hsa, by omega, by omega⟩ ?_
   refine wX ?_
   refine LdN.agg (nodeC k) rfl (fun w hw => hw.1.2.row) rfl (fun j hj => by rw [Int.toNat_natCast]; exact nodesC_get t.kids i j hj hk) ?_
   refine wX ?_
   have hfs : ((t.kids.take (i + 1)).filter fun k => k.op == 45) = ((t.kids.take i).filter fun k => k.op == 45) ++ (if k.op = 45 then [k] else []) := by
    rw [take_snoc hk, List.filter_append]
    by_cases h : k.op = 45 <;> simp [h]
   refine brd_eq (fun h3 => ?_) (fun h3 => ?_)
   ·rw [if_pos h3] at hfs
    refine wX ?_
    refine ⟨i + 1, by omega, by show t.kids.length - (i + 1) < t.kids.length - i; omega, ?_, ?_⟩
    ·(repeat' (first | exact trivial | refine And.intro (by with_reducible rfl) ?_ | (with_reducible exact wkC_refl _) | (with_reducible exact wkCs_refl _) | refine And.intro ?_ ?_))
     all_goals first | rfl | exact av_int (by rw [hfs, List.length_append]; rfl) | exact av_int (by rw [wrap_i64 (by omega)]; omega)
    ·exact ⟨fun _ h => h, wkE_refl _, trivial, wkH_nil _⟩
   ·rw [if_neg h3, List.append_nil] at hfs
    refine wX ?_
    refine ⟨i + 1, by omega, by show t.kids.length - (i + 1) < t.kids.length - i; omega, ?_, ?_⟩
    ·(repeat' (first | exact trivial | refine And.intro (by with_reducible rfl) ?_ | (with_reducible exact wkC_refl _) | (with_reducible exact wkCs_refl _) | refine And.intro ?_ ?_))
     all_goals first | rfl | exact av_int (by rw [hfs]) | exact av_int (by rw [wrap_i64 (by omega)]; omega)
    ·exact ⟨fun _ h => h, wkE_refl _, trivial, wkH_nil _⟩
  ·have hie : i = t.kids.length := by omega
   rw [hie, List.take_length, ← hvt.top_us]
   refine wX ?_
   refine call1 (usings_c t ht (by omega) _ (fun w hw => hw.1.2)) ?_
   refine wX ?_
   refine brd_ne (fun h => absurd rfl h) (fun _ => ?_)
   refine wX ?_
   refine callG (resolve_c t ht (by omega) (fun w => ScanF w ∧ TreeF w t) (fun w h => h.2)) [0] rfl ⟨rfl, trivial⟩ rfl fun j hj => ?_
   obtain ⟨rb, st⟩ := j
   have hu := hj.un
   refine wX ?_
   refine LdN.one (a := some ⟨rb, 0, none⟩) (q := 2) (.bool st.un) rfl (fun w hw => hw.2.1) rfl ?_
   refine wX ?_
   have hv6 : chkV t = if st.un then 6 else 0 := by rw [chkV, if_pos hf, ← hu]
   refine brd_intro (fun h6 => ?_) (fun h6 => ?_)
   ·rw [h6] at hv6
    refine wX ?_
    rw [hv6]
    rfl
   ·rw [h6] at hv6
    refine wX ?_
    rw [hv6]
    rfl
def sizeV (t : TP) : Value := .tuple #[.int .i64 (t.sz : Int), .int .i64 (t.dp : Int)]
theorem take_dps {l : List TP} {i : Nat} {k : TP} (hk : l[i]? = some k) : dps (l.take (i + 1)) = max (dps (l.take i)) k.dp := by
 rw [take_snoc hk]
 have : ∀ m : List TP, dps (m ++ [k]) = max (dps m) k.dp := fun m => by
  induction m with
  | nil => simp [dps]
  | cons q m ih => rw [List.cons_append, dps, dps, ih, Nat.max_assoc]
 exact this _
theorem dps_le (l : List TP) : dps l ≤ szs l := by
 induction l with
 | nil => exact Nat.le_refl _
 | cons k l ih =>
  have : k.dp ≤ k.sz := TP.ind (P := fun k => k.dp ≤ k.sz) (fun k ihk => by
   rw [dp_eq, sz_eq]
   have : ∀ m : List TP, (∀ q ∈ m, q.dp ≤ q.sz) → dps m ≤ szs m := fun m hm => by
    induction m with
    | nil => exact Nat.le_refl _
    | cons q m ihm =>
     have h1 := hm q (List.mem_cons_self ..)
     have h2 := ihm fun p hp => hm p (List.mem_cons_of_mem _ hp)
     rw [dps, szs]
     omega
   have := this k.kids ihk
   omega) k
  rw [dps, szs]
  omega
theorem RSize_c : ∀ t : TP, TreeK t → t.sz ≤ 1000000 → ∀ H, (∀ w, Facts H w → TreeF w t) → SpecH Tryz.prog 23 (pvs [nodeV t]) H (Ret (sizeV t) H) := by
 refine TP.ind fun t ih ht hs => ?_
 refine factC hm Tryz.func23 (by kernel_rfl) rfl rfl ?_
 have hl := ht.len
 have hsz := sz_eq t
 have hdp := dp_eq t
 refine wX ?_
 refine loopS Nat (fun i => i ≤ t.kids.length) (fun i => mkS Tryz.f23.ntmps 0 [(1, .c (.lp 1 0)), (2, .c (.v (.int .i64 0))), (3, .c (.v (.int .i64 0))), (4, .c (.v (.int .i64 ((1 + szs (t.kids.take i) : Nat) : Int)))), (5, .c (.v (.int .i64 (dps (t.kids.take i) : Int)))), (6, .c (.v (.int .i64 (i : Int))))]) (fun i => t.kids.length - i) rfl (fun _ => rfl) 0 (Nat.zero_le _) ?_ fun i hi => ?_
 ·exact wKK
 have hti := szs_take t.kids i
 have hdl := dps_le (t.kids.take i)
 refine wX ?_
 refine brd_dec (fun h1 => ?_) (fun h1 => ?_)
 ·-- the kid; $1: its contract's name
  obtain ⟨k, hk⟩ : ∃ k, t.kids[i]? = some k := ⟨_, List.getElem?_eq_getElem (by omega)⟩
  have hsa := kid_some ht hk
  have hkm := List.mem_of_getElem? hk
  have hks := sz_kid hkm
  have htk := take_szs hk
  have htd := take_dps hk
  have hti1 := szs_take t.kids (i + 1)
  have hdl1 := dps_le (t.kids.take (i + 1))
  refine wX ?_
  refine Nd.mk ⟨hsa, by omega, by omega⟩ ?_
  refine wX ?_
  refine LdN.agg (nodeC k) rfl (fun w hw => hw.1.row) rfl (fun j hj => by rw [Int.toNat_natCast]; exact nodesC_get t.kids i j hj hk) ?_
  refine wX ?_
  refine call1 (ih k hkm (ht.kid hkm) (by omega) _ (fun w hw => hw.1.kid hkm)) ?_
  refine wX ?_
  refine ⟨i + 1, by show i + 1 ≤ _; omega, by show t.kids.length - (i + 1) < t.kids.length - i; omega, ?_, wHH⟩
  (repeat' (first | exact trivial | refine And.intro (by with_reducible rfl) ?_ | (with_reducible exact wkC_refl _) | (with_reducible exact wkCs_refl _) | refine And.intro ?_ ?_))
  all_goals first | rfl | exact av_int (by unfold maxI; rw [htd]; split <;> omega) | exact av_int (by rw [htk]; omega) | exact av_int (by rw [wrap_i64 (by omega)]; omega) | exact av_int (by rw [htk, wrap_i64 (by omega)]; omega) | exact av_int (by omega)
 ·have hie : i = t.kids.length := by omega
  rw [hie, List.take_length]
  rw [hie, List.take_length] at hdl
  refine wX ?_
  unfold sizeV
  rw [hsz, hdp, Nat.add_comm 1 (dps t.kids)]
  rfl
theorem Size_c : ∀ t : TP, TreeK t → t.sz ≤ 1000000 → ∀ H, (∀ w, Facts H w → TreeF w t) → SpecH Tryz.prog 22 (pvs [nodeV t]) H (Ret (sizeV t) H) := by
 refine TP.ind fun t ih ht hs => ?_
 refine factC hm Tryz.func22 (by kernel_rfl) rfl rfl ?_
 have hl := ht.len
 have hsz := sz_eq t
 have hdp := dp_eq t
 refine wX ?_
 refine loopS Nat (fun i => i ≤ t.kids.length) (fun i => mkS Tryz.f22.ntmps 0 [(1, .c (.lp 1 0)), (2, .c (.v (.int .i64 ((1 + szs (t.kids.take i) : Nat) : Int)))), (3, .c (.v (.int .i64 (dps (t.kids.take i) : Int)))), (9, .c (.v (.slice t.a t.kids.length t.cap))), (10, .c (.v (.int .i64 (t.kids.length : Int)))), (11, .c (.v (.int .i64 (i : Int))))]) (fun i => t.kids.length - i) rfl (fun _ => rfl) 0 (Nat.zero_le _) ?_ fun i hi => ?_
 ·exact wKK
 have hti := szs_take t.kids i
 have hdl := dps_le (t.kids.take i)
 refine wX ?_
 refine brd_dec (fun h1 => ?_) (fun h1 => ?_)
 ·-- the kid; $1: its contract's name
  obtain ⟨k, hk⟩ : ∃ k, t.kids[i]? = some k := ⟨_, List.getElem?_eq_getElem (by omega)⟩
  have hsa := kid_some ht hk
  have hkm := List.mem_of_getElem? hk
  have hks := sz_kid hkm
  have htk := take_szs hk
  have htd := take_dps hk
  have hti1 := szs_take t.kids (i + 1)
  have hdl1 := dps_le (t.kids.take (i + 1))
  refine wX ?_
  refine Nd.mk ⟨hsa, by omega, by omega⟩ ?_
  refine wX ?_
  refine LdN.agg (nodeC k) rfl (fun w hw => hw.1.row) rfl (fun j hj => by rw [Int.toNat_natCast]; exact nodesC_get t.kids i j hj hk) ?_
  refine wX ?_
  refine call1 (ih k hkm (ht.kid hkm) (by omega) _ (fun w hw => hw.1.kid hkm)) ?_
  refine wX ?_
  refine ⟨i + 1, by show i + 1 ≤ _; omega, by show t.kids.length - (i + 1) < t.kids.length - i; omega, ?_, wHH⟩
  (repeat' (first | exact trivial | refine And.intro (by with_reducible rfl) ?_ | (with_reducible exact wkC_refl _) | (with_reducible exact wkCs_refl _) | refine And.intro ?_ ?_))
  all_goals first | rfl | exact av_int (by unfold maxI; rw [htd]; split <;> omega) | exact av_int (by rw [htk]; omega) | exact av_int (by rw [wrap_i64 (by omega)]; omega) | exact av_int (by rw [htk, wrap_i64 (by omega)]; omega) | exact av_int (by omega)
 ·have hie : i = t.kids.length := by omega
  rw [hie, List.take_length]
  rw [hie, List.take_length] at hdl
  refine wX ?_
  unfold sizeV
  rw [hsz, hdp, Nat.add_comm 1 (dps t.kids)]
  rfl
inductive Tn : TP → Prop
 | nil {a c} : Tn ⟨0, [], 0, a, [], c⟩
 | int {a c} : Tn ⟨4, [], 1, a, [], c⟩
 | seq {a l c} (h : ∀ k ∈ l, Tn k) : Tn ⟨26, [], 0, a, l, c⟩
def YesR (f : FuncId) (t : TP) : Prop := ∀ H, (∀ w, Facts H w → TreeF w t) → SpecH Tryz.prog f (pvs [nodeV t]) H (Ret (.bool true) H)
theorem Rplain_c (o : Int) (a : Option Addr) (n c : Nat) : ∀ H, (∀ w, Facts H w → True) → SpecH Tryz.prog 69 (pvs [.agg #[.int .i64 o, .string (bs []), .int .i64 0, .slice a n c]]) H (Ret (.bool true) H) := by
 refine factC hm Tryz.func69 (by kernel_rfl) rfl rfl ?_
 refine wX ?_
 all_goals rfl
theorem Rin_c : ∀ H, (∀ w, Facts H w → True) → SpecH Tryz.prog 94 (pvs [.int .i64 1, .int .i64 (-1000000000000000), .int .i64 1000000000000000]) H (Ret (.bool true) H) := by
 refine factC hm Tryz.func94 (by kernel_rfl) rfl rfl ?_
 refine wX ?_
 all_goals rfl
theorem Rexprs_c (a : Option Addr) (l : List TP) (cap : Nat) (hl : LsK a cap l) (h : ∀ k ∈ l, YesR 71 k) : ∀ H, (∀ w, Facts H w → LsF a l w) → SpecH Tryz.prog 100 (pvs [.slice a l.length cap]) H (Ret (.bool true) H) := by
 refine factC hm Tryz.func100 (by kernel_rfl) rfl rfl ?_
 have hll := hl.len
 refine wX ?_
 refine loopS Nat (fun i => i ≤ l.length) (fun i => mkS Tryz.f100.ntmps 0 [(0, .c (.v (.slice a l.length cap))), (2, .c (.v (.bool false))), (3, .c (.v (.int .i64 (i : Int))))]) (fun i => l.length - i) rfl (fun _ => rfl) 0 (Nat.zero_le _) ?_ fun i hi => ?_
 ·exact wKK
 refine wX ?_
 refine brd_dec (fun h1 => ?_) (fun h1 => ?_)
 ·obtain ⟨k, hk⟩ : ∃ k, l[i]? = some k := ⟨_, List.getElem?_eq_getElem (by omega)⟩
  have hsa := isT hl.nil hk
  have hkm := List.mem_of_getElem? hk
  refine wX ?_
  refine Nd.mk ⟨hsa, by omega, by omega⟩ ?_
  refine wX ?_
  refine LdN.agg (nodeC k) rfl (fun w hw => hw.1.1) rfl (fun j hj => by rw [Int.toNat_natCast]; exact nodesC_get l i j hj hk) ?_
  refine wX ?_
  refine call1 (h k hkm _ (fun w hw => hw.1.2 k hkm)) ?_
  refine wX ?_
  refine ⟨i + 1, by show i + 1 ≤ _; omega, by show l.length - (i + 1) < l.length - i; omega, ?_, wHH⟩
  exact wKK
 ·exact wZ
theorem Rvalid_c : ∀ t, Tn t → TreeK t → YesR 71 t := by
 refine TP.ind fun t ih hn ht => ?_
 cases hn with
 | nil =>
  rename_i a c
  refine factC (xs := [.agg #[.int .i64 0, .string (bs []), .int .i64 0, .slice a 0 c]]) hm Tryz.func71 (by kernel_rfl) rfl rfl ?_
  refine wX ?_
  refine call1 (Rplain_c 0 a 0 c _ (fun w hw => trivial)) ?_
  refine wX ?_
  all_goals rfl
 | int =>
  rename_i a c
  refine factC (xs := [.agg #[.int .i64 4, .string (bs []), .int .i64 1, .slice a 0 c]]) hm Tryz.func71 (by kernel_rfl) rfl rfl ?_
  refine wX ?_
  refine call1 (Rin_c _ (fun w hw => trivial)) ?_
  refine wX ?_
  all_goals rfl
 | seq h =>
  rename_i a l c
  refine factC (xs := [.agg #[.int .i64 26, .string (bs []), .int .i64 0, .slice a l.length c]]) hm Tryz.func71 (by kernel_rfl) rfl rfl ?_
  refine wX ?_
  refine call1 (Rplain_c 26 a l.length c _ (fun w hw => trivial)) ?_
  refine wX ?_
  refine call1 (Rexprs_c a l c ht.ls (fun k hk => ih k hk (h k hk) (ht.kid hk)) _ (fun w hw => hw.1.ls)) ?_
  exact wZ
def NodeC (t : TP) : Prop := Tn t → TreeK t → ∀ (a s : Option Addr) (n c : Nat), ∀ H, (∀ w, Facts H w → TreeF w t) → SpecH Tryz.prog 72 (pvs [.pointer a, nodeV t, .slice s n c]) H (Ret (.tuple #[]) H)
theorem Rall_c (p : Option Addr) (a : Option Addr) (l : List TP) (cap : Nat) (hl : LsK a cap l) (ht : ∀ k ∈ l, Tn k) (h : ∀ k ∈ l, NodeC k) (s : Option Addr) (n c : Nat) : ∀ H, (∀ w, Facts H w → LsF a l w) → SpecH Tryz.prog 111 (pvs [.pointer p, .slice a l.length cap, .slice s n c]) H (Ret (.tuple #[]) H) := by
 refine factC hm Tryz.func111 (by kernel_rfl) rfl rfl ?_
 have hll := hl.len
 refine wX ?_
 refine loopS Nat (fun i => i ≤ l.length) (fun i => mkS Tryz.f111.ntmps 0 [(0, .c (.v (.pointer p))), (1, .c (.v (.slice a l.length cap))), (2, .c (.v (.slice s n c))), (6, .c (.v (.int .i64 (i : Int))))]) (fun i => l.length - i) rfl (fun _ => rfl) 0 (Nat.zero_le _) ?_ fun i hi => ?_
 ·exact wKK
 refine wX ?_
 refine brd_dec (fun h1 => ?_) (fun h1 => ?_)
 ·obtain ⟨k, hk⟩ : ∃ k, l[i]? = some k := ⟨_, List.getElem?_eq_getElem (by omega)⟩
  have hsa := isT hl.nil hk
  have hkm := List.mem_of_getElem? hk
  refine wX ?_
  refine Nd.mk ⟨hsa, by omega, by omega⟩ ?_
  refine wX ?_
  refine LdN.agg (nodeC k) rfl (fun w hw => hw.1.1) rfl (fun j hj => by rw [Int.toNat_natCast]; exact nodesC_get l i j hj hk) ?_
  refine wX ?_
  refine call1 (h k hkm (ht k hkm) (hl.k k hkm) p s n c _ (fun w hw => hw.1.2 k hkm)) ?_
  refine wX ?_
  refine ⟨i + 1, by show i + 1 ≤ _; omega, by show l.length - (i + 1) < l.length - i; omega, ?_, wHH⟩
  exact wKK
 ·exact wZ
theorem Rnode_c : ∀ t, NodeC t := by
 refine TP.ind fun t ih hn ht p s n c => ?_
 cases hn with
 | nil =>
  rename_i a c'
  refine factC (xs := [.pointer p, .agg #[.int .i64 0, .string (bs []), .int .i64 0, .slice a 0 c'], .slice s n c]) hm Tryz.func72 (by kernel_rfl) rfl rfl ?_
  refine wX ?_
  refine call1 (Rall_c p a [] c' ht.ls (fun k hk => by cases hk) (fun k hk => by cases hk) s n c _ (fun w hw => hw.1.ls)) ?_
  exact wZ
 | int =>
  rename_i a c'
  refine factC (xs := [.pointer p, .agg #[.int .i64 4, .string (bs []), .int .i64 1, .slice a 0 c'], .slice s n c]) hm Tryz.func72 (by kernel_rfl) rfl rfl ?_
  refine wX ?_
  refine call1 (Rall_c p a [] c' ht.ls (fun k hk => by cases hk) (fun k hk => by cases hk) s n c _ (fun w hw => hw.1.ls)) ?_
  exact wZ
 | seq h =>
  rename_i a l c'
  refine factC (xs := [.pointer p, .agg #[.int .i64 26, .string (bs []), .int .i64 0, .slice a l.length c'], .slice s n c]) hm Tryz.func72 (by kernel_rfl) rfl rfl ?_
  refine wX ?_
  refine call1 (Rall_c p a l c' ht.ls h (fun k hk => ih k hk) s n c _ (fun w hw => hw.1.ls)) ?_
  exact wZ
theorem Rprogram_c (a : Option Addr) (l : List TP) (c : Nat) (ht : TreeK ⟨26, [], 0, a, l, c⟩) (hn : ∀ k ∈ l, Tn k) : YesR 47 ⟨26, [], 0, a, l, c⟩ := by
 refine factC (xs := [.agg #[.int .i64 26, .string (bs []), .int .i64 0, .slice a l.length c]]) hm Tryz.func47 (by kernel_rfl) rfl rfl ?_
 have hll : l.length ≤ 1048576 := ht.len
 refine wX ?_
 refine call1 (Rplain_c 26 a l.length c _ (fun w hw => trivial)) ?_
 refine wX ?_
 refine loopS Nat (fun i => i ≤ l.length) (fun i => mkS Tryz.f47.ntmps 0 [(1, .c (.lp 1 0)), (2, .c (.v (.bool false))), (3, .c (.v (.int .i64 (i : Int))))]) (fun i => l.length - i) rfl (fun _ => rfl) 0 (Nat.zero_le _) ?_ fun i hi => ?_
 ·exact wKK
 refine wX ?_
 refine brd_dec (fun h1 => ?_) (fun h1 => ?_)
 ·obtain ⟨k, hk⟩ : ∃ k, l[i]? = some k := ⟨_, List.getElem?_eq_getElem (by omega)⟩
  have hsa := isT ht.ls.nil hk
  have hkm := List.mem_of_getElem? hk
  have hko : k.op ≠ 45 := by
   cases hn k hkm <;> (intro h; cases h)
  refine wX ?_
  refine Nd.mk ⟨hsa, by omega, by omega⟩ ?_
  refine wX ?_
  refine LdN.agg (nodeC k) rfl (fun w hw => hw.1.row) rfl (fun j hj => by rw [Int.toNat_natCast]; exact nodesC_get l i j hj hk) ?_
  refine wX ?_
  refine brd_eq (fun h => absurd h hko) (fun _ => ?_)
  refine wX ?_
  refine call1 (Rvalid_c k (hn k hkm) (ht.kid hkm) _ (fun w hw => hw.1.kid hkm)) ?_
  refine wX ?_
  refine ⟨i + 1, by show i + 1 ≤ _; omega, by show l.length - (i + 1) < l.length - i; omega, ?_, wHH⟩
  exact wKK
 ·exact wZ
structure OpdI where
 sb : Nat
 sc : Nat
 qb : Nat
 qc : Nat
set_option maxHeartbeats 4000000 in
theorem opened_c (wb : Nat) : SpecH Tryz.prog 73 (pvs [.pointer (some ⟨wb, 0, none⟩), .slice none 0 0]) [.app 85 3 [.slice none 0 0, .slice none 0 0, .bool true] (some ⟨wb, 0, none⟩) 1 1]
  (RetG (ι := OpdI) (fun _ => True) (fun i => .slice (some ⟨i.qb, 0, none⟩) 1 i.qc) fun i => [.app 85 3 [.slice (some ⟨i.sb, 0, none⟩) 1 i.sc, .slice none 0 0, .bool true] (some ⟨wb, 0, none⟩) 1 1]) := by
 refine ownC hm Tryz.func73 (by kernel_rfl) rfl rfl (fun _ _ => okHB_eq rfl) (fun _ _ => Nat.le_of_ble_eq_true rfl) ?_
 refine wX ?_
 refine LdN.one (a := some ⟨wb, 0, none⟩) (q := 0) (.slice none 0 0) rfl (fun w hw => hw.1) rfl ?_
 refine wX ?_
 refine AppN.new [.slice none 0 0] ⟨rfl, rfl, rfl⟩ rfl ⟨Nat.le_refl 1, ⟨by show (0 + 1) * 24 ≤ _; omega, by omega⟩, by decide⟩ fun sb sc g1 g2 => ?_
 refine wX ?_
 refine EffW.appTo (i := 0) (q := 0) (ys := [_]) [.slice (some ⟨sb, 0, none⟩) 1 sc, .slice none 0 0, .bool true] 3 rfl rfl rfl rfl rfl rfl rfl (Nat.le_of_ble_eq_true rfl) rfl rfl ?_
 (conv => whnf)
 refine DrawN.tree [1, 3, 4, 5] (.cons 0 (.cons 2 (.cons 6 (.cons 7 (.cons 8 (.cons 9 (.cons 10 (.cons 11 .nil .nil) .nil) .nil) .nil) .nil) .nil) (.cons 6 (.cons 2 (.cons 7 (.cons 8 (.cons 9 (.cons 10 (.cons 11 .nil .nil) .nil) .nil) .nil) .nil) (.cons 7 (.cons 2 (.cons 8 (.cons 9 (.cons 10 (.cons 11 .nil .nil) .nil) .nil) .nil) (.cons 8 (.cons 2 (.cons 9 (.cons 10 (.cons 11 .nil .nil) .nil) .nil) (.cons 9 (.cons 2 (.cons 10 (.cons 11 .nil .nil) .nil) .nil) .nil)) .nil)) .nil)) .nil)) (.cons 6 (.cons 0 (.cons 2 (.cons 7 (.cons 8 (.cons 9 (.cons 10 (.cons 11 .nil .nil) .nil) .nil) .nil) .nil) (.cons 7 (.cons 2 (.cons 8 (.cons 9 (.cons 10 (.cons 11 .nil .nil) .nil) .nil) .nil) (.cons 8 (.cons 2 (.cons 9 (.cons 10 (.cons 11 .nil .nil) .nil) .nil) (.cons 9 (.cons 2 (.cons 10 (.cons 11 .nil .nil) .nil) .nil) .nil)) .nil)) .nil)) (.cons 7 (.cons 0 (.cons 2 (.cons 8 (.cons 9 (.cons 10 (.cons 11 .nil .nil) .nil) .nil) .nil) (.cons 8 (.cons 2 (.cons 9 (.cons 10 (.cons 11 .nil .nil) .nil) .nil) (.cons 9 (.cons 2 (.cons 10 (.cons 11 .nil .nil) .nil) .nil) .nil)) .nil)) (.cons 8 (.cons 0 (.cons 2 (.cons 9 (.cons 10 (.cons 11 .nil .nil) .nil) .nil) (.cons 9 (.cons 2 (.cons 10 (.cons 11 .nil .nil) .nil) .nil) .nil)) (.cons 9 (.cons 0 (.cons 2 (.cons 10 (.cons 11 .nil .nil) .nil) .nil) .nil) .nil)) .nil)) .nil)) .nil)) 8 (by decide +kernel) ?_
 (conv => whnf)
 repeat' (first | refine And.intro ?_ ?_ | (refine LdN.one (a := some ⟨wb, 0, none⟩) (q := 0) (.slice (some ⟨sb, 0, none⟩) 1 sc) rfl (fun w hw => hw.1) rfl ?_; conv => whnf) | (refine RwN.known [] rfl fun rb => ?_; conv => whnf) | (refine RwN.own ?_; conv => whnf) | (refine VrN.norm (wrap_i64 (by omega)) ?_; conv => whnf) | (refine VrN.keep ?_; conv => whnf) | (refine Nd.mk (by decide +kernel) ?_; conv => whnf) | (refine Nd.mk (by omega) ?_; conv => whnf))
 all_goals first | refine AppN.grow 3 [] [.int .i64 0] rfl rfl ⟨Nat.le_refl 1, ⟨by show (0 + 1) * 8 ≤ _; omega, by omega⟩, by decide⟩ fun qb qc h1 h2 => ?_ | refine AppN.grow 4 [] [.int .i64 0] rfl rfl ⟨Nat.le_refl 1, ⟨by show (0 + 1) * 8 ≤ _; omega, by omega⟩, by decide⟩ fun qb qc h1 h2 => ?_
 all_goals (first | refine wX ?_ | exact wZ)
 all_goals exact ⟨⟨sb, sc, qb, qc⟩, trivial, rfl, ⟨wkE_refl _, wkH_nil _⟩⟩
set_option maxHeartbeats 4000000 in
theorem Rwalked_c (t : TP) (hn : Tn t) (ht : TreeK t) : ∀ H, (∀ w, Facts H w → TreeF w t) → SpecH Tryz.prog 48 (pvs [nodeV t]) H (RetR (fun x => ∃ u v : Value, x = .agg #[u, v, .bool true]) H) := by
 refine factR hm Tryz.func48 (by kernel_rfl) rfl rfl ?_
 (conv => whnf)
 refine BoxN.known (nodeC t) rfl fun nb => ?_
 (conv => whnf)
 refine BoxN.own ?_
 (conv => whnf)
 refine BoxN.known [.slice none 0 0, .slice none 0 0, .bool false] rfl fun wb => ?_
 (conv => whnf)
 refine EffW.appTo (i := 3) (q := 0) (ys := [.slice none 0 0, .slice none 0 0, .bool true]) [.slice none 0 0, .slice none 0 0, .bool true] 3 rfl rfl rfl rfl rfl rfl rfl (Nat.le_of_ble_eq_true rfl) rfl rfl ?_
 ((conv => whnf); (repeat ((first | refine VrN.keep ?_ | refine BoxN.own ?_ | refine RwN.own ?_); (conv => whnf))))
 refine DrawN.planC (fun w => SlAt (some ⟨nb, 0, none⟩) 4 (nodeC t) w) [] [(0, 1), (1, 0), (2, 0)] [] (by decide +kernel) (fun w hw => hw.2.1) ?_
 refine wXO ?_
 refine ReadC.agg (a := some ⟨nb, 0, none⟩) (q := 0) (nodeC t) rfl rfl rfl (fun w hw => hw) rfl (fun j hj => by rw [Nat.zero_add]) ?_
 refine wXO ?_
 refine callG (opened_c wb) [3] rfl ⟨rfl, trivial⟩ rfl fun j hj => ?_
 obtain ⟨sb, sc, qb, qc⟩ := j
 refine wXO ?_
 refine call1 (Rnode_c t hn ht _ _ _ _ _ (fun w hw => hw.1)) ?_
 refine wXO ?_
 refine wX ?_
 refine LdN.agg (a := some ⟨wb, 0, none⟩) (q := 0) [.slice (some ⟨sb, 0, none⟩) 1 sc, .slice none 0 0, .bool true] rfl (fun w hw => hw.2.2.1) rfl (fun j hj => by rw [Nat.zero_add]) ?_
 refine wX ?_
 exact ⟨_, rfl, _, _, rfl⟩
def slV (d : ScD) : Value := .slice (at0 d.na) d.l.length d.nc
def slsC (sc : List ScD) : List Value := sc.map slV
abbrev TrF (t : TP) (w : World) : Prop := ScanF w ∧ TreeF w t
def ScopesR (t : TP) (v : Value) (G : World → Prop) : Prop :=
 if chkV t = 0 then ∃ (sc : List ScD) (a : Option Addr) (cap : Nat), v = .tuple #[.slice a sc.length cap, .int .i64 0] ∧ nmS sc = (whole t).nm ∧ sc.length ≤ cap ∧ sc.length ≤ 100000 ∧ (∀ d ∈ sc, ScOk d) ∧ (a = none → sc = []) ∧ ∀ w, G w → SlAt a sc.length (slsC sc) w ∧ ∀ d ∈ sc, SlAt (at0 d.na) d.l.length (strsC d.l) w
 else v = .tuple #[.slice none 0 0, .int .i64 (chkV t)]
structure ScI where
 i : Nat
 a : Option Addr
 cap : Nat
set_option maxHeartbeats 4000000 in
theorem Scopes_c (t : TP) (ht : TreeK t) (hv : Fit 3000 1 [t] → V .top t) : SpecF Tryz.prog 7 [nodeV t] (TrF t) (ScopesR t) := by
 refine specF hm Tryz.func7 (by kernel_rfl) rfl rfl ?_
 refine wX ?_
 refine call1 (Check_c t ht hv _ (fun w hw => hw.1)) ?_
 refine wX ?_
 refine brd_ne (fun h => ?_) (fun h => ?_)
 ·refine wX ?_
  refine fin_v ?_
  show if chkV t = 0 then _ else _
  rw [if_neg h]
 have hf : Fit 3000 1 [t] := Classical.byContradiction fun hf => by
  unfold chkV at h
  rw [if_neg hf] at h
  cases h
 have hs1 : szs [t] = t.sz := by simp [szs]
 have hz : (szs [t] : Int) ≤ 3000 := hf.1
 refine wX ?_
 refine callG (resolve_c t ht (by omega) (TrF t) (fun w h => h.2)) [0] rfl ⟨rfl, trivial⟩ rfl fun j hj => ?_
 obtain ⟨rb, st⟩ := j
 have hnm : nmS st.sc = (whole t).nm := hj.nm
 have ok : RvOk st (1 + 2 * t.sz) := hj.ok
 refine wX ?_
 refine LdN.one (a := some ⟨rb, 0, none⟩) (q := 0) (.slice (at0 st.sa) st.sc.length st.scap) rfl (fun w hw => hw.2.1) rfl ?_
 refine wX ?_
 have hsm := ok.sm
 refine LoopN.intro ScI (fun ⟨i, a, cap⟩ => i ≤ st.sc.length ∧ i ≤ cap ∧ (a = none → i = 0))
  (fun ⟨i, a, cap⟩ => mkS Tryz.f7.ntmps 0 [(2, .c (.v (.slice none 0 0))), (3, .c (.v (.int .i64 0))), (5, .c (.v (.slice a i cap))), (17, .c (.v (.slice (at0 st.sa) st.sc.length st.scap))), (18, .c (.v (.int .i64 (st.sc.length : Int)))), (19, .c (.v (.int .i64 (i : Int))))])
  (fun ⟨i, a, cap⟩ => [.fact (TrF t), .dead, .dead, .app 59 1 (ptrsC st.sc) (at0 st.sa) st.sc.length st.scap, .dead, famE (rows1 0 st.sc), famE (rows2 st.sc), .app 36 1 (slsC (st.sc.take i)) a i cap])
  (fun ⟨i, _, _⟩ => st.sc.length - i) [.app 36 1 [] none 0 0] rfl (fun _ => rfl) (fun _ => rfl) (fun _ _ => okHB_eq rfl)
  ⟨⟨0, none, 0⟩, ⟨Nat.zero_le _, Nat.le_refl _, fun _ => rfl⟩, ?_, ⟨fun _ h => h, trivial, trivial, wkE_refl _, trivial, wkE_refl _, wkE_refl _, wkE_refl _, wkH_nil _⟩⟩ ?_
 ·exact wKK
 rintro ⟨i, a, cap⟩ ⟨hi, hic, hia⟩
 refine wX ?_
 refine brd_dec (fun h1 => ?_) (fun h1 => ?_)
 ·obtain ⟨d, hd⟩ : ∃ d, st.sc[i]? = some d := ⟨_, List.getElem?_eq_getElem (by omega)⟩
  have hsa : (at0 st.sa).isSome = true := by
   cases hs : st.sa with
   | none => rw [ok.sn hs] at hd; cases hd
   | some b => rfl
  refine wX ?_
  refine Nd.mk ⟨hsa, by omega, by omega⟩ ?_
  refine wX ?_
  refine LdN.one (.pointer (some ⟨d.b, 0, none⟩)) rfl (fun w hw => hw.2.1) (by rw [Int.toNat_natCast]; show (ptrsC st.sc)[i * 1]? = _; rw [Nat.mul_one, ptrsC, List.getElem?_map, hd]; rfl) ?_
  refine wX ?_
  refine LdN.one (a := some ⟨d.b, 0, none⟩) (q := 1) (slV d) rfl (fun w hw => (scF_of ok.sc hw.2.2.1 hw.2.2.2.1 i d hd).1) rfl ?_
  refine wX ?_
  refine Nd.mk ⟨Nat.le_refl 1, rfl, rfl⟩ ?_
  (conv => whnf)
  refine AppN.grow 7 (slsC (st.sc.take i)) [slV d] rfl rfl ⟨Nat.le_refl 1, ⟨by show (i + 1) * 24 ≤ _; omega, by omega⟩, by decide⟩ fun b' c' g1 g2 => ?_
  refine wX ?_
  have e1 : slsC (st.sc.take i) ++ [slV d] = slsC (st.sc.take (i + 1)) := by rw [take_snoc hd]; simp [slsC]
  rw [e1]
  refine ⟨⟨i + 1, some ⟨b', 0, none⟩, c'⟩, ⟨by omega, g1, (fun h => by cases h)⟩, by show st.sc.length - (i + 1) < st.sc.length - i; omega, ?_, ⟨fun _ h => h, trivial, trivial, wkE_refl _, trivial, wkE_refl _, wkE_refl _, wkE_refl _, wkH_nil _⟩⟩
  exact wKK
 ·have hie : i = st.sc.length := by omega
  rw [hie, List.take_length]
  refine wX ?_
  refine fin_p (fun w => SlAt a st.sc.length (slsC st.sc) w ∧ ∀ d ∈ st.sc, SlAt (at0 d.na) d.l.length (strsC d.l) w) ?_ fun w hw => ⟨by have := hw.2.2.2.2.1; simpa using this, fun d hd => ?_⟩
  ·show if chkV t = 0 then _ else _
   rw [if_pos h]
   exact ⟨st.sc, a, cap, rfl, hnm, by omega, by omega, ok.sc, fun h0 => List.length_eq_zero_iff.1 (by have := hia h0; omega), fun w hw => hw⟩
  ·obtain ⟨s, hs⟩ := List.getElem?_of_mem hd
   exact (scF_of ok.sc hw.2.2.1 hw.2.2.2.1 s d hs).2
abbrev xL : List UInt8 := [120]
def lcT : TP := ⟨10, xL, 0, none, [], 0⟩
def i1T : TP := ⟨4, [], 1, none, [], 0⟩
def seT (a : Nat) : TP := ⟨11, xL, 0, some ⟨a, 0, none⟩, [i1T], 1⟩
def t1T (a b : Nat) : TP := ⟨26, [], 0, some ⟨b, 0, none⟩, [seT a, lcT], 2⟩
def t2T (b : Nat) : TP := ⟨26, [], 0, some ⟨b, 0, none⟩, [lcT], 1⟩
theorem loX : loB xL = true := by decide +kernel
theorem kL : TreeK lcT := .mk (fun _ => rfl) (by decide) (by decide) (by decide) (fun k h => by cases h)
theorem kI : TreeK i1T := .mk (fun _ => rfl) (by decide) (by decide) (by decide) (fun k h => by cases h)
theorem one_mem {P : TP → Prop} {x : TP} (h : P x) : ∀ k ∈ [x], P k := fun k hk => by rw [List.mem_singleton.1 hk]; exact h
theorem two_mem {P : TP → Prop} {x y : TP} (h : P x) (g : P y) : ∀ k ∈ [x, y], P k := fun k hk => by
 rcases List.mem_cons.1 hk with rfl | hk
 ·exact h
 ·exact one_mem g k hk
theorem kS (a : Nat) : TreeK (seT a) := .mk (fun h => by cases h) (by show 1 ≤ _; decide) (by show 1 ≤ _; decide) (by show 1 ≤ 1; decide) (one_mem kI)
theorem k1 (a b : Nat) : TreeK (t1T a b) := .mk (fun h => by cases h) (by show 2 ≤ _; decide) (by show 0 ≤ _; decide) (by show 2 ≤ 2; decide) (two_mem (kS a) kL)
theorem k2 (b : Nat) : TreeK (t2T b) := .mk (fun h => by cases h) (by show 1 ≤ _; decide) (by show 0 ≤ _; decide) (by show 1 ≤ 1; decide) (one_mem kL)
theorem v1 (a b : Nat) : V .top (t1T a b) := .top (two_mem (fun _ => .setl loX (.int (by decide))) (fun _ => .loc loX)) (two_mem (fun h => absurd (show (11 : Int) = 45 from h) (by decide)) (fun h => absurd (show (10 : Int) = 45 from h) (by decide)))
theorem v2 (b : Nat) : V .top (t2T b) := .top (one_mem fun _ => .loc loX) (one_mem fun h => absurd (show (10 : Int) = 45 from h) (by decide))
theorem c1 (a b : Nat) : chkV (t1T a b) = 0 := by
 have hf : Fit 3000 1 [t1T a b] := ⟨by show ((4 : Nat) : Int) ≤ 3000; decide, one_mem (by show (1 : Int) + ((3 : Nat) : Int) ≤ 61; decide)⟩
 rw [chkV, if_pos hf]
 rfl
theorem c2 (b : Nat) : chkV (t2T b) = 6 := by
 have hf : Fit 3000 1 [t2T b] := ⟨by show ((2 : Nat) : Int) ≤ 3000; decide, one_mem (by show (1 : Int) + ((2 : Nat) : Int) ≤ 61; decide)⟩
 rw [chkV, if_pos hf]
 rfl
theorem n1 (a b : Nat) : (whole (t1T a b)).nm = [[xL]] := rfl
theorem f0 {w : World} {t : TP} (hk : TreeK t) (h : t.kids = []) : TreeF w t := .mk (by rw [h]; exact SlAt.nil) hk.len hk.str hk.cap (fun k hkk => by rw [h] at hkk; cases hkk)
theorem ft1 {a b : Nat} {w : World} (h1 : SlAt (some ⟨a, 0, none⟩) (1 * 4) (nodesC [i1T]) w) (h2 : SlAt (some ⟨b, 0, none⟩) (2 * 4) (nodesC [seT a, lcT]) w) : TreeF w (t1T a b) :=
 .mk h2 (k1 a b).len (k1 a b).str (k1 a b).cap (two_mem (.mk h1 (kS a).len (kS a).str (kS a).cap (one_mem (f0 kI rfl))) (f0 kL rfl))
theorem ft2 {b : Nat} {w : World} (h2 : SlAt (some ⟨b, 0, none⟩) (1 * 4) (nodesC [lcT]) w) : TreeF w (t2T b) :=
 .mk h2 (k2 b).len (k2 b).str (k2 b).cap (one_mem (f0 kL rfl))
def Sane15 : Prop := ∀ H, (∀ w, Facts H w → ScanF w) → SpecH Tryz.prog 9 (pvs []) H (Ret (.bool true) H)
set_option maxHeartbeats 4000000 in
theorem sane15_c : Sane15 := by
 refine factC hm Tryz.func9 (by kernel_rfl) rfl rfl ?_
 refine wXR ?_
 refine RwN.known (nodesC [i1T]) rfl fun ra => ?_
 refine wXR ?_
 refine RwN.known (nodesC [seT ra, lcT]) rfl fun rb => ?_
 refine wXR ?_
 refine SpecH.shut 2 rfl ?_
 (conv => whnf)
 refine SpecH.shut 4 rfl ?_
 (conv => whnf)
 refine SpecF.call (Scopes_c (t1T ra rb) (k1 ra rb) fun _ => v1 ra rb) (fun w hw => ⟨hw.1, ft1 hw.2.1 hw.2.2.1⟩) fun v G hR => ?_
 unfold ScopesR at hR
 rw [if_pos (c1 ra rb)] at hR
 obtain ⟨sc, a, cap, rfl, hnm, hlc, hl1, hok, hna, hG⟩ := hR
 obtain ⟨d, rfl, hd⟩ : ∃ d : ScD, sc = [d] ∧ d.l = [xL] := by
  rw [n1] at hnm
  cases sc with
  | nil => cases hnm
  | cons d r =>
   cases r with
   | nil => exact ⟨d, rfl, (List.cons.inj hnm).1⟩
   | cons e r => cases (List.cons.inj hnm).2
 have hsa : a.isSome = true := by
  cases a with
  | none => cases hna rfl
  | some b => rfl
 have hdo := hok d (List.mem_singleton.2 rfl)
 obtain ⟨db, dn, dc, dr, dl⟩ := d
 obtain rfl : dl = [xL] := hd
 have hda : (at0 dn).isSome = true := by
  cases dn with
  | none => cases (hdo.nil rfl).1
  | some b => rfl
 refine wXR ?_
 refine Nd.mk ⟨hsa, by decide, by show (0 : Int) < ((1 : Nat) : Int); decide⟩ ?_
 refine wXR ?_
 refine LdN.one (.slice (at0 dn) 1 dc) rfl (fun w hw => (hG w hw.2.2.2.1).1) rfl ?_
 refine wXR ?_
 refine Nd.mk ⟨hsa, by decide, by show (0 : Int) < ((1 : Nat) : Int); decide⟩ ?_
 refine wXR ?_
 refine LdN.one (.slice (at0 dn) 1 dc) rfl (fun w hw => (hG w hw.2.2.2.1).1) rfl ?_
 refine wXR ?_
 refine Nd.mk ⟨hda, by decide, by decide⟩ ?_
 refine wXR ?_
 refine LdN.one (.string (bs xL)) rfl (fun w hw => (hG w hw.2.2.2.1).2 _ (List.mem_singleton.2 rfl)) rfl ?_
 refine wXR ?_
 refine RwN.known (nodesC [lcT]) rfl fun rc => ?_
 refine wXR ?_
 refine call1 (Check_c (t2T rc) (k2 rc) (fun _ => v2 rc) _ (fun w hw => ⟨hw.1, ft2 hw.2.2.2.2.1⟩)) ?_
 rw [c2]
 refine wXR ?_
 rfl
theorem wks_tn {l : List TP} (h : ∀ k ∈ l, ∀ ch nm, (wk k ch nm).un = false) : ∀ ch nm, (wks l ch nm).un = false := by
 induction l with
 | nil => exact fun _ _ => rfl
 | cons k l ih =>
  intro ch nm
  show ((wk k ch nm).un || (wks l ch _).un) = false
  rw [h k (List.mem_cons_self ..), ih fun q hq => h q (List.mem_cons_of_mem _ hq)]
  rfl
theorem wk_tn : ∀ t, Tn t → ∀ ch nm, (wk t ch nm).un = false := by
 refine TP.ind fun t ih hn ch nm => ?_
 cases hn with
 | nil => rw [wk_plain (by unfold plainOp; decide)]; rfl
 | int => rw [wk_plain (by unfold plainOp; decide)]; rfl
 | seq h =>
  rw [wk_plain (by unfold plainOp; decide)]
  exact wks_tn (fun k hk => ih k hk (h k hk)) ch nm
theorem v_tn : ∀ t, Tn t → V .ex t := by
 refine TP.ind fun t ih hn => ?_
 cases hn with
 | nil => exact .bare (.inl rfl)
 | int => exact .int (by decide)
 | seq h => exact .seq fun k hk => ih k hk (h k hk)
def limV (t : TP) : Int := if t.sz ≤ 3000 ∧ t.dp ≤ 60 then 0 else 2
theorem chk_tn {t : TP} (hn : Tn t) : chkV t = limV t := by
 have hf : Fit 3000 1 [t] ↔ t.sz ≤ 3000 ∧ t.dp ≤ 60 := by
  unfold Fit
  have hs : szs [t] = t.sz := by simp [szs]
  rw [hs]
  constructor
  ·rintro ⟨h1, h2⟩
   have := h2 t (List.mem_singleton.2 rfl)
   omega
  ·rintro ⟨h1, h2⟩
   refine ⟨by omega, fun k hk => ?_⟩
   rw [List.mem_singleton.1 hk]
   omega
 unfold chkV limV
 rw [show (whole t).un = false from wk_tn t hn _ _]
 by_cases h : t.sz ≤ 3000 ∧ t.dp ≤ 60
 ·rw [if_pos (hf.2 h), if_pos h]
  rfl
 ·rw [if_neg fun g => h (hf.1 g), if_neg h]
theorem tn_op {a : Option Addr} {l : List TP} {c : Nat} (hn : Tn ⟨26, [], 0, a, l, c⟩) : ∀ k ∈ l, Tn k := by
 cases hn with
 | seq h => exact h
theorem v_top {a : Option Addr} {l : List TP} {c : Nat} (hn : Tn ⟨26, [], 0, a, l, c⟩) : V .top ⟨26, [], 0, a, l, c⟩ :=
 .top (fun k hk _ => v_tn k (tn_op hn k hk)) fun k hk ho => by
  have := tn_op hn k hk
  cases this <;> cases ho
theorem RCheck_c (a : Option Addr) (l : List TP) (c : Nat) (ht : TreeK ⟨26, [], 0, a, l, c⟩) (hn : Tn ⟨26, [], 0, a, l, c⟩) (hs : TP.sz ⟨26, [], 0, a, l, c⟩ ≤ 1000000) : ∀ H, (∀ w, Facts H w → TreeF w ⟨26, [], 0, a, l, c⟩) → SpecH Tryz.prog 24 (pvs [nodeV ⟨26, [], 0, a, l, c⟩]) H (Ret (.int .i64 (limV ⟨26, [], 0, a, l, c⟩)) H) := by
 refine factC (xs := [.agg #[.int .i64 26, .string (bs []), .int .i64 0, .slice a l.length c]]) hm Tryz.func24 (by kernel_rfl) rfl rfl ?_
 generalize hd : limV ⟨26, [], 0, a, l, c⟩ = z
 have hd1 : z = if TP.sz ⟨26, [], 0, a, l, c⟩ ≤ 3000 ∧ TP.dp ⟨26, [], 0, a, l, c⟩ ≤ 60 then 0 else 2 := hd.symm
 have hdl := dps_le [⟨26, [], 0, a, l, c⟩]
 refine wX ?_
 refine call1 (RSize_c _ ht hs _ (fun w hw => hw.1)) ?_
 unfold sizeV
 generalize hS : TP.sz ⟨26, [], 0, a, l, c⟩ = S at hd1 hs ⊢
 generalize hD : TP.dp ⟨26, [], 0, a, l, c⟩ = D at hd1 ⊢
 refine wX ?_
 refine brd_dec (fun h1 => ?_) (fun h1 => ?_)
 ·refine wX ?_
  rw [hd1, if_neg (by omega)]
 ·refine wX ?_
  refine brd_dec (fun h2 => ?_) (fun h2 => ?_)
  ·refine wX ?_
   rw [hd1, if_neg (by omega)]
  ·refine wX ?_
   refine call1 (Rprogram_c a l c ht (tn_op hn) _ (fun w hw => hw.1)) ?_
   refine wX ?_
   refine callR (Rwalked_c _ hn ht _ (fun w hw => hw.1)) fun x hx => ?_
   obtain ⟨u, v, rfl⟩ := hx
   refine wX ?_
   rw [hd1, if_pos (by omega)]
theorem checks_c (a : Option Addr) (l : List TP) (c : Nat) (ht : TreeK ⟨26, [], 0, a, l, c⟩) (hn : Tn ⟨26, [], 0, a, l, c⟩) (hs : TP.sz ⟨26, [], 0, a, l, c⟩ ≤ 1000000) : ∀ H, (∀ w, Facts H w → TrF ⟨26, [], 0, a, l, c⟩ w) → SpecH Tryz.prog 11 (pvs [nodeV ⟨26, [], 0, a, l, c⟩]) H (Ret (.bool true) H) := by
 refine factC hm Tryz.func11 (by kernel_rfl) rfl rfl ?_
 refine wX ?_
 refine call1 (Size_c _ ht hs _ (fun w hw => hw.1.2)) ?_
 unfold sizeV
 generalize hS : TP.sz ⟨26, [], 0, a, l, c⟩ = S at hs ⊢
 generalize hD : TP.dp ⟨26, [], 0, a, l, c⟩ = D
 refine wX ?_
 refine call1 (RSize_c _ ht (by rw [hS]; exact hs) _ (fun w hw => hw.1.2)) ?_
 unfold sizeV
 rw [hS, hD]
 refine wX ?_
 refine callQ (Check_c _ ht (fun _ => v_top hn) _ (fun w hw => hw.1)) ?_
 rw [chk_tn hn]
 refine wX ?_
 refine callQ (RCheck_c a l c ht hn (by rw [hS]; exact hs) _ (fun w hw => hw.1.2)) ?_
 refine wX ?_
 refine brd_eq (fun _ => ?_) (fun h => absurd rfl h)
 refine wX ?_
 refine brd_eq (fun _ => ?_) (fun h => absurd rfl h)
 refine wX ?_
 rw [beq_self_eq_true]
structure ChI where
 i : Nat
 t : TP
structure ChInv (d : Nat) (p : ChI) : Prop where
 i : p.i ≤ d
 n : Tn p.t
 k : TreeK p.t
 sz : p.t.sz = p.i + 1
 dp : p.t.dp = p.i + 1
def oneT (b : Nat) (t : TP) : TP := ⟨26, [], 0, some ⟨b, 0, none⟩, [t], 1⟩
theorem oneT_k {b : Nat} {t : TP} (h : TreeK t) : TreeK (oneT b t) := .mk (fun h => by cases h) (by show 1 ≤ _; decide) (by show 0 ≤ _; decide) (by show 1 ≤ 1; decide) (one_mem h)
theorem oneT_f {b : Nat} {t : TP} {w : World} (hk : TreeK t) (h : TreeF w t) (hs : SlAt (some ⟨b, 0, none⟩) (1 * 4) (nodesC [t]) w) : TreeF w (oneT b t) := .mk hs (oneT_k hk).len (oneT_k hk).str (oneT_k hk).cap (one_mem h)
theorem oneT_n {b : Nat} {t : TP} (h : Tn t) : Tn (oneT b t) := .seq (one_mem h)
theorem oneT_sz (b : Nat) (t : TP) : (oneT b t).sz = 1 + t.sz := by rw [sz_eq]; show 1 + (t.sz + 0) = _; rfl
theorem oneT_dp (b : Nat) (t : TP) : (oneT b t).dp = 1 + t.dp := by rw [dp_eq]; show 1 + max t.dp 0 = _; omega
theorem modW (z : Int) (m : Nat) (hm : m = 64 ∨ m = 8) : ∃ d : Nat, IntKind.i64.wrap ((IntKind.u64.wrap z).tmod (m : Int)) = (d : Int) ∧ d < m := by
 have h := wrap_u64_bd z
 generalize IntKind.u64.wrap z = X at h ⊢
 have hx : X.tmod (m : Int) = X % (m : Int) := Int.tmod_eq_emod_of_nonneg (by omega)
 have h1 : 0 ≤ X % (m : Int) := Int.emod_nonneg _ (by omega)
 have h2 : X % (m : Int) < (m : Int) := Int.emod_lt_of_pos _ (by omega)
 refine ⟨(X % (m : Int)).toNat, ?_, by omega⟩
 rw [hx, wrap_i64 (by omega)]
 omega
structure BdI where
 j : Nat
 sa : Option Addr
 cap : Nat
def niT : TP := ⟨0, [], 0, none, [], 0⟩
theorem kN : TreeK niT := .mk (fun _ => rfl) (by decide) (by decide) (by decide) (fun k h => by cases h)
def bT (sa : Option Addr) (n cap : Nat) : TP := ⟨26, [], 0, sa, List.replicate n niT, cap⟩
theorem bT_sz (sa : Option Addr) (n cap : Nat) : (bT sa n cap).sz = n + 1 := by
 rw [sz_eq]
 have : ∀ n, szs (List.replicate n niT) = n := fun n => by
  induction n with
  | zero => rfl
  | succ n ih => rw [List.replicate_succ, szs, ih]; show 1 + n = n + 1; omega
 show 1 + szs (List.replicate n niT) = _
 rw [this]
 omega
theorem bT_dp (sa : Option Addr) (n cap : Nat) (h : 0 < n) : (bT sa n cap).dp = 2 := by
 rw [dp_eq]
 have : ∀ n, 0 < n → dps (List.replicate n niT) = 1 := fun n => by
  induction n with
  | zero => intro h; omega
  | succ n ih =>
   intro _
   rw [List.replicate_succ, dps]
   cases n with
   | zero => rfl
   | succ n => rw [ih (by omega)]; rfl
 show 1 + dps (List.replicate n niT) = _
 rw [this n h]
theorem bT_n (sa : Option Addr) (n cap : Nat) : Tn (bT sa n cap) := .seq fun k hk => by rw [List.eq_of_mem_replicate hk]; exact .nil
theorem bT_k {sa : Option Addr} {n cap : Nat} (h : sa = none → n = 0) (hc : n ≤ cap) (hn : n ≤ 10000) : TreeK (bT sa n cap) :=
 .mk (fun ha => by have := h ha; subst this; rfl) (by show (List.replicate n niT).length ≤ _; rw [List.length_replicate]; omega) (by show 0 ≤ _; decide) (by show (List.replicate n niT).length ≤ cap; rw [List.length_replicate]; exact hc) fun k hk => by rw [List.eq_of_mem_replicate hk]; exact kN
theorem bT_f {sa : Option Addr} {n cap : Nat} {w : World} (hk : TreeK (bT sa n cap)) (h : SlAt sa (n * 4) (nodesC (List.replicate n niT)) w) : TreeF w (bT sa n cap) :=
 .mk (by show SlAt sa ((List.replicate n niT).length * 4) _ w; rw [List.length_replicate]; exact h) hk.len hk.str hk.cap fun k hk => by rw [List.eq_of_mem_replicate hk]; exact f0 kN rfl
set_option maxHeartbeats 4000000 in
theorem TreeDeep_c (z1 z2 : Int) : ∀ H, (∀ w, Facts H w → ScanF w) → SpecH Tryz.prog 4 (pvs [.int .i64 z1, .int .i64 z2]) H (Ret (.bool true) H) := by
 refine factC hm Tryz.func4 (by kernel_rfl) rfl rfl ?_
 obtain ⟨d, hd, hd64⟩ := modW z1 64 (.inl rfl)
 obtain ⟨e, he, he8⟩ := modW z2 8 (.inr rfl)
 have hd' : IntKind.i64.wrap ((IntKind.u64.wrap z1).tmod 64) = (d : Int) := hd
 have he' : IntKind.i64.wrap ((IntKind.u64.wrap z2).tmod 8) = (e : Int) := he
 have hw' : IntKind.i64.wrap (2995 + (e : Int)) = ((2995 + e : Nat) : Int) := by rw [wrap_i64 (by omega)]; omega
 refine wX ?_
 rw [hd', he', hw']
 refine LoopN.introS ChI (ChInv d) (fun ⟨i, _⟩ => mkS Tryz.f4.ntmps 0 [(4, .c (.v (.bool false))), (5, .c (.v (.int .i64 (d : Int)))), (6, .c (.v (.int .i64 ((2995 + e : Nat) : Int)))), (7, .c (.lp 1 0)), (8, .c (.v (.int .i64 (i : Int))))])
  (fun ⟨_, t⟩ => [.fact (TrF t), .blk 25 (vs (nodeC t))]) (fun ⟨i, _⟩ => d - i) [] rfl (fun _ => rfl) (fun _ => rfl) (fun _ _ => okHB_eq rfl) ?_ ?_
 ·refine ⟨⟨0, i1T⟩, ⟨Nat.zero_le _, .int, kI, rfl, rfl⟩, ?_, [.fact (TrF i1T), .blk 25 (vs (nodeC i1T))], turnS ?_, wkH_refl _⟩
  ·exact wKK
  ·exact ⟨.inr (.inr ⟨_, rfl, fun w hw => ⟨hw.1, f0 kI rfl⟩⟩), .inr (.inl rfl), trivial⟩
 rintro ⟨i, t⟩ ⟨hi, hn, hk, hsz, hdp⟩
 have hi : i ≤ d := hi
 have hsz : t.sz = i + 1 := hsz
 have hdp : t.dp = i + 1 := hdp
 refine wX ?_
 refine brd_dec (fun h3 => ?_) (fun h3 => ?_)
 ·refine wXR ?_
  refine RwN.known (nodesC [t]) rfl fun b => ?_
  refine wX ?_
  refine ⟨⟨i + 1, oneT b t⟩, ⟨by show i + 1 ≤ d; omega, oneT_n hn, oneT_k hk, by rw [oneT_sz]; show 1 + t.sz = i + 1 + 1; omega, by rw [oneT_dp]; show 1 + t.dp = i + 1 + 1; omega⟩, by show d - (i + 1) < d - i; omega, ?_, [.fact (TrF (oneT b t)), .blk 25 (vs (nodeC (oneT b t))), .dead], turnS ?_, ?_⟩
  ·exact wKK
  ·exact ⟨.inr (.inr ⟨_, rfl, fun w hw => ⟨hw.1.1, oneT_f hk hw.1.2 hw.2.1⟩⟩), .inr (.inl rfl), .inl rfl, trivial⟩
  ·exact ⟨wkE_refl _, wkE_refl _, wkH_nil _⟩
 ·have hid : i = d := by omega
  subst hid
  refine wXR ?_
  refine RwN.known (nodesC [t]) rfl fun ab => ?_
  refine wX ?_
  refine LoopN.intro BdI (fun ⟨j, sa, cap⟩ => j ≤ 2995 + e ∧ j ≤ cap ∧ (sa = none → j = 0))
   (fun ⟨j, _, _⟩ => mkS Tryz.f4.ntmps 0 [(4, .c (.v (.bool false))), (5, .c (.v (.int .i64 (i : Int)))), (6, .c (.v (.int .i64 ((2995 + e : Nat) : Int)))), (9, .c (.lp 3 0)), (10, .c (.lp 4 0)), (11, .c (.v (.int .i64 (j : Int))))])
   (fun ⟨j, sa, cap⟩ => [.fact (TrF t), .dead, .app 25 4 (nodesC [t]) (some ⟨ab, 0, none⟩) 1 1, .blk 25 (vs (nodeC (oneT ab t))), .blk 25 (vs [.int .i64 26, .string (bs []), .int .i64 0, .slice sa j cap]), .app 25 4 (nodesC (List.replicate j niT)) sa j cap])
   (fun ⟨j, _, _⟩ => 2995 + e - j) [.app 25 4 [] none 0 0] rfl (fun _ => rfl) (fun _ => rfl) (fun _ _ => okHB_eq rfl)
   ⟨⟨0, none, 0⟩, ⟨Nat.zero_le _, Nat.le_refl _, fun _ => rfl⟩, ?_, ⟨wkE_refl _, trivial, wkE_refl _, wkE_refl _, wkE_refl _, wkE_refl _, wkH_nil _⟩⟩ ?_
  ·exact wKK
  rintro ⟨j, sa, cap⟩ ⟨hj, hjc, hja⟩
  refine wX ?_
  refine brd_dec (fun h4 => ?_) (fun h4 => ?_)
  ·refine wX ?_
   refine AppN.grow 5 (nodesC (List.replicate j niT)) (nodeC niT) rfl rfl ⟨Nat.le_refl 1, ⟨by show (j + 1) * 56 ≤ _; omega, by omega⟩, by decide⟩ fun b' c' g1 g2 => ?_
   refine wX ?_
   have e1 : nodesC (List.replicate j niT) ++ nodeC niT = nodesC (List.replicate (j + 1) niT) := by rw [nodesC_one, nodesC_app, List.replicate_succ']
   rw [e1]
   refine ⟨⟨j + 1, some ⟨b', 0, none⟩, c'⟩, ⟨by omega, g1, (fun h => by cases h)⟩, by show 2995 + e - (j + 1) < 2995 + e - j; omega, ?_, ⟨wkE_refl _, trivial, wkE_refl _, wkE_refl _, wkE_refl _, wkE_refl _, wkH_nil _⟩⟩
   exact wKK
  ·have hje : j = 2995 + e := by omega
   subst hje
   have hla : limV (oneT ab t) = if i + 2 ≤ 60 then 0 else 2 := by
    unfold limV
    rw [oneT_sz, oneT_dp, hsz, hdp]
    by_cases h : i + 2 ≤ 60
    ·rw [if_pos h, if_pos (by omega)]
    ·rw [if_neg h, if_neg (by omega)]
   have hlb : limV (bT sa (2995 + e) cap) = if 2995 + e + 1 ≤ 3000 then 0 else 2 := by
    unfold limV
    rw [bT_sz, bT_dp _ _ _ (by omega)]
    by_cases h : 2995 + e + 1 ≤ 3000
    ·rw [if_pos h, if_pos (by omega)]
    ·rw [if_neg h, if_neg (by omega)]
   have hna : Tn (oneT ab t) := oneT_n hn
   have hka : TreeK (oneT ab t) := oneT_k hk
   have hnb : Tn (bT sa (2995 + e) cap) := bT_n _ _ _
   have hkb : TreeK (bT sa (2995 + e) cap) := bT_k hja hjc (by omega)
   have hfa : ∀ w, TrF t w → SlAt (some ⟨ab, 0, none⟩) (1 * 4) (nodesC [t]) w → TrF (oneT ab t) w := fun w h1 h2 => ⟨h1.1, oneT_f hk h1.2 h2⟩
   have hfb : ∀ w, ScanF w → SlAt sa ((2995 + e) * 4) (nodesC (List.replicate (2995 + e) niT)) w → TrF (bT sa (2995 + e) cap) w := fun w h1 h2 => ⟨h1, bT_f hkb h2⟩
   refine wX ?_
   refine call1 (Check_c (oneT ab t) hka (fun _ => v_top hna) _ (fun w hw => hfa w hw.1 hw.2.1)) ?_
   rw [chk_tn hna, hla]
   refine wX ?_
   refine brdT ?_ ?_
   ·rw [wrap_i64 (by omega)]
    by_cases h : i + 2 ≤ 60
    ·rw [if_pos h, decide_eq_true (by omega)]; rfl
    ·rw [if_neg h, decide_eq_false (by omega)]; rfl
   have hbv : nodeV (bT sa (2995 + e) cap) = .agg #[.int .i64 26, .string (bs []), .int .i64 0, .slice sa (2995 + e) cap] := by
    show Value.agg #[.int .i64 26, .string (bs []), .int .i64 0, .slice sa (List.replicate (2995 + e) niT).length cap] = _
    rw [List.length_replicate]
   have hcb := Check_c (bT sa (2995 + e) cap) hkb (fun _ => v_top hnb)
   rw [chk_tn hnb, hlb, hbv] at hcb
   have hkb2 := checks_c sa (List.replicate (2995 + e) niT) cap hkb hnb (by rw [show TP.sz ⟨26, [], 0, sa, List.replicate (2995 + e) niT, cap⟩ = _ from bT_sz sa (2995 + e) cap]; omega)
   rw [show nodeV ⟨26, [], 0, sa, List.replicate (2995 + e) niT, cap⟩ = _ from hbv] at hkb2
   refine wX ?_
   refine call1 (hcb _ (fun w hw => hfb w hw.1.1 hw.2.2.1)) ?_
   refine wX ?_
   refine brdT ?_ ?_
   ·rw [wrap_i64 (by omega)]
    by_cases h : 2995 + e + 1 ≤ 3000
    ·rw [if_pos h, decide_eq_true (by omega)]; rfl
    ·rw [if_neg h, decide_eq_false (by omega)]; rfl
   refine wX ?_
   refine call1 (checks_c _ _ _ hka hna (by rw [show TP.sz ⟨26, [], 0, some ⟨ab, 0, none⟩, [t], 1⟩ = _ from oneT_sz ab t]; omega) _ (fun w hw => hfa w hw.1 hw.2.1)) ?_
   refine wX ?_
   refine call1 (hkb2 _ (fun w hw => hfb w hw.1.1 hw.2.2.1)) ?_
   refine wX ?_
   refine call1 (sane15_c _ (fun w hw => hw.1.1)) ?_
   exact wZ
end Go.Proofs.YtpikpjlhdkkigaaGreatDoor
namespace Go.Proofs.YtpikpjlhdkkigaaGreatDoor
open Go.ChangeShapes Go.WideShapes Go.ChangeAt Go.RowKit Go.AX
set_option maxRecDepth 100000
namespace TreeDeep
theorem own : ownKnob Tryz.prog.godebug = none := own0
theorem walk {H : Type} {enc : TypeId × Value → H} (W : World) (base : Nat) (args : Array Value) (ds : List (DataW H)) (p : List MemPlace) (k : Known enc Tryz.prog Tryz.f4 W base args ds p) (_hL : laidMetH Tryz.prog laid3 W) : Walk Tryz.prog 4 args W := by
 obtain ⟨u, v, rfl⟩ := arr2 (trodAll_len k.trod).2
 obtain ⟨n, rfl⟩ := k.low.int (i := .i64) 0 rfl rfl (by kernel_rfl)
 obtain ⟨m, rfl⟩ := k.low.int (i := .i64) 1 rfl rfl (by kernel_rfl)
 exact walkH [.fact ScanF] (known_scan k.shaped _hL) (TreeDeep_c n m _ fun w hw => hw.1)
theorem lifted (os : Os) (started : os.Started) (H : Type) (enc : TypeId × Value → H) :
  ReturnsInHanded {} Tryz.checked os 4 .any (fun w args => (Rows.treeDeepSpec.pre enc Tryz.prog Tryz.f4 [] false w args ∧ laidMetH Tryz.prog laid3 w) ∧ sizedMet enc Tryz.prog Tryz.f4 (OpenSpec.ofChange Rows.treeDeepSpec) false w args) (Rows.treeDeepSpec.post enc Tryz.prog Tryz.f4 false true false false) := by
 refine liftS (C := Tryz.checked) own started (by kernel_rfl) Tryz.func4
  (ChangeSpec.witness_shaped (enc := enc) (C := Tryz.checked) (os := os) (X := fun w _ => laidMetH Tryz.prog laid3 w) false (World.laidAll Tryz.prog os laid3) #[.int .i64 0, .int .i64 0] 8 (World.laidAll_os _ _ _) (World.shaped_of_ZipB (by kernel_rfl) (by kernel_rfl)) (by kernel_rfl) (by kernel_rfl) (by kernel_rfl) (door_met os _))
  laidOut rfl (t := _) rfl (by kernel_rfl) (by kernel_rfl) ?_ walk
 intro ds hd
 match ds, hd with
 | [d0, d1], _ => rfl
theorem over : Rows.treeDeepRow.holds Tryz.pinned (OpenSpec.ofChange Rows.treeDeepSpec) :=
 OpenClaim.holds_of_wide 4 Tryz.f4 rfl rfl rfl rfl rfl rfl rfl ⟨rfl, rfl, rfl, rfl, rfl⟩ rfl rfl rfl rfl rfl (by kernel_rfl) Tryz.func4 (by kernel_rfl)
  (of_decide_eq_true (by kernel_rfl)) (by unfold Func.isWrapper; first | (rw [if_pos (by decide +kernel)]; kernel_rfl) | (rw [if_neg (by decide +kernel)]; exact ⟨rfl, rfl⟩))
  (fun os started H enc _ => lifted os started H enc)
theorem proved : Rows.TreeDeepCardSaid :=
 Claim7.holds_tied_plain_at .later [] [.listed, .data] true (true, "c70e3fd3eb38bbba570cdd618e26b8a318203a80d4059d4e3311ee86faec173c") false
  over (fun _ h => by cases h) (by kernel_rfl) (fun _ h => by cases h) treeDeep_row_tie rfl ⟨rfl, rfl⟩ (by kernel_rfl) rfl
  (fun f fn hf hfn => by
   obtain rfl : f = 4 := Option.some.inj ((show Tryz.prog.funcNamed "cabochon/cabochonlaw15.TreeDeep" = some 4 by kernel_rfl).symm.trans hf) |>.symm
   obtain rfl : fn = Tryz.f4 := (Option.some.inj (Tryz.func4.symm.trans hfn)).symm
   exact ⟨by kernel_rfl, fun j t ht => by
    have hm : t ∈ Tryz.f4.params.toList := by simpa using Array.mem_of_getElem? ht
    have hall : (Tryz.f4.params.toList.all fun u => !Tryz.prog.wantsStandIn u) = true := by kernel_rfl
    exact (show Tryz.prog.wantsStandIn t = false by simpa using List.all_eq_true.1 hall t hm)⟩)
  (by kernel_rfl)
#print axioms proved
end TreeDeep
end Go.Proofs.YtpikpjlhdkkigaaGreatDoor
