/-
  Lemmas (Ax30 Ax31 P1 P2 P3 C1 P9 C2 C3 C4 C5 C6 P10 C7 C8 C9).
-/
import Derived.Laws.IdiomStrings
import Derived.Test.YtjkchonpnocffaaGreatDoorMf3
/-
  AX, thirtieth text: bytes of a string; own entries that nobody writes any more become facts.
-/
namespace Go.AX

theorem EffW.appTo {P : Program} {o : Oper} {s : List AV} {H : List Ent} {K : AV → List Ent → Prop} {Ty T : TypeId} {x y : Operand} {sz n cap b q i : Nat} {xs ys : List Value} {inf : TypeInfo} (zs : List Value) (sz' : Nat) (ho : o.op = .store Ty x y)
    (hx : opv s x = .c (.v (.pointer (some ⟨b, q, none⟩)))) (hi : nthE H i = some (.app T sz xs (some ⟨b, 0, none⟩) n cap)) (hy : avCells (opv s y) = some (vs ys)) (hone : oneCs (vs ys) = true) (hinf : P.info? Ty = some inf) (hlen : ys.length = inf.size)
    (hq : q + ys.length ≤ n * sz) (hz : xs.take q ++ ys ++ xs.drop (q + ys.length) = zs) (hs : sz = sz') (hk : setEK H i (.app T sz' zs (some ⟨b, 0, none⟩) n cap) fun H' => K (.c .any) H') : EffW P o s H K := by
  subst hz; subst hs
  exact EffW.app ho hx hi hy hone hinf hlen hq hk
theorem put_set {xs : List Value} {q : Nat} (v : Value) (h : q < xs.length) : xs.take q ++ [v] ++ xs.drop (q + [v].length) = xs.set q v := by
  rw [List.set_eq_take_append_cons_drop, if_pos h]
  simp
/-- The arguments in another spelling. -/
theorem SpecH.args {P : Program} {f : FuncId} {args args' : List AV} {H : List Ent} {K : Out → List Ent → Prop} (e : args = args') (h : SpecH P f args' H K) : SpecH P f args H K := e ▸ h
theorem plains_vs : ∀ xs : List Value, plains (vs xs) = some xs
  | [] => rfl
  | _ :: xs => by simp [vs, plains, plains_vs xs]
/-- []byte(s) -/
theorem EffW.bytesOf {P : Program} {o : Oper} {s : List AV} {H : List Ent} {K : AV → List Ent → Prop} {src dst e : TypeId} {x : Operand} (l : List UInt8) (ho : o.op = .convert src dst x) (hs : P.underlying src = some .string) (hd : P.underlying dst = some (.slice e)) (he : P.underlying e = some (.int .u8))
    (hx : opv s x = .c (.v (.string (bs l)))) (hl : l.length ≤ 140737488355328) (next : ∀ b cap : Nat, l.length ≤ cap → cap ≤ maxLen → K (.c (.v (.slice (some ⟨b, 0, none⟩) l.length cap))) (H ++ [.app e 1 (u8s l) (some ⟨b, 0, none⟩) l.length cap])) : EffW P o s H K := by
  intro ρ S w ac hsat hr
  have hxr := opv_rel hr x
  rw [hx] at hxr
  have hxe : ac.eval x = .string (bs l) := hxr
  have hrun := run_bytes_of_string (P := P) w src dst e (bs l) hs hd he
  rw [bs_size] at hrun
  have hge := grownCap_ge w l.length 0 e
  have hgm := grownCap_le_maxLen w l.length 0 e (by simp only [maxLen]; omega)
  generalize grownCap w l.length 0 e = cap at hrun hge hgm
  have hsz : (bytesRow (bs l) cap).size = cap := by
    have e1 : (bs l).data.size = l.length := by simp [bs]
    simp only [bytesRow, Array.size_append, Array.size_map, Array.size_replicate, bs_size, e1]
    omega
  have hrow : RowF e 1 l.length (u8s l) w.heap.size cap (w.drew.alloc (.cells (bytesRow (bs l) cap) e ((bytesRow (bs l) cap).size, (bytesRow (bs l) cap).size + 1))) := by
    refine ⟨_, _, ⟨heap_alloc_new w.drew _, .inr (Nat.le_refl _)⟩, by simp [u8s_len], hge, hgm, by rw [hsz, Nat.mul_one], ?_⟩
    rw [Nat.mul_one]
    unfold bytesRow
    rw [Array.toList_append, List.take_append_of_le_length (by simp [bs]), List.take_of_length_le (by simp [bs])]
    simp [bs, u8s]
  have hS := hsat.newApp (w' := w.drew.alloc (.cells (bytesRow (bs l) cap) e ((bytesRow (bs l) cap).size, (bytesRow (bs l) cap).size + 1))) rfl rfl rfl rfl hrow
  refine ⟨_, _, next w.heap.size cap hge hgm, _, _, _, _, ?_, .inl rfl, hS.1, hS.2, rfl⟩
  unfold execOp
  simp only [ho, hxe, Sem.run_bind, hrun, Result.andThen_ok, Sem.run_pure]

end Go.AX

/-
  AX, thirty-first text: a key that a map does not have.
-/
namespace Go.AX
/-- m[k]: a key that is not there -/
theorem ReadW.noMap {P : Program} {o : Oper} {s : List AV} {H : List Ent} {K : AV → Prop} {t kt et : TypeId} {m k : Operand} {b c : Nat} {es : Array MapEntry} {κ : IntKind} {n : Int} {inf : TypeInfo} {z : Value} (ho : o.op = .lookup t m k false) (ht : P.underlying t = some (.map kt et)) (hkt : P.underlying kt = some (.int κ))
    (hi : P.info? et = some inf) (hz : inf.zero = some z) (hm : opv s m = .c (.v (.map (some b)))) (hk : opv s k = .c (.v (.int κ n))) (hF : ∀ w, Facts H w → w.heap[b]? = some (.map es c)) (hf : Instr.findNow (.int κ) (.int κ n) es.toList 0 = some none) (h : K (.c (.v z))) : ReadW P o s H K :=
  ReadW.val z (fun cs b e => by rw [ho] at e; cases e) (by rw [ho]; show allPlain s [m, k] = true; simp [allPlain, hm, hk]) (fun w hw => by
    have hb := hF w hw
    have hc : (Instr.checkKey es.isEmpty 10000 kt (.int κ n)).run P w = .ok () w := MapKept.run_checkKey (k := .int κ n) hkt (by simp [MapKept.IsKey]) es.isEmpty 9999
    have hrun : (Instr.lookup t (.map (some b)) (.int κ n) false).run P w = .ok z w := by
      simp [Instr.lookup, run_underlying ht, MapKept.run_getObj_map hb, hc, MapKept.run_findKey hkt hf, Result.andThen, zeroValue, typeInfo, hi, hz]
    unfold execOp
    simp only [ho, plainEv_v hm, plainEv_v hk, Sem.run_bind, hrun, Result.andThen_ok, Sem.run_pure]) h
/-! ### Parts of strings, where memory is not looked at -/
theorem BlindW.val {P : Program} {o : Oper} {s : List AV} {K : AV → Prop} (x : Value) (hp : allPlain s o.op.operands.toList = true) (hrun : ∀ w, (execOp (plainEv s) o).run P w = .ok (.value x) w) (h : K (.c (.v x))) : ∃ x, BlindW P o s K x := ⟨x, hp, hrun, h⟩
/-- s[i:] -/
theorem BlindW.sl_l {P : Program} {o : Oper} {s : List AV} {K : AV → Prop} {t : TypeId} {x y : Operand} {b : List UInt8} {k : IntKind} {i : Int} (n : Nat) (ho : o.op = .slice t x (some y) none none) (hu : P.underlying t = some .string) (hx : opv s x = .c (.v (.string (bs b)))) (hy : opv s y = .c (.v (.int k i)))
    (h : i = (n : Int) ∧ n ≤ b.length) (hk : K (.c (.v (.string (bs (b.drop n)))))) : ∃ x, BlindW P o s K x :=
  BlindW.val (.string (bs (b.drop n))) (by rw [ho]; show allPlain s [x, y] = true; simp [allPlain, hx, hy])
    (fun w => run_op_slice ho (by
      simp only [Option.map, plainEv_v hx, plainEv_v hy]
      rw [run_sliceAt_string w t _ _ _ _ hu, run_slice_string_l w t (bs b) hu k i (by omega) (by rw [bs_size]; omega), bs_size, show i.toNat = n by omega, bs_drop])) hk
/-- s[1:] -/
theorem BlindW.tl {P : Program} {o : Oper} {s : List AV} {K : AV → Prop} {t : TypeId} {x y : Operand} {c : UInt8} {r : List UInt8} {k : IntKind} (ho : o.op = .slice t x (some y) none none) (hu : P.underlying t = some .string) (hx : opv s x = .c (.v (.string (bs (c :: r))))) (hy : opv s y = .c (.v (.int k 1)))
    (hk : K (.c (.v (.string (bs r))))) : ∃ x, BlindW P o s K x := BlindW.sl_l 1 ho hu hx hy ⟨rfl, by simp⟩ hk
theorem ReadW.tl {P : Program} {o : Oper} {s : List AV} {H : List Ent} {K : AV → Prop} {t : TypeId} {x y : Operand} {c : UInt8} {r : List UInt8} {k : IntKind} (ho : o.op = .slice t x (some y) none none) (hu : P.underlying t = some .string) (hx : opv s x = .c (.v (.string (bs (c :: r))))) (hy : opv s y = .c (.v (.int k 1)))
    (hk : K (.c (.v (.string (bs r))))) : ReadW P o s H K := ReadW.sl_l 1 ho hu hx hy ⟨rfl, by simp⟩ hk
/-- s[:j] -/
theorem BlindW.sl_h {P : Program} {o : Oper} {s : List AV} {K : AV → Prop} {t : TypeId} {x y : Operand} {b : List UInt8} {k : IntKind} {i : Int} (n : Nat) (ho : o.op = .slice t x none (some y) none) (hu : P.underlying t = some .string) (hx : opv s x = .c (.v (.string (bs b)))) (hy : opv s y = .c (.v (.int k i)))
    (h : i = (n : Int) ∧ n ≤ b.length) (hk : K (.c (.v (.string (bs (b.take n)))))) : ∃ x, BlindW P o s K x :=
  BlindW.val (.string (bs (b.take n))) (by rw [ho]; show allPlain s [x, y] = true; simp [allPlain, hx, hy])
    (fun w => run_op_slice ho (by
      simp only [Option.map, plainEv_v hx, plainEv_v hy]
      rw [run_sliceAt_string w t _ _ _ _ hu, run_slice_string_h w t (bs b) hu k i (by omega) (by rw [bs_size]; omega), show i.toNat = n by omega, bs_take])) hk
end Go.AX

/-
  Plain Lean: the directives of a form (no program in sight).
-/
namespace Go.Pack
abbrev B := List UInt8

/-- A directive: its letter, greatest byte first, its count (-1: all, -2: none is written). -/
structure Dir where
  letter : UInt8
  big : Bool
  count : Int
deriving DecidableEq, Repr
structure Item where
  isText : Bool
  int : Int
  text : B
deriving DecidableEq, Repr

def letters : B := [67, 99, 83, 115, 76, 108, 81, 113, 110, 78, 119, 85, 97, 65, 90, 72, 120, 64]
def bigs : B := [83, 115, 76, 108, 81, 113]
def dig (c : UInt8) : Bool := 48 ≤ c && c ≤ 57
def num (ds : B) : Nat := ds.foldl (fun n c => n * 10 + (c.toNat - 48)) 0
/-- The digits are a count. -/
def fine (c : UInt8) (ds : B) : Bool := num ds ≤ 1000 && (ds.head? != some 48 || c == 64 && ds == [48])
/-- What stands behind a letter and its sign: the count, the rest; none: malformed. -/
def cnt (c : UInt8) (r : B) : Option (Int × B) :=
  if r.head? == some 42 then if c == 120 || c == 64 then none else some (-1, r.tail)
  else if (r.takeWhile dig).isEmpty then some (-2, r)
  else if fine c (r.takeWhile dig) then some ((num (r.takeWhile dig) : Int), r.dropWhile dig) else none
/-- A directive ahead of a text. -/
def one (c : UInt8) (r : B) : Option (Dir × B) :=
  if letters.contains c then
    if r.head? == some 62 then
      if bigs.contains c then (cnt c r.tail).map fun x => (⟨c, true, x.1⟩, x.2) else none
    else (cnt c r).map fun x => (⟨c, false, x.1⟩, x.2)
  else none
theorem cnt_len {c : UInt8} {r : B} {x : Int × B} (h : cnt c r = some x) : x.2.length ≤ r.length := by
  unfold cnt at h
  split at h
  · split at h
    · cases h
    · cases h; simp
  split at h
  · cases h; exact Nat.le_refl _
  split at h
  · cases h
    exact (List.dropWhile_sublist _).length_le
  · cases h
theorem one_len {c : UInt8} {r : B} {x : Dir × B} (h : one c r = some x) : x.2.length ≤ r.length := by
  unfold one at h
  split at h
  · split at h
    · split at h
      · cases hc : cnt c r.tail with
        | none => rw [hc] at h; cases h
        | some y =>
          rw [hc] at h; cases h
          have := cnt_len hc
          simp at this ⊢; omega
      · cases h
    · cases hc : cnt c r with
      | none => rw [hc] at h; cases h
      | some y => rw [hc] at h; cases h; exact cnt_len hc
  · cases h
/-- All directives of a form. -/
def dirsF : Nat → B → Option (List Dir)
  | 0, _ => none
  | _ + 1, [] => some []
  | f + 1, c :: r => if c == 32 then dirsF f r else
    match one c r with
    | none => none
    | some (d, r') => (dirsF f r').map (d :: ·)
def dirs (s : B) : Option (List Dir) := dirsF (s.length + 1) s
theorem dirsF_fuel : ∀ (n f g : Nat) (s : B), s.length ≤ n → s.length < f → s.length < g → dirsF f s = dirsF g s
  | _, 0, _, _, _, h, _ => absurd h (Nat.not_lt_zero _)
  | _, _ + 1, 0, _, _, _, h => absurd h (Nat.not_lt_zero _)
  | _, _ + 1, _ + 1, [], _, _, _ => rfl
  | 0, _ + 1, _ + 1, _ :: _, h, _, _ => by simp at h
  | n + 1, f + 1, g + 1, c :: r, hn, hf, hg => by
    simp only [List.length_cons] at hn hf hg
    unfold dirsF
    split
    · exact dirsF_fuel n f g r (by omega) (by omega) (by omega)
    · cases ho : one c r with
      | none => rfl
      | some x =>
        have := one_len ho
        simp only
        rw [dirsF_fuel n f g x.2 (by omega) (by omega) (by omega)]
theorem dirs_nil : dirs [] = some [] := rfl
theorem dirs_space (r : B) : dirs (32 :: r) = dirs r := by
  show dirsF (r.length + 1 + 1) (32 :: r) = _
  unfold dirsF
  rw [if_pos (show ((32 : UInt8) == 32) = true from rfl)]
  exact dirsF_fuel _ _ _ r (Nat.le_refl _) (by omega) (by omega)
theorem dirs_cons {c : UInt8} (h : c ≠ 32) (r : B) : dirs (c :: r) = match one c r with | none => none | some (d, r') => (dirs r').map (d :: ·) := by
  show dirsF (r.length + 1 + 1) (c :: r) = _
  conv => lhs; unfold dirsF
  rw [if_neg (by simpa using h)]
  cases ho : one c r with
  | none => rfl
  | some x =>
    have := one_len ho
    simp only
    unfold dirs
    rw [dirsF_fuel r.length (r.length + 1) (x.2.length + 1) x.2 (by omega) (by omega) (by omega)]
theorem dirs_drop : ∀ s : B, dirs (s.dropWhile (· == 32)) = dirs s
  | [] => rfl
  | c :: r => by
    by_cases h : c = 32
    · subst h
      rw [dirs_space]
      exact dirs_drop r
    · rw [List.dropWhile_cons_of_neg (by simpa using h)]
/-- A form that is not malformed. -/
def forms (s : B) : Option (List Dir) := match dirs s with | some l => if l.length ≤ 50 then some l else none | none => none
end Go.Pack

/-
  Plain Lean: what is packed, and read (no program in sight).
-/
namespace Go.Pack

def isStr (c : UInt8) : Bool := c == 97 || c == 65 || c == 90 || c == 72
def isPl (c : UInt8) : Bool := c == 120 || c == 64
def sz (c : UInt8) : Nat :=
  if c == 67 || c == 99 then 1 else if c == 83 || c == 115 || c == 110 then 2 else if c == 76 || c == 108 || c == 78 then 4 else if c == 81 || c == 113 then 8 else 0
def sg (c : UInt8) : Bool := c == 99 || c == 115 || c == 108 || c == 113
def hi (d : Dir) : Bool := d.big || d.letter == 110 || d.letter == 78

/-- A number of a fixed size fits. -/
def fit (c : UInt8) (n : Int) : Bool :=
  if c == 113 then true else if c == 81 then decide (0 ≤ n)
  else if sg c then decide (-(2 : Int) ^ (8 * sz c - 1) ≤ n) && decide (n < 2 ^ (8 * sz c - 1)) else decide (0 ≤ n) && decide (n < 2 ^ (8 * sz c))
/-- The least byte first. -/
def le : Nat → Int → B
  | 0, _ => []
  | k + 1, n => UInt8.ofNat (n % 256).toNat :: le k (n / 256)
/-- Groups of 7 bits, the least first. -/
def sevR : Nat → Nat → B
  | 0, _ => []
  | f + 1, n => if n = 0 then [] else UInt8.ofNat (n % 128 + 128) :: sevR f (n / 128)
def sevens (n : Nat) : B := (UInt8.ofNat (n % 128) :: sevR 10 (n / 128)).reverse
def rune (n : Int) : Bool := decide (0 ≤ n) && decide (n ≤ 1114111) && (decide (n < 55296) || decide (57343 < n))
def utf (n : Nat) : B :=
  if n < 128 then [UInt8.ofNat n] else if n < 2048 then [UInt8.ofNat (192 + n / 64), UInt8.ofNat (128 + n % 64)]
  else if n < 65536 then [UInt8.ofNat (224 + n / 4096), UInt8.ofNat (128 + n / 64 % 64), UInt8.ofNat (128 + n % 64)]
  else [UInt8.ofNat (240 + n / 262144), UInt8.ofNat (128 + n / 4096 % 64), UInt8.ofNat (128 + n / 64 % 64), UInt8.ofNat (128 + n % 64)]
def numS (d : Dir) (n : Int) : Except Int B :=
  if d.letter == 119 then if n < 0 then .error 5 else .ok (sevens n.toNat)
  else if d.letter == 85 then if rune n then .ok (utf n.toNat) else .error 5
  else if fit d.letter n then .ok (if hi d then (le (sz d.letter) n).reverse else le (sz d.letter) n) else .error 5

/-- The value of a hex digit. -/
def hexV (c : UInt8) : Option Nat := if 48 ≤ c && c ≤ 57 then some (c.toNat - 48) else if 97 ≤ c && c ≤ 102 then some (c.toNat - 87) else none
def hexP : B → Option B
  | a :: b :: r => match hexV a, hexV b, hexP r with
    | some x, some y, some l => some (UInt8.ofNat (16 * x + y) :: l)
    | _, _, _ => none
  | _ => some []
/-- n hex digits of a text, filled with 0. -/
def hexT (n : Nat) (s : B) : B := s.take n ++ List.replicate (n - s.length + n % 2) 48
def hexS (n : Nat) (s : B) : Except Int B := match hexP (hexT n s) with | some l => .ok l | none => .error 1
def cntS (d : Dir) (all : Nat) : Nat := if d.count = -2 then 1 else if d.count = -1 then all else d.count.toNat
def textS (d : Dir) (s : B) : Except Int B :=
  if d.letter == 72 then hexS (cntS d s.length) s
  else if d.count = -1 then .ok (if d.letter == 90 then s ++ [0] else s)
  else
    let n := cntS d 0
    let l := s.take n ++ List.replicate (n - s.length) (if d.letter == 65 then 32 else 0)
    .ok (if d.letter == 90 && decide (n < s.length) then l.set (n - 1) 0 else l)
/-- One item, or a place, written behind what is there. -/
def oneS (d : Dir) (items : List Item) (out : B) (used : Nat) : Except Int (B × Nat) :=
  let fin := fun (o l : B) (u : Nat) => if o.length + l.length > 100000 then Except.error 5 else .ok (o ++ l, u)
  if d.letter == 120 then fin out (List.replicate (max 1 d.count).toNat 0) used
  else if d.letter == 64 then fin (out.take (max 0 d.count).toNat) (List.replicate ((max 0 d.count).toNat - (out.take (max 0 d.count).toNat).length) 0) used
  else match items[used]? with
    | none => .error 14
    | some x => if x.isText != isStr d.letter then .error 1
      else match if isStr d.letter then textS d x.text else numS d x.int with
        | .error e => .error e
        | .ok l => fin out l (used + 1)
def timesS (d : Dir) (items : List Item) : Nat → B → Nat → Except Int (B × Nat)
  | 0, out, used => .ok (out, used)
  | k + 1, out, used => match oneS d items out used with
    | .error e => .error e
    | .ok (o, u) => timesS d items k o u
def times (d : Dir) (left : Nat) : Nat := if isStr d.letter || isPl d.letter then 1 else cntS d left
def runS (items : List Item) : List Dir → B → Nat → Except Int (B × Nat)
  | [], out, used => .ok (out, used)
  | d :: l, out, used => match timesS d items (times d (items.length - used)) out used with
    | .error e => .error e
    | .ok (o, u) => runS items l o u
/-- Pack and Used: the bytes, how many items, the error. -/
def packS (form : B) (items : List Item) : Except Int (B × Nat) := match forms form with | none => .error 4 | some l => runS items l [] 0

def sizeS : List Dir → Nat → Option Nat
  | [], n => some n
  | d :: l, n =>
    if d.letter == 64 then sizeS l (max 0 d.count).toNat
    else if d.count = -1 || d.letter == 119 || d.letter == 85 then none
    else if d.letter == 72 then sizeS l (n + (cntS d 0 + 1) / 2)
    else if isStr d.letter || d.letter == 120 then sizeS l (n + cntS d 0)
    else sizeS l (n + cntS d 0 * sz d.letter)

/-! ### Reading -/
/-- A number in groups of 7 bits: the number, how many bytes. -/
def grp : Nat → Nat → Nat → B → Except Int (Int × Nat)
  | _, _, _, [] => .error 14
  | 0, _, _, _ :: _ => .error 5
  | f + 1, n, i, c :: r => if i = 0 ∧ c = 128 then .error 5 else if c < 128 then .ok (n * 128 + c.toNat % 128, i + 1) else grp f (n * 128 + c.toNat % 128) (i + 1) r
def beN (l : B) : Nat := l.foldl (fun n c => n * 256 + c.toNat) 0
/-- A number of a fixed size. -/
def whl (d : Dir) (l : B) : Except Int Int :=
  let u := beN (if hi d then l else l.reverse)
  if sg d.letter then .ok (if u < 2 ^ (8 * l.length - 1) then (u : Int) else (u : Int) - 2 ^ (8 * l.length)) else if u < 2 ^ 63 then .ok (u : Int) else .error 5
/-- A character in utf-8: its code, how many bytes; none: broken. -/
def cont (c : UInt8) : Bool := 128 ≤ c && c < 192
def runeD : B → Option (Nat × Nat)
  | [] => none
  | a :: r =>
    if a < 128 then some (a.toNat, 1)
    else if 192 ≤ a && a < 224 then match r with
      | b :: _ => let n := (a.toNat - 192) * 64 + (b.toNat - 128); if cont b && 128 ≤ n then some (n, 2) else none
      | _ => none
    else if 224 ≤ a && a < 240 then match r with
      | b :: c :: _ => let n := ((a.toNat - 224) * 64 + (b.toNat - 128)) * 64 + (c.toNat - 128); if cont b && cont c && 2048 ≤ n && (n < 55296 || 57343 < n) then some (n, 3) else none
      | _ => none
    else if 240 ≤ a && a < 248 then match r with
      | b :: c :: d :: _ => let n := (((a.toNat - 240) * 64 + (b.toNat - 128)) * 64 + (c.toNat - 128)) * 64 + (d.toNat - 128); if cont b && cont c && cont d && 65536 ≤ n && n ≤ 1114111 then some (n, 4) else none
      | _ => none
    else none
def rdNum (d : Dir) (s : B) : Except Int (Int × Nat) :=
  if d.letter == 119 then grp 9 0 0 s
  else if d.letter == 85 then if s.isEmpty then .error 14 else match runeD s with | some (n, k) => .ok ((n : Int), k) | none => .error 1
  else if s.length < sz d.letter then .error 14 else match whl d (s.take (sz d.letter)) with | .ok n => .ok (n, sz d.letter) | .error e => .error e
end Go.Pack

/-
  Plain Lean: Unpack (no program in sight).
-/
namespace Go.Pack

def hexC (n : Nat) : UInt8 := UInt8.ofNat (if n < 10 then 48 + n else 87 + n)
def hex : B → B
  | [] => []
  | c :: r => hexC (c.toNat / 16) :: hexC (c.toNat % 16) :: hex r
def trimA (s : B) : B := (s.reverse.dropWhile fun c => c == 32 || c == 0).reverse
/-- A text, and how many bytes are read. -/
def cutS (d : Dir) (s : B) : B × Nat :=
  if d.letter == 72 then
    let b := s.take ((cntS d (2 * s.length) + 1) / 2)
    ((hex b).take (cntS d (2 * s.length)), b.length)
  else if d.count = -1 ∧ d.letter == 90 ∧ s.contains 0 then (s.takeWhile (· != 0), (s.takeWhile (· != 0)).length + 1)
  else
    let b := s.take (cntS d s.length)
    (if d.letter == 65 then trimA b else if d.letter == 90 then b.takeWhile (· != 0) else b, b.length)
/-- Numbers as long as there are bytes. -/
def allN (d : Dir) : Nat → B → List Int → Except Int (List Int × B)
  | 0, s, out => .ok (out, s)
  | f + 1, s, out => if s.length < max 1 (sz d.letter) then .ok (out, s) else match rdNum d s with
    | .error e => .error e
    | .ok (n, k) => allN d f (s.drop k) (out ++ [n])
def cntN (d : Dir) : Nat → B → List Int → Except Int (List Int × B)
  | 0, s, out => .ok (out, s)
  | f + 1, s, out => match rdNum d s with
    | .error e => .error e
    | .ok (n, k) => cntN d f (s.drop k) (out ++ [n])
def numsS (d : Dir) (s : B) : Except Int (List Int × B) := if d.count = -1 then allN d (s.length + 1) s [] else cntN d (cntS d 0) s []
def intI (n : Int) : Item := ⟨false, n, []⟩
def unS (whole : B) : List Dir → B → List Item → Except Int (List Item)
  | [], _, out => .ok out
  | d :: l, s, out =>
    if d.letter == 64 then if d.count > whole.length then .error 14 else unS whole l (whole.drop (max 0 d.count).toNat) out
    else if d.letter == 120 then if (max 1 d.count).toNat > s.length then .error 14 else unS whole l (s.drop (max 1 d.count).toNat) out
    else if isStr d.letter then unS whole l (s.drop (cutS d s).2) (out ++ [⟨true, 0, (cutS d s).1⟩])
    else match numsS d s with
      | .error e => .error e
      | .ok (ns, r) => unS whole l r (out ++ ns.map intI)
def unpackS (form s : B) : Except Int (List Item) := match forms form with | none => .error 4 | some l => unS s l s []
end Go.Pack

/-
  Contracts: bytes taken away ahead; counts.
-/
namespace Go.Proofs.YtjkchonpnocffaaGreatDoor
open Go.AX Go.RowKit Go.Pack
set_option maxRecDepth 20000

theorem trimLeftB_eq (c : UInt8) (s : List UInt8) : Lib.trimLeftB s c = s.dropWhile (· == c) := rfl
theorem TrimSp_c (s : List UInt8) : ∀ H, SpecH Tryz.prog 33 (pvs [.string (bs s), .string (bs [32])]) H (Ret (.string (bs (s.dropWhile (· == 32)))) H) := fun H =>
  SpecH.rawP (R := fun r => r = .string (bs (s.dropWhile (· == 32)))) (callOk Tryz.func33 (by kernel_rfl) rfl)
    (fun w _ => (Tryz.strings_TrimLeft_one (bs s) 32 (by decide) w).mono fun e w' ⟨he, hw⟩ => ⟨_, he, by rw [bs_list, trimLeftB_eq]; rfl, by subst hw; exact Below.refl _ _⟩) fun r hr => by subst hr; exact ⟨rfl, rfl⟩
def digL : List UInt8 := [48, 49, 50, 51, 52, 53, 54, 55, 56, 57]
def digTab : List Value := (List.range 256).map fun i => .bool (decide (48 ≤ i) && decide (i ≤ 57))
theorem dig_eq (c : UInt8) : dig c = (decide (48 ≤ c.toNat) && decide (c.toNat ≤ 57)) := rfl
theorem digTab_ok : TabB digTab dig := fun c => by
  have hc := c.toNat_lt
  rw [dig_eq]
  unfold digTab
  rw [List.getElem?_map, List.getElem?_range (by omega)]
  rfl
theorem setCells_dig : (Lib.setCells digL).toList = digTab := by kernel_rfl
theorem setCells_dig' : Lib.setCells digL = digTab.toArray := by apply Array.ext'; rw [setCells_dig]
theorem makeDig_c : ∀ H, SpecH Tryz.prog 51 (pvs [.string (bs digL)]) H (Ret (.tuple #[.agg digTab.toArray, .bool true]) H) := fun H =>
  SpecH.rawP (R := fun r => r = .tuple #[.agg digTab.toArray, .bool true]) (callOk Tryz.func51 (by kernel_rfl) rfl)
    (fun w _ => (Tryz.strings_makeASCIISet (fun w => by obtain ⟨i, hi, hz⟩ := Option.map_eq_some_iff.1 zero_set; exact run_zeroValue hi hz w) (bs digL) w (by decide) (by
      intro j b hj
      rw [bs_list] at hj
      have hall : ∀ x ∈ digL, x.toNat < 128 := by decide
      exact hall b (List.mem_of_getElem? hj))).mono fun e w' ⟨he, hw⟩ => ⟨_, he, by rw [bs_list, setCells_dig'], by subst hw; exact (Below.refl _ w).alloc (Nat.le_refl _) _⟩) fun r hr => by subst hr; exact ⟨rfl, rfl⟩
theorem TrimDig_c (s : List UInt8) : ∀ H, SpecH Tryz.prog 33 (pvs [.string (bs s), .string (bs digL)]) H (Ret (.string (bs (s.dropWhile dig))) H) := by
  refine pureC hm Tryz.func33 (by kernel_rfl) rfl rfl ?_
  (first | refine wX ?_ | exact wZ)
  rw [bs_list]
  refine brd_intro (fun h => ?_) (fun h => ?_)
  · have : s = [] := by simpa using h
    subst this
    (first | refine wX ?_ | exact wZ)
    rfl
  · (first | refine wX ?_ | exact wZ)
    refine call1 (makeDig_c _) ?_
    (first | refine wX ?_ | exact wZ)
    refine callG (trimLeftASCII_c _ digTab dig digTab_ok s) [0] rfl ⟨rfl, trivial⟩ rfl fun _ _ => ?_
    (first | refine wX ?_ | exact wZ)
theorem index_lt (l : List UInt8) (c : UInt8) : Lib.indexByte l c < 0 ↔ l.contains c = false := by
  induction l with
  | nil => simp [Lib.indexByte]
  | cons b l ih =>
    have hge := Lib.indexByte_ge l c
    unfold Lib.indexByte
    cases hb : b == c with
    | true =>
      have hbc : b = c := by simpa using hb
      simp [hbc]
    | false =>
      have hbc : (c == b) = false := by
        have : ¬ b = c := by simpa using hb
        simpa using fun h => this h.symm
      rw [List.contains_cons, hbc, Bool.false_or, ← ih]
      simp only [Bool.false_eq_true, if_false]
      split
      · rename_i h; have : Lib.indexByte l c = -1 := by simpa using h
        omega
      · rename_i h; have : ¬ Lib.indexByte l c = -1 := by simpa using h
        omega
def numSat (ds : List UInt8) : Nat := min (num ds) 1001
theorem num_snoc (ds : List UInt8) (c : UInt8) : num (ds ++ [c]) = num ds * 10 + (c.toNat - 48) := by simp [num]
theorem numSat_snoc (ds : List UInt8) (c : UInt8) : numSat (ds ++ [c]) = min (numSat ds * 10 + (c.toNat - 48)) 1001 := by
  unfold numSat
  rw [num_snoc]
  omega
theorem count_c (ds : List UInt8) (z : Bool) (hd : ∀ c ∈ ds, dig c = true) (hn : ds ≠ []) (hl : ds.length ≤ 1000000) : ∀ H, SpecH Tryz.prog 36 (pvs [.string (bs ds), .bool z]) H (Ret (.tuple #[.int .i64 (numSat ds : Nat), .bool (decide (numSat ds ≤ 1000) && (ds.head? != some 48 || z && ds == [48]))]) H) := by
  refine pureC hm Tryz.func36 (by kernel_rfl) rfl rfl ?_
  (first | refine wX ?_ | exact wZ)
  refine EffW.bytesOf ds rfl Tryz.underlying9 Tryz.underlying48 Tryz.underlying5 rfl (by omega) fun b cap _ _ => ?_
  (first | refine wX ?_ | exact wZ)
  refine loopS Nat (fun i => i ≤ ds.length) (fun i => mkS Tryz.f36.ntmps 0 [(0, .c (.v (.string (bs ds)))), (1, .c (.v (.bool z))), (6, .c (.v (.int .i64 (numSat (ds.take i) : Nat)))), (10, .c (.v (.slice (some ⟨b, 0, none⟩) ds.length cap))), (11, .c (.v (.int .i64 (ds.length : Int)))), (12, .c (.v (.int .i64 (i : Int))))]) (fun i => ds.length - i) rfl (fun _ => rfl) 0 (Nat.zero_le _) ?_ fun i hi => ?_
  · (repeat' (first | exact trivial | refine And.intro (by with_reducible rfl) ?_ | (with_reducible exact wkC_refl _) | (with_reducible exact wkCs_refl _) | refine And.intro ?_ ?_))
    all_goals rfl
  (first | refine wX ?_ | exact wZ)
  refine brd_dec (fun h1 => ?_) (fun h1 => ?_)
  · obtain ⟨c, hc⟩ : ∃ c, ds[i]? = some c := ⟨_, List.getElem?_eq_getElem (by omega)⟩
    have hdc := hd c (List.mem_of_getElem? hc)
    rw [dig_eq, Bool.and_eq_true, decide_eq_true_eq, decide_eq_true_eq] at hdc
    have hs := numSat_snoc (ds.take i) c
    rw [← take_snoc hc] at hs
    have hb : numSat (ds.take i) ≤ 1001 := Nat.min_le_right _ _
    (first | refine wX ?_ | exact wZ)
    refine Nd.mk ⟨rfl, by omega, by omega⟩ ?_
    (first | refine wX ?_ | exact wZ)
    refine LdN.one (.int .u8 (c.toNat : Int)) rfl (fun w hw => hw.1) (show (u8s ds)[i * 1]? = _ by rw [Nat.mul_one]; simp [u8s, hc]) ?_
    (conv => whnf)
    refine VrN.keep ?_
    (conv => whnf)
    refine VrN.norm (m := ((numSat (ds.take (i + 1)) : Nat) : Int)) (by
      rw [hs, wrap_u8 (x := (c.toNat : Int) - 48) (by omega), wrap_i64 (x := (c.toNat : Int) - 48) (by omega), wrap_i64 (x := ((numSat (ds.take i) : Nat) : Int) * 10) (by omega), wrap_i64 (by omega)]
      unfold minI
      split <;> omega) ?_
    (first | refine wX ?_ | exact wZ)
    refine ⟨i + 1, by omega, by omega, ?_, by (repeat' (first | exact trivial | exact wkE_refl _ | refine And.intro ?_ ?_))⟩
    (repeat' (first | exact trivial | refine And.intro (by with_reducible rfl) ?_ | (with_reducible exact wkC_refl _) | (with_reducible exact wkCs_refl _) | refine And.intro ?_ ?_))
    all_goals exact av_int (by first | omega | (rw [wrap_i64 (by omega)]; omega))
  · have hil : i = ds.length := by omega
    subst hil
    rw [List.take_length]
    obtain ⟨c, r, rfl⟩ := List.exists_cons_of_ne_nil hn
    have hb0 : byteAt (bs (c :: r)) (Int.toNat 0) = (c.toNat : Int) := byteAt_get rfl
    have hz := bs_size (c :: r)
    have hne : ((c.toNat : Int) != 48) = ((c :: r).head? != some 48) := by
      have h2 := u8_eq (c := c) (n := 48) (by decide)
      rw [bne, show ((c.toNat : Int) == 48) = (c == 48) from h2]
      rfl
    (first | refine wX ?_ | exact wZ)
    refine brd_dec (fun h2 => ?_) (fun h2 => ?_)
    · rw [decide_eq_true (show numSat (c :: r) ≤ 1000 by omega), Bool.true_and]
      (first | refine wX ?_ | exact wZ)
      refine Nd.mk ⟨by omega, by rw [hz]; simp⟩ ?_
      rw [hb0]
      (first | refine wX ?_ | exact wZ)
      rw [hne]
      refine brd_intro (fun h3 => ?_) (fun h3 => ?_)
      · rw [h3]
        (first | refine wX ?_ | exact wZ)
        rfl
      · rw [h3]
        (first | refine wX ?_ | exact wZ)
        refine brd_intro (fun h4 => ?_) (fun h4 => ?_)
        · rw [h4]
          (first | refine wX ?_ | exact wZ)
          rw [bs_list]
          rfl
        · rw [h4]
          (first | refine wX ?_ | exact wZ)
          rfl
    · rw [decide_eq_false (show ¬ numSat (c :: r) ≤ 1000 by omega)]
      (first | refine wX ?_ | exact wZ)
      rfl
end Go.Proofs.YtjkchonpnocffaaGreatDoor

/-
  Plain Lean: a form, directive by directive.
-/
namespace Go.Pack
/-- Directives that were read, and what is left. -/
def ext (l : List Dir) (rest : B) : Option (List Dir) := (dirs rest).bind fun m => if (l ++ m).length ≤ 50 then some (l ++ m) else none
theorem ext_start (s : B) : ext [] (s.dropWhile (· == 32)) = forms s := by
  unfold ext forms
  rw [dirs_drop]
  cases dirs s <;> rfl
theorem ext_end (l : List Dir) (h : l.length ≤ 50) : ext l [] = some l := by
  simp [ext, dirs_nil, h]
theorem ext_bad {c : UInt8} {r : B} (l : List Dir) (hc : c ≠ 32) (h : one c r = none) : ext l (c :: r) = none := by
  unfold ext
  rw [dirs_cons hc, h]
  rfl
theorem ext_full {c : UInt8} {r : B} (l : List Dir) (hc : c ≠ 32) (h : l.length = 50) : ext l (c :: r) = none := by
  unfold ext
  rw [dirs_cons hc]
  cases one c r with
  | none => rfl
  | some x =>
    cases hd : dirs x.2 with
    | none => simp [hd]
    | some m =>
      simp only [hd, Option.map_some, Option.bind_some]
      rw [if_neg (by simp; omega)]
theorem ext_next {c : UInt8} {r r' : B} {d : Dir} (l : List Dir) (hc : c ≠ 32) (h : one c r = some (d, r')) : ext l (c :: r) = ext (l ++ [d]) (r'.dropWhile (· == 32)) := by
  unfold ext
  rw [dirs_cons hc, h, dirs_drop]
  simp only
  cases dirs r' with
  | none => rfl
  | some m => simp
theorem drop_head {s : B} {c : UInt8} {r : B} (h : s.dropWhile (· == 32) = c :: r) : c ≠ 32 := by
  intro h2
  subst h2
  have : ∀ s : B, s.dropWhile (· == 32) ≠ 32 :: r := by
    intro s
    induction s with
    | nil => intro h; cases h
    | cons a s ih =>
      intro h
      by_cases ha : a = 32
      · subst ha
        exact ih h
      · rw [List.dropWhile_cons_of_neg (by simpa using ha)] at h
        cases h
        exact ha rfl
  exact this s h
theorem pre_not {a : UInt8} {r : B} (h : [a].isPrefixOf r = false) : ¬ (r.head? == some a) = true := by
  cases r with
  | nil => intro h2; cases h2
  | cons b q =>
    intro h2
    have : b = a := by simpa using h2
    subst this
    simp [List.isPrefixOf] at h
theorem one_sign {c : UInt8} {r : B} (hl : letters.contains c = true) (hb : bigs.contains c = true) : one c (62 :: r) = (cnt c r).map fun x => (⟨c, true, x.1⟩, x.2) := by
  unfold one
  rw [if_pos hl, if_pos (by rfl), if_pos hb]
  rfl
theorem one_bare {c : UInt8} {r : B} (hl : letters.contains c = true) (h : [62].isPrefixOf r = false) : one c r = (cnt c r).map fun x => (⟨c, false, x.1⟩, x.2) := by
  unfold one
  rw [if_pos hl, if_neg]
  exact pre_not h
theorem one_letter {c : UInt8} {r : B} (hl : letters.contains c = false) : one c r = none := by
  unfold one
  rw [if_neg (by rw [hl]; simp)]
theorem one_small {c : UInt8} {r : B} (hb : bigs.contains c = false) : one c (62 :: r) = none := by
  unfold one
  split
  · rw [if_pos (by rfl), if_neg (by rw [hb]; simp)]
  · rfl
theorem cnt_star {c : UInt8} {r : B} : cnt c (42 :: r) = if c == 120 || c == 64 then none else some (-1, r) := by
  unfold cnt
  rw [if_pos (by rfl)]
  rfl
theorem cnt_none {c : UInt8} {r : B} (h : [42].isPrefixOf r = false) (hd : r.takeWhile dig = []) : cnt c r = some (-2, r) := by
  unfold cnt
  rw [if_neg, if_pos (by rw [hd]; rfl)]
  exact pre_not h
theorem cnt_dig {c : UInt8} {r : B} (h : [42].isPrefixOf r = false) (hd : r.takeWhile dig ≠ []) : cnt c r = if fine c (r.takeWhile dig) then some ((num (r.takeWhile dig) : Int), r.dropWhile dig) else none := by
  unfold cnt
  rw [if_neg, if_neg (by simpa using hd)]
  exact pre_not h
theorem pre_one {a : UInt8} {r : B} (h : [a].isPrefixOf r = true) : ∃ q, r = a :: q := by
  cases r with
  | nil => simp [List.isPrefixOf] at h
  | cons b q =>
    have : a = b := by simpa [List.isPrefixOf] using h
    exact ⟨q, by rw [this]⟩
theorem tw_len (r : B) : (r.takeWhile dig).length + (r.dropWhile dig).length = r.length := by
  rw [← List.length_append, List.takeWhile_append_dropWhile]
theorem tw_take (r : B) : r.take (r.takeWhile dig).length = r.takeWhile dig ∧ r.drop (r.takeWhile dig).length = r.dropWhile dig := by
  have h := List.takeWhile_append_dropWhile (p := dig) (l := r)
  constructor
  · conv => lhs; arg 2; rw [← h]
    exact List.take_left
  · conv => lhs; arg 2; rw [← h]
    exact List.drop_left
theorem tw_all : ∀ (r : B), ∀ c ∈ r.takeWhile dig, dig c = true
  | [], c, h => by cases h
  | a :: r, c, h => by
    cases ha : dig a with
    | true =>
      rw [List.takeWhile_cons_of_pos ha] at h
      rcases List.mem_cons.1 h with h | h
      · rw [h]; exact ha
      · exact tw_all r c h
    | false =>
      rw [List.takeWhile_cons_of_neg (by simp [ha])] at h
      cases h
theorem dr_next {c : UInt8} {r r' : B} {d : Dir} (l : List Dir) (hc : c ≠ 32) (h : one c r = some (d, r')) : (dirs (c :: r)).map (l ++ ·) = (dirs r').map ((l ++ [d]) ++ ·) := by
  rw [dirs_cons hc, h]
  simp only
  cases dirs r' with
  | none => rfl
  | some m => simp
theorem dr_bad {c : UInt8} {r : B} (l : List Dir) (hc : c ≠ 32) (h : one c r = none) : (dirs (c :: r)).map (l ++ ·) = none := by
  rw [dirs_cons hc, h]
  rfl
theorem forms_none {s : B} (h : dirs s = none) : forms s = none := by unfold forms; rw [h]
theorem take_one {s : B} {i : Nat} {c : UInt8} {r : B} (h : s.drop i = c :: r) : (s.take (i + 1)).drop i = [c] := by
  rw [List.drop_take, h, show i + 1 - i = 1 by omega]
  rfl
def numBig (ds : B) : Nat := min (num ds) 100000
theorem numBig_snoc (ds : B) (c : UInt8) : numBig (ds ++ [c]) = min (numBig ds * 10 + (c.toNat - 48)) 100000 := by
  unfold numBig
  rw [show num (ds ++ [c]) = num ds * 10 + (c.toNat - 48) by simp [num]]
  omega
end Go.Pack

/-
  Contract: the program's reader of forms.
-/
namespace Go.Proofs.YtjkchonpnocffaaGreatDoor
open Go.AX Go.RowKit Go.Pack
set_option maxRecDepth 20000

def dirC (d : Dir) : List Value := [.int .u8 (d.letter.toNat : Int), .bool d.big, .int .i64 d.count]
def dirsC (l : List Dir) : List Value := l.flatMap dirC
theorem dirsC_get (l : List Dir) (i j : Nat) (hj : j < 3) {d : Dir} (hd : l[i]? = some d) : (dirsC l)[i * 3 + j]? = (dirC d)[j]? := by
  unfold dirsC
  rw [flat_get (g := dirC) (m := 3) (fun _ => rfl) l i j hj, hd]
  rfl
theorem fine_eq (c : UInt8) (ds : List UInt8) : (decide (numSat ds ≤ 1000) && (ds.head? != some 48 || (c == 64) && ds == [48])) = fine c ds := by
  unfold fine numSat
  congr 1
  exact decide_eq_decide.2 (by omega)
/-- The directives of a form in memory that nobody writes; or the form is malformed. -/
def ReadR : Option (List Dir) → Value → (World → Prop) → Prop
  | none, v, _ => ∃ y n cap, v = .tuple #[.slice y n cap, .bool false]
  | some l, v, G => ∃ ob cap, v = .tuple #[.slice (at0 ob) l.length cap, .bool true] ∧ (ob = none → l = []) ∧ ∀ w, G w → SlAt (at0 ob) (l.length * 3) (dirsC l) w
theorem read_c (s : List UInt8) (hs : s.length ≤ 100000) : SpecF Tryz.prog 13 [.string (bs s)] (fun _ => True) (ReadR (forms s)) := by
  refine specF hm Tryz.func13 (by kernel_rfl) rfl rfl ?_
  (first | refine wX ?_ | exact wZ)
  refine call1 (TrimSp_c s _) ?_
  (first | refine wX ?_ | exact wZ)
  refine LoopN.intro (List Dir × List UInt8 × Option Nat × Nat) (fun ⟨l, r, ob, cap⟩ => (∀ c r', r = c :: r' → c ≠ 32) ∧ ext l r = forms s ∧ (ob = none → l = [] ∧ cap = 0) ∧ l.length ≤ 50 ∧ r.length ≤ s.length)
    (fun ⟨l, r, ob, cap⟩ => mkS Tryz.f13.ntmps 0 [(0, .c (.v (.string (bs r)))), (4, .c (.v (.slice (at0 ob) l.length cap)))])
    (fun ⟨l, _, ob, cap⟩ => [.fact fun _ => True, .app 58 3 (dirsC l) (at0 ob) l.length cap]) (fun ⟨_, r, _⟩ => r.length) [.app 0 0 [] none 0 0] rfl
    (fun _ => rfl) (fun _ => rfl) (fun _ _ => okHB_eq rfl) ⟨([], s.dropWhile (· == 32), none, 0), ⟨fun c r' h => drop_head h, ext_start s, fun _ => ⟨rfl, rfl⟩, Nat.zero_le _, (List.dropWhile_sublist _).length_le⟩, ?_, ⟨wkE_refl _, wkE_nil, wkH_nil _⟩⟩ ?_
  · (repeat' (first | exact trivial | refine And.intro (by with_reducible rfl) ?_ | (with_reducible exact wkC_refl _) | (with_reducible exact wkCs_refl _) | refine And.intro ?_ ?_))
    all_goals rfl
  rintro ⟨l, r, ob, cap⟩ ⟨h32, hx, hob, h50, hlr⟩
  cases r with
  | nil =>
    rw [ext_end l h50] at hx
    (first | refine wX ?_ | exact wZ)
    rw [← hx]
    exact fin_p _ ⟨ob, cap, rfl, fun h => (hob h).1, fun w hw => hw⟩ (fun w hw => hw.2.1)
  | cons c r =>
    have hc := h32 c r rfl
    have hb0 : byteAt (bs (c :: r)) (Int.toNat 0) = (c.toNat : Int) := byteAt_get rfl
    (first | refine wX ?_ | exact wZ)
    refine Nd.mk ⟨by omega, by rw [bs_size]; simp⟩ ?_
    rw [hb0]
    (first | refine wX ?_ | exact wZ)
    refine call1 (IndexByte_c letters c _) ?_
    (first | refine wX ?_ | exact wZ)
    refine brd_dec (fun h1 => ?_) (fun h1 => ?_)
    · have hl := (index_lt letters c).1 h1
      (first | refine wX ?_ | exact wZ)
      rw [← hx, ext_bad l hc (one_letter hl)]
      exact fin_v ⟨_, _, _, rfl⟩
    have hl : letters.contains c = true := by
      cases hl : letters.contains c with
      | true => rfl
      | false => exact absurd ((index_lt letters c).2 hl) h1
    (first | refine wX ?_ | exact wZ)
    refine brd_eq (fun h2 => ?_) (fun h2 => ?_)
    ·
      (first | refine wX ?_ | exact wZ)
      rw [← hx, ext_full l hc (by omega)]
      exact fin_v ⟨_, _, _, rfl⟩
    (first | refine wX ?_ | exact wZ)
    refine ReadW.tl rfl Tryz.underlying9 rfl rfl ?_
    (first | refine wX ?_ | exact wZ)
    refine call1 (HasPrefix_c r [62] _) ?_
    cases hsg : [62].isPrefixOf r with
    | true =>
      obtain ⟨r1, rfl⟩ := pre_one hsg
      (first | refine wX ?_ | exact wZ)
      refine call1 (IndexByte_c bigs c _) ?_
      (first | refine wX ?_ | exact wZ)
      refine brd_dec (fun h3 => ?_) (fun h3 => ?_)
      ·
        (first | refine wX ?_ | exact wZ)
        rw [← hx, ext_bad l hc (one_small ((index_lt bigs c).1 h3))]
        exact fin_v ⟨_, _, _, rfl⟩
      have hb : bigs.contains c = true := by
        cases hb : bigs.contains c with
        | true => rfl
        | false => exact absurd ((index_lt bigs c).2 hb) h3
      (first | refine wX ?_ | exact wZ)
      refine DrawN.plan [0, 2] [(1, 2)] [(3, 0), (4, 0)] (by decide +kernel) ?_
      (first | refine wX ?_ | exact wZ)
      refine BlindW.tl rfl Tryz.underlying9 rfl rfl ?_
      -- the count behind the sign; true: is there one; r1: what is left; one_sign (r := r1) hl hb: one's law
      have htl := tw_len r1
      have htk := tw_take r1
      (first | refine wX ?_ | exact wZ)
      refine call1 (TrimDig_c r1 _) ?_
      (conv => whnf)
      refine VrN.norm (m := (((r1).takeWhile dig).length : Int)) (by
        have h9 : (r1).length ≤ 100000 := by simp at hlr ⊢; omega
        have e1 : ∀ z : List UInt8, (bs z).size = z.length := bs_size
        simp only [e1]
        rw [wrap_i64 (by simp at *; omega)]
        simp at *; omega) ?_
      (first | refine wX ?_ | exact wZ)
      refine call1 (HasPrefix_c r1 [42] _) ?_
      cases hst : [42].isPrefixOf r1 with
      | true =>
        have ho := one_sign (r := r1) hl hb
        obtain ⟨r2, rfl⟩ := pre_one hst
        rw [cnt_star] at ho
        (first | refine wX ?_ | exact wZ)
        refine DrawN.plan [0, 2] [(1, 2)] [(3, 0), (4, 0)] (by decide +kernel) ?_
        (first | refine wX ?_ | exact wZ)
        refine BlindW.tl rfl Tryz.underlying9 rfl rfl ?_
        (first | refine wX ?_ | exact wZ)
        have h120 : ((c.toNat : Int) == 120) = (c == 120) := u8_eq (n := 120) (by decide)
        have h64 : ((c.toNat : Int) == 64) = (c == 64) := u8_eq (n := 64) (by decide)
        refine brd_eq (fun h5 => ?_) (fun h5 => ?_)
        · have h6 : (c == 120) = true := by rw [← h120]; simpa using h5
          rw [h6] at ho
          (first | refine wX ?_ | exact wZ)
          rw [← hx, ext_bad l hc ho]
          exact fin_v ⟨_, _, _, rfl⟩
        have h6 : (c == 120) = false := by rw [← h120]; simpa using h5
        (first | refine wX ?_ | exact wZ)
        refine brd_eq (fun h7 => ?_) (fun h7 => ?_)
        · have h8 : (c == 64) = true := by rw [← h64]; simpa using h7
          rw [h8, Bool.or_true] at ho
          (first | refine wX ?_ | exact wZ)
          rw [← hx, ext_bad l hc ho]
          exact fin_v ⟨_, _, _, rfl⟩
        have h8 : (c == 64) = false := by rw [← h64]; simpa using h7
        rw [h6, h8] at ho
        -- the directive d is put behind the others
        (first | refine wX ?_ | exact wZ)
        refine Nd.mk ⟨Nat.le_refl 1, rfl, rfl⟩ ?_
        (conv => whnf)
        refine AppN.grow 1 (dirsC l) (dirC ⟨c, true, (-1)⟩) rfl rfl ⟨Nat.le_refl 1, ⟨by show (l.length + 1) * 16 ≤ _; omega, by omega⟩, by show 3 ≠ 0; omega⟩ fun b' cap' h1 h2 => ?_
        (first | refine wX ?_ | exact wZ)
        refine call1 (TrimSp_c r2 _) ?_
        (first | refine wX ?_ | exact wZ)
        refine ⟨(l ++ [⟨c, true, (-1)⟩], (r2).dropWhile (· == 32), some b', cap'), ⟨?_, by rw [← hx, ext_next l hc ho], (fun h => by cases h), by simp; omega, (by have := (List.dropWhile_sublist (l := r2) fun x : UInt8 => x == 32).length_le; have := one_len ho; simp at this hlr ⊢; omega)⟩, ?_, ?_, ?_⟩
        · intro c' r' he
          exact drop_head he
        · refine Nat.lt_of_le_of_lt (List.dropWhile_sublist (l := r2) fun x : UInt8 => x == 32).length_le ?_
          have h5 := one_len ho
          first | (simp at h5 ⊢; omega) | (simp; done)
        · (repeat' (first | exact trivial | refine And.intro (by with_reducible rfl) ?_ | (with_reducible exact wkC_refl _) | (with_reducible exact wkCs_refl _) | refine And.intro ?_ ?_))
          all_goals simp [at0]
        · exact ⟨wkE_refl _, .inl ⟨rfl, rfl, by simp [dirsC], rfl, by simp, rfl⟩, wkH_nil _⟩
      | false =>
        (first | refine wX ?_ | exact wZ)
        refine brd_dec (fun h5 => ?_) (fun h5 => ?_)
        · have hne : (r1).takeWhile dig ≠ [] := fun h => by rw [h] at h5; simp at h5
          have ho := one_sign (r := r1) hl hb
          rw [cnt_dig hst hne] at ho
          have hfe := fine_eq c ((r1).takeWhile dig)
          have h64 : ((c.toNat : Int) == 64) = (c == 64) := u8_eq (n := 64) (by decide)
          have hlt : ((r1).takeWhile dig).length ≤ 1000000 := by simp at hlr htl ⊢; omega
          (first | refine wX ?_ | exact wZ)
          refine ReadW.sl_h ((r1).takeWhile dig).length rfl Tryz.underlying9 rfl rfl ⟨rfl, by omega⟩ ?_
          rw [htk.1]
          (first | refine wX ?_ | exact wZ)
          rw [h64]
          refine callQ (count_c ((r1).takeWhile dig) (c == 64) (tw_all _) hne hlt _) ?_
          rw [hfe]
          (first | refine wX ?_ | exact wZ)
          refine brd_not (brd_intro (fun h6 => ?_) (fun h6 => ?_))
          · rw [if_pos h6] at ho
            have hnum : numSat ((r1).takeWhile dig) = num ((r1).takeWhile dig) := by
              unfold fine at h6
              simp only [Bool.and_eq_true, decide_eq_true_eq] at h6
              unfold numSat
              omega
            rw [hnum]
            generalize num ((r1).takeWhile dig) = q at *
            (first | refine wX ?_ | exact wZ)
            refine DrawN.plan [0, 1, 2, 4] [(3, 2)] [(5, 0), (6, 0)] (by decide +kernel) ?_
            (first | refine wX ?_ | exact wZ)
            refine BlindW.sl_l ((r1).takeWhile dig).length rfl Tryz.underlying9 rfl rfl ⟨rfl, by omega⟩ ?_
            rw [htk.2]
            (first | refine wX ?_ | exact wZ)
            -- the directive d is put behind the others
            (first | refine wX ?_ | exact wZ)
            refine Nd.mk ⟨Nat.le_refl 1, rfl, rfl⟩ ?_
            (conv => whnf)
            refine AppN.grow 1 (dirsC l) (dirC ⟨c, true, (q : Int)⟩) rfl rfl ⟨Nat.le_refl 1, ⟨by show (l.length + 1) * 16 ≤ _; omega, by omega⟩, by show 3 ≠ 0; omega⟩ fun b' cap' h1 h2 => ?_
            (first | refine wX ?_ | exact wZ)
            refine call1 (TrimSp_c ((r1).dropWhile dig) _) ?_
            (first | refine wX ?_ | exact wZ)
            refine ⟨(l ++ [⟨c, true, (q : Int)⟩], (((r1).dropWhile dig)).dropWhile (· == 32), some b', cap'), ⟨?_, by rw [← hx, ext_next l hc ho], (fun h => by cases h), by simp; omega, (by have := (List.dropWhile_sublist (l := ((r1).dropWhile dig)) fun x : UInt8 => x == 32).length_le; have := one_len ho; simp at this hlr ⊢; omega)⟩, ?_, ?_, ?_⟩
            · intro c' r' he
              exact drop_head he
            · refine Nat.lt_of_le_of_lt (List.dropWhile_sublist (l := ((r1).dropWhile dig)) fun x : UInt8 => x == 32).length_le ?_
              have h5 := one_len ho
              first | (simp at h5 ⊢; omega) | (simp; done)
            · (repeat' (first | exact trivial | refine And.intro (by with_reducible rfl) ?_ | (with_reducible exact wkC_refl _) | (with_reducible exact wkCs_refl _) | refine And.intro ?_ ?_))
              all_goals simp [at0]
            · exact ⟨wkE_refl _, .inl ⟨rfl, rfl, by simp [dirsC], rfl, by simp, rfl⟩, wkH_nil _⟩
          · rw [if_neg (by rw [h6]; simp)] at ho
            (first | refine wX ?_ | exact wZ)
            rw [← hx, ext_bad l hc ho]
            exact fin_v ⟨_, _, _, rfl⟩
        · have htw : (r1).takeWhile dig = [] := List.eq_nil_of_length_eq_zero (by omega)
          have ho := one_sign (r := r1) hl hb
          rw [cnt_none hst htw] at ho
          -- the directive d is put behind the others
          (first | refine wX ?_ | exact wZ)
          refine Nd.mk ⟨Nat.le_refl 1, rfl, rfl⟩ ?_
          (conv => whnf)
          refine AppN.grow 1 (dirsC l) (dirC ⟨c, true, (-2)⟩) rfl rfl ⟨Nat.le_refl 1, ⟨by show (l.length + 1) * 16 ≤ _; omega, by omega⟩, by show 3 ≠ 0; omega⟩ fun b' cap' h1 h2 => ?_
          (first | refine wX ?_ | exact wZ)
          refine call1 (TrimSp_c r1 _) ?_
          (first | refine wX ?_ | exact wZ)
          refine ⟨(l ++ [⟨c, true, (-2)⟩], (r1).dropWhile (· == 32), some b', cap'), ⟨?_, by rw [← hx, ext_next l hc ho], (fun h => by cases h), by simp; omega, (by have := (List.dropWhile_sublist (l := r1) fun x : UInt8 => x == 32).length_le; have := one_len ho; simp at this hlr ⊢; omega)⟩, ?_, ?_, ?_⟩
          · intro c' r' he
            exact drop_head he
          · refine Nat.lt_of_le_of_lt (List.dropWhile_sublist (l := r1) fun x : UInt8 => x == 32).length_le ?_
            have h5 := one_len ho
            first | (simp at h5 ⊢; omega) | (simp; done)
          · (repeat' (first | exact trivial | refine And.intro (by with_reducible rfl) ?_ | (with_reducible exact wkC_refl _) | (with_reducible exact wkCs_refl _) | refine And.intro ?_ ?_))
            all_goals simp [at0]
          · exact ⟨wkE_refl _, .inl ⟨rfl, rfl, by simp [dirsC], rfl, by simp, rfl⟩, wkH_nil _⟩
    | false =>
      -- the count behind the sign; false: is there one; r: what is left; one_bare hl hsg: one's law
      have htl := tw_len r
      have htk := tw_take r
      (first | refine wX ?_ | exact wZ)
      refine call1 (TrimDig_c r _) ?_
      (conv => whnf)
      refine VrN.norm (m := (((r).takeWhile dig).length : Int)) (by
        have h9 : (r).length ≤ 100000 := by simp at hlr ⊢; omega
        have e1 : ∀ z : List UInt8, (bs z).size = z.length := bs_size
        simp only [e1]
        rw [wrap_i64 (by simp at *; omega)]
        simp at *; omega) ?_
      (first | refine wX ?_ | exact wZ)
      refine call1 (HasPrefix_c r [42] _) ?_
      cases hst : [42].isPrefixOf r with
      | true =>
        have ho := one_bare hl hsg
        obtain ⟨r2, rfl⟩ := pre_one hst
        rw [cnt_star] at ho
        (first | refine wX ?_ | exact wZ)
        refine DrawN.plan [0, 2] [(1, 2)] [(3, 0), (4, 0)] (by decide +kernel) ?_
        (first | refine wX ?_ | exact wZ)
        refine BlindW.tl rfl Tryz.underlying9 rfl rfl ?_
        (first | refine wX ?_ | exact wZ)
        have h120 : ((c.toNat : Int) == 120) = (c == 120) := u8_eq (n := 120) (by decide)
        have h64 : ((c.toNat : Int) == 64) = (c == 64) := u8_eq (n := 64) (by decide)
        refine brd_eq (fun h5 => ?_) (fun h5 => ?_)
        · have h6 : (c == 120) = true := by rw [← h120]; simpa using h5
          rw [h6] at ho
          (first | refine wX ?_ | exact wZ)
          rw [← hx, ext_bad l hc ho]
          exact fin_v ⟨_, _, _, rfl⟩
        have h6 : (c == 120) = false := by rw [← h120]; simpa using h5
        (first | refine wX ?_ | exact wZ)
        refine brd_eq (fun h7 => ?_) (fun h7 => ?_)
        · have h8 : (c == 64) = true := by rw [← h64]; simpa using h7
          rw [h8, Bool.or_true] at ho
          (first | refine wX ?_ | exact wZ)
          rw [← hx, ext_bad l hc ho]
          exact fin_v ⟨_, _, _, rfl⟩
        have h8 : (c == 64) = false := by rw [← h64]; simpa using h7
        rw [h6, h8] at ho
        -- the directive d is put behind the others
        (first | refine wX ?_ | exact wZ)
        refine Nd.mk ⟨Nat.le_refl 1, rfl, rfl⟩ ?_
        (conv => whnf)
        refine AppN.grow 1 (dirsC l) (dirC ⟨c, false, (-1)⟩) rfl rfl ⟨Nat.le_refl 1, ⟨by show (l.length + 1) * 16 ≤ _; omega, by omega⟩, by show 3 ≠ 0; omega⟩ fun b' cap' h1 h2 => ?_
        (first | refine wX ?_ | exact wZ)
        refine call1 (TrimSp_c r2 _) ?_
        (first | refine wX ?_ | exact wZ)
        refine ⟨(l ++ [⟨c, false, (-1)⟩], (r2).dropWhile (· == 32), some b', cap'), ⟨?_, by rw [← hx, ext_next l hc ho], (fun h => by cases h), by simp; omega, (by have := (List.dropWhile_sublist (l := r2) fun x : UInt8 => x == 32).length_le; have := one_len ho; simp at this hlr ⊢; omega)⟩, ?_, ?_, ?_⟩
        · intro c' r' he
          exact drop_head he
        · refine Nat.lt_of_le_of_lt (List.dropWhile_sublist (l := r2) fun x : UInt8 => x == 32).length_le ?_
          have h5 := one_len ho
          first | (simp at h5 ⊢; omega) | (simp; done)
        · (repeat' (first | exact trivial | refine And.intro (by with_reducible rfl) ?_ | (with_reducible exact wkC_refl _) | (with_reducible exact wkCs_refl _) | refine And.intro ?_ ?_))
          all_goals simp [at0]
        · exact ⟨wkE_refl _, .inl ⟨rfl, rfl, by simp [dirsC], rfl, by simp, rfl⟩, wkH_nil _⟩
      | false =>
        (first | refine wX ?_ | exact wZ)
        refine brd_dec (fun h5 => ?_) (fun h5 => ?_)
        · have hne : (r).takeWhile dig ≠ [] := fun h => by rw [h] at h5; simp at h5
          have ho := one_bare hl hsg
          rw [cnt_dig hst hne] at ho
          have hfe := fine_eq c ((r).takeWhile dig)
          have h64 : ((c.toNat : Int) == 64) = (c == 64) := u8_eq (n := 64) (by decide)
          have hlt : ((r).takeWhile dig).length ≤ 1000000 := by simp at hlr htl ⊢; omega
          (first | refine wX ?_ | exact wZ)
          refine ReadW.sl_h ((r).takeWhile dig).length rfl Tryz.underlying9 rfl rfl ⟨rfl, by omega⟩ ?_
          rw [htk.1]
          (first | refine wX ?_ | exact wZ)
          rw [h64]
          refine callQ (count_c ((r).takeWhile dig) (c == 64) (tw_all _) hne hlt _) ?_
          rw [hfe]
          (first | refine wX ?_ | exact wZ)
          refine brd_not (brd_intro (fun h6 => ?_) (fun h6 => ?_))
          · rw [if_pos h6] at ho
            have hnum : numSat ((r).takeWhile dig) = num ((r).takeWhile dig) := by
              unfold fine at h6
              simp only [Bool.and_eq_true, decide_eq_true_eq] at h6
              unfold numSat
              omega
            rw [hnum]
            generalize num ((r).takeWhile dig) = q at *
            (first | refine wX ?_ | exact wZ)
            refine DrawN.plan [0, 1, 2, 4] [(3, 2)] [(5, 0), (6, 0)] (by decide +kernel) ?_
            (first | refine wX ?_ | exact wZ)
            refine BlindW.sl_l ((r).takeWhile dig).length rfl Tryz.underlying9 rfl rfl ⟨rfl, by omega⟩ ?_
            rw [htk.2]
            (first | refine wX ?_ | exact wZ)
            -- the directive d is put behind the others
            (first | refine wX ?_ | exact wZ)
            refine Nd.mk ⟨Nat.le_refl 1, rfl, rfl⟩ ?_
            (conv => whnf)
            refine AppN.grow 1 (dirsC l) (dirC ⟨c, false, (q : Int)⟩) rfl rfl ⟨Nat.le_refl 1, ⟨by show (l.length + 1) * 16 ≤ _; omega, by omega⟩, by show 3 ≠ 0; omega⟩ fun b' cap' h1 h2 => ?_
            (first | refine wX ?_ | exact wZ)
            refine call1 (TrimSp_c ((r).dropWhile dig) _) ?_
            (first | refine wX ?_ | exact wZ)
            refine ⟨(l ++ [⟨c, false, (q : Int)⟩], (((r).dropWhile dig)).dropWhile (· == 32), some b', cap'), ⟨?_, by rw [← hx, ext_next l hc ho], (fun h => by cases h), by simp; omega, (by have := (List.dropWhile_sublist (l := ((r).dropWhile dig)) fun x : UInt8 => x == 32).length_le; have := one_len ho; simp at this hlr ⊢; omega)⟩, ?_, ?_, ?_⟩
            · intro c' r' he
              exact drop_head he
            · refine Nat.lt_of_le_of_lt (List.dropWhile_sublist (l := ((r).dropWhile dig)) fun x : UInt8 => x == 32).length_le ?_
              have h5 := one_len ho
              first | (simp at h5 ⊢; omega) | (simp; done)
            · (repeat' (first | exact trivial | refine And.intro (by with_reducible rfl) ?_ | (with_reducible exact wkC_refl _) | (with_reducible exact wkCs_refl _) | refine And.intro ?_ ?_))
              all_goals simp [at0]
            · exact ⟨wkE_refl _, .inl ⟨rfl, rfl, by simp [dirsC], rfl, by simp, rfl⟩, wkH_nil _⟩
          · rw [if_neg (by rw [h6]; simp)] at ho
            (first | refine wX ?_ | exact wZ)
            rw [← hx, ext_bad l hc ho]
            exact fin_v ⟨_, _, _, rfl⟩
        · have htw : (r).takeWhile dig = [] := List.eq_nil_of_length_eq_zero (by omega)
          have ho := one_bare hl hsg
          rw [cnt_none hst htw] at ho
          -- the directive d is put behind the others
          (first | refine wX ?_ | exact wZ)
          refine Nd.mk ⟨Nat.le_refl 1, rfl, rfl⟩ ?_
          (conv => whnf)
          refine AppN.grow 1 (dirsC l) (dirC ⟨c, false, (-2)⟩) rfl rfl ⟨Nat.le_refl 1, ⟨by show (l.length + 1) * 16 ≤ _; omega, by omega⟩, by show 3 ≠ 0; omega⟩ fun b' cap' h1 h2 => ?_
          (first | refine wX ?_ | exact wZ)
          refine call1 (TrimSp_c r _) ?_
          (first | refine wX ?_ | exact wZ)
          refine ⟨(l ++ [⟨c, false, (-2)⟩], (r).dropWhile (· == 32), some b', cap'), ⟨?_, by rw [← hx, ext_next l hc ho], (fun h => by cases h), by simp; omega, (by have := (List.dropWhile_sublist (l := r) fun x : UInt8 => x == 32).length_le; have := one_len ho; simp at this hlr ⊢; omega)⟩, ?_, ?_, ?_⟩
          · intro c' r' he
            exact drop_head he
          · refine Nat.lt_of_le_of_lt (List.dropWhile_sublist (l := r) fun x : UInt8 => x == 32).length_le ?_
            have h5 := one_len ho
            first | (simp at h5 ⊢; omega) | (simp; done)
          · (repeat' (first | exact trivial | refine And.intro (by with_reducible rfl) ?_ | (with_reducible exact wkC_refl _) | (with_reducible exact wkCs_refl _) | refine And.intro ?_ ?_))
            all_goals simp [at0]
          · exact ⟨wkE_refl _, .inl ⟨rfl, rfl, by simp [dirsC], rfl, by simp, rfl⟩, wkH_nil _⟩
end Go.Proofs.YtjkchonpnocffaaGreatDoor

/-
  Contract: the document's reader of forms.
-/
namespace Go.Proofs.YtjkchonpnocffaaGreatDoor
open Go.AX Go.RowKit Go.Pack
set_option maxRecDepth 20000

theorem Contains1_c (s : List UInt8) (c : UInt8) : ∀ H, SpecH Tryz.prog 43 (pvs [.string (bs s), .string (bs [c])]) H (Ret (.bool (s.contains c)) H) := fun H =>
  SpecH.rawP (R := fun r => r = .bool (s.contains c)) (callOk Tryz.func43 (by kernel_rfl) rfl)
    (fun w _ => (Tryz.strings_Contains_one (bs s) c w).mono fun e w' ⟨he, hw⟩ => ⟨_, he, by
      rw [bs_list]
      have := index_lt s c
      have hge := Lib.indexByte_ge s c
      cases hc : s.contains c with
      | true =>
        have h2 : ¬ Lib.indexByte s c < 0 := fun h => by rw [this.1 h] at hc; cases hc
        simp; omega
      | false =>
        have h2 := this.2 hc
        simp; omega, by subst hw; exact Below.refl _ _⟩) fun r hr => by subst hr; exact ⟨rfl, rfl⟩
theorem drop_at {s : List UInt8} {i : Nat} {c : UInt8} {r : List UInt8} (h : s.drop i = c :: r) : byteAt (bs s) i = (c.toNat : Int) ∧ i < s.length ∧ s.drop (i + 1) = r ∧ r.length + i + 1 = s.length := by
  have hl : i < s.length := by
    rcases Nat.lt_or_ge i s.length with h2 | h2
    · exact h2
    · rw [List.drop_eq_nil_iff.2 h2] at h; cases h
  have h2 := List.drop_eq_getElem_cons hl
  rw [h] at h2
  injection h2 with h3 h4
  refine ⟨byteAt_get (by rw [List.getElem?_eq_getElem hl, ← h3]), hl, h4.symm, ?_⟩
  have := congrArg List.length h
  simp at this
  omega
theorem drop_end {s : List UInt8} {i : Nat} (h : s.drop i = []) (hi : i ≤ s.length) : i = s.length := by
  have := List.drop_eq_nil_iff.1 h
  omega
theorem pre_head {x a : UInt8} {r : List UInt8} (h : [x].isPrefixOf (a :: r) = false) : (a == x) = false := by
  cases h2 : a == x with
  | false => rfl
  | true =>
    have : a = x := by simpa using h2
    subst this
    simp [List.isPrefixOf] at h
theorem head_pre {x a : UInt8} {r : List UInt8} (h : (a == x) = false) : [x].isPrefixOf (a :: r) = false := by
  cases h2 : [x].isPrefixOf (a :: r) with
  | false => rfl
  | true =>
    obtain ⟨q, hq⟩ := pre_one h2
    cases hq
    simp at h
theorem drop_not : ∀ {s : List UInt8} {c : UInt8} {r : List UInt8}, s.dropWhile dig = c :: r → dig c = false
  | [], _, _, h => by cases h
  | a :: s, c, r, h => by
    cases ha : dig a with
    | true => rw [List.dropWhile_cons_of_pos ha] at h; exact drop_not h
    | false =>
      rw [List.dropWhile_cons_of_neg (by simp [ha])] at h
      cases h
      exact ha
theorem fine_is {c a : UInt8} {T : List UInt8} (h : T.head? = some a) : fine c T = (decide (num T ≤ 1000) && (!(a == 48) || (c == 64 && decide (T.length = 1)))) := by
  unfold fine
  rw [h]
  congr 1
  by_cases ha : a = 48
  · subst ha
    cases T with
    | nil => cases h
    | cons b T =>
      have hb : b = 48 := by simpa using h
      subst hb
      cases T with
      | nil => rfl
      | cons x T =>
        rw [decide_eq_false (show ¬ (48 :: x :: T).length = 1 by simp)]
        simp
  · rw [show (a == 48) = false by simpa using ha, show (some a != some (48 : UInt8)) = true by simpa using ha]
    rfl
theorem numBig_gt (T : List UInt8) : (1000 < numBig T ↔ 1000 < num T) ∧ (num T ≤ 1000 → numBig T = num T) := by
  unfold numBig
  omega
theorem num_one {a : UInt8} {T : List UInt8} (h : T.head? = some a) (h1 : T.length = 1) (h9 : (a == 48) = true) : num T = 0 := by
  cases T with
  | nil => cases h
  | cons b T =>
    cases T with
    | cons _ _ => simp at h1
    | nil =>
      have hb : b = a := by simpa using h
      have ha : a = 48 := by simpa using h9
      subst hb ha
      rfl
set_option maxHeartbeats 2000000 in
theorem rread_c (s : List UInt8) (hs : s.length ≤ 100000) : SpecF Tryz.prog 18 [.string (bs s)] (fun _ => True) (ReadR (forms s)) := by
  have hz := bs_size s
  refine specF hm Tryz.func18 (by kernel_rfl) rfl rfl ?_
  (first | refine wX ?_ | exact wZ)
  refine LoopN.intro (Nat × List Dir × Option Nat × Nat) (fun ⟨i, l, ob, cap⟩ => i ≤ s.length ∧ (dirs (s.drop i)).map (l ++ ·) = dirs s ∧ (ob = none → l = [] ∧ cap = 0) ∧ l.length ≤ i)
    (fun ⟨i, l, ob, cap⟩ => mkS Tryz.f18.ntmps 0 [(0, .c (.v (.string (bs s)))), (4, .c (.v (.slice (at0 ob) l.length cap))), (5, .c (.v (.int .i64 (i : Int))))])
    (fun ⟨_, l, ob, cap⟩ => [.fact fun _ => True, .app 66 3 (dirsC l) (at0 ob) l.length cap]) (fun ⟨i, _⟩ => s.length + 1 - i) [.app 0 0 [] none 0 0] rfl
    (fun _ => rfl) (fun _ => rfl) (fun _ _ => okHB_eq rfl) ⟨(0, [], none, 0), ⟨Nat.zero_le _, by rw [List.drop_zero]; cases dirs s <;> rfl, fun _ => ⟨rfl, rfl⟩, Nat.le_refl _⟩, ?_, ⟨wkE_refl _, wkE_nil, wkH_nil _⟩⟩ ?_
  · (repeat' (first | exact trivial | refine And.intro (by with_reducible rfl) ?_ | (with_reducible exact wkC_refl _) | (with_reducible exact wkCs_refl _) | refine And.intro ?_ ?_))
    all_goals rfl
  rintro ⟨i, l, ob, cap⟩ ⟨hi, hx, hob, hli⟩
  cases hr0 : s.drop i with
  | nil =>
    have hie := drop_end hr0 hi
    rw [hr0, dirs_nil, Option.map_some, List.append_nil] at hx
    (first | refine wX ?_ | exact wZ)
    rw [hz]
    refine brd_dec (fun h => absurd h (by omega)) (fun _ => ?_)
    by_cases h50 : l.length ≤ 50
    · have hf : forms s = some l := by unfold forms; rw [← hx]; simp [h50]
      (first | refine wX ?_ | exact wZ)
      rw [hf, decide_eq_true (show (l.length : Int) ≤ 50 by omega)]
      exact fin_p _ ⟨ob, cap, rfl, fun h => (hob h).1, fun w hw => hw⟩ (fun w hw => hw.2.1)
    · have hf : forms s = none := by unfold forms; rw [← hx]; simp [h50]
      (first | refine wX ?_ | exact wZ)
      rw [hf, decide_eq_false (show ¬ (l.length : Int) ≤ 50 by omega)]
      exact fin_v ⟨_, _, _, rfl⟩
  | cons c r =>
    obtain ⟨hb, hlt, hdr, hlen⟩ := drop_at hr0
    have hb0 : byteAt (bs s) (Int.toNat (i : Int)) = (c.toNat : Int) := by rw [Int.toNat_natCast]; exact hb
    have h32 : ((c.toNat : Int) == 32) = (c == 32) := u8_eq (n := 32) (by decide)
    (first | refine wX ?_ | exact wZ)
    rw [hz]
    refine brd_dec (fun _ => ?_) (fun h => absurd h (by omega))
    (first | refine wX ?_ | exact wZ)
    rw [hb0]
    refine brd_eq (fun h1 => ?_) (fun h1 => ?_)
    · have hc : c = 32 := by
        have : (c == 32) = true := by rw [← h32]; simpa using h1
        simpa using this
      subst hc
      (first | refine wX ?_ | exact wZ)
      refine ⟨(i + 1, l, ob, cap), ⟨by omega, by rw [hdr, ← hx, hr0, dirs_space], hob, by omega⟩, by show s.length + 1 - (i + 1) < s.length + 1 - i; omega, ?_, ⟨wkE_refl _, wkE_refl _, wkH_nil _⟩⟩
      (repeat' (first | exact trivial | refine And.intro (by with_reducible rfl) ?_ | (with_reducible exact wkC_refl _) | (with_reducible exact wkCs_refl _) | refine And.intro ?_ ?_))
      all_goals exact av_int (by omega)
    have hc : c ≠ 32 := fun h => h1 (by subst h; rfl)
    (first | refine wX ?_ | exact wZ)
    rw [hb0]
    refine ReadW.sl_lh i (i + 1) rfl Tryz.underlying9 rfl rfl rfl ⟨rfl, by rw [wrap_i64 (by omega)]; omega, by omega, by omega⟩ ?_
    rw [take_one hr0]
    (first | refine wX ?_ | exact wZ)
    refine call1 (Contains1_c letters c _) ?_
    cases hl : letters.contains c with
    | false =>
      (first | refine wX ?_ | exact wZ)
      rw [forms_none (by rw [← hx, hr0]; exact dr_bad l hc (one_letter hl))]
      exact fin_v ⟨_, _, _, rfl⟩
    | true =>
    (conv => whnf)
    refine VrN.norm (m := ((i + 1 : Nat) : Int)) (by rw [wrap_i64 (by omega)]; omega) ?_
    (first | refine wX ?_ | exact wZ)
    rw [hz]
    cases hsg : [62].isPrefixOf r with
    | true =>
      obtain ⟨r1, rfl⟩ := pre_one hsg
      have hb9 : byteAt (bs s) (Int.toNat ((i + 1 : Nat) : Int)) = ((62 : UInt8).toNat : Int) := by rw [Int.toNat_natCast]; exact (drop_at hdr).1
      obtain ⟨_, hlt9, hdr2, hlen2⟩ := drop_at hdr
      refine brd_dec (fun _ => ?_) (fun h => absurd h (by omega))
      (first | refine wX ?_ | exact wZ)
      rw [hb9]
      rw [show (((62 : UInt8).toNat : Int) == 62) = true from rfl]
      (first | refine wX ?_ | exact wZ)
      refine ReadW.sl_lh i (i + 1) rfl Tryz.underlying9 rfl rfl rfl ⟨by rw [wrap_i64 (by omega)]; omega, rfl, by omega, by omega⟩ ?_
      rw [take_one hr0]
      (first | refine wX ?_ | exact wZ)
      refine call1 (Contains1_c bigs c _) ?_
      cases hbg : bigs.contains c with
      | false =>
        (first | refine wX ?_ | exact wZ)
        rw [forms_none (by rw [← hx, hr0]; exact dr_bad l hc (one_small hbg))]
        exact fin_v ⟨_, _, _, rfl⟩
      | true =>
      (conv => whnf)
      refine VrN.norm (m := ((i + 2 : Nat) : Int)) (by rw [wrap_i64 (by omega)]; omega) ?_
      (first | refine wX ?_ | exact wZ)
      rw [hz]
      have ho1 := one_sign (r := r1) hl hbg
      cases r1 with
      | nil =>
        -- nothing is left; true: is there a sign; (i + 2): the end; ho1: one's law; hdr2: nothing stands there
        have hje := drop_end hdr2 (by omega)
        have ho := ho1
        rw [cnt_none (by rfl) (by rfl)] at ho
        (first | refine wX ?_ | exact wZ)
        refine brd_dec (fun h => absurd h (by omega)) (fun _ => ?_)
        (first | refine wX ?_ | exact wZ)
        rw [hz]
        refine brd_dec (fun h => absurd h (by omega)) (fun _ => ?_)
        -- the directive with big true and count (-2) is put behind the others; what is left, [], begins at (i + 2)
        (first | refine wX ?_ | exact wZ)
        refine Nd.mk ⟨Nat.le_refl 1, rfl, rfl⟩ ?_
        (conv => whnf)
        refine AppN.grow 1 (dirsC l) (dirC ⟨c, true, (-2)⟩) rfl rfl ⟨Nat.le_refl 1, ⟨by show (l.length + 1) * 16 ≤ _; omega, by omega⟩, by show 3 ≠ 0; omega⟩ fun b' cap' h1 h2 => ?_
        (first | refine wX ?_ | exact wZ)
        refine ⟨((i + 2), l ++ [⟨c, true, (-2)⟩], some b', cap'), ⟨by omega, by rw [← hx, hr0, hdr2]; exact (dr_next l hc ho).symm, (fun h => by cases h), by simp; omega⟩, by show s.length + 1 - ((i + 2)) < s.length + 1 - i; omega, ?_, ?_⟩
        · (repeat' (first | exact trivial | refine And.intro (by with_reducible rfl) ?_ | (with_reducible exact wkC_refl _) | (with_reducible exact wkCs_refl _) | refine And.intro ?_ ?_))
          all_goals first | (simp [at0]; done) | exact av_int (by omega)
        · exact ⟨wkE_refl _, .inl ⟨rfl, rfl, by simp [dirsC], rfl, by simp, rfl⟩, wkH_nil _⟩
      | cons a r2 =>
        -- a and r2 are left; true: is there a sign; (i + 2): where they begin; ho1: one's law; hdr2: they stand there
        obtain ⟨hb1, hlt1, hdr1, hlen1⟩ := drop_at hdr2
        have hb2 : byteAt (bs s) (Int.toNat (((i + 2) : Nat) : Int)) = (a.toNat : Int) := by rw [Int.toNat_natCast]; exact hb1
        have h42 : ((a.toNat : Int) == 42) = (a == 42) := u8_eq (n := 42) (by decide)
        (first | refine wX ?_ | exact wZ)
        refine brd_dec (fun _ => ?_) (fun h => absurd h (by omega))
        (first | refine wX ?_ | exact wZ)
        rw [hb2]
        refine brd_eq (fun h3 => ?_) (fun h3 => ?_)
        · have ha : a = 42 := by
            have : (a == 42) = true := by rw [← h42]; simpa using h3
            simpa using this
          subst ha
          have ho := ho1
          rw [cnt_star] at ho
          have h120 : ((c.toNat : Int) == 120) = (c == 120) := u8_eq (n := 120) (by decide)
          have h64 : ((c.toNat : Int) == 64) = (c == 64) := u8_eq (n := 64) (by decide)
          (first | refine wX ?_ | exact wZ)
          refine brd_eq (fun h5 => ?_) (fun h5 => ?_)
          · have h6 : (c == 120) = true := by rw [← h120]; simpa using h5
            rw [h6] at ho
            (first | refine wX ?_ | exact wZ)
            rw [forms_none (by rw [← hx, hr0]; exact dr_bad l hc ho)]
            exact fin_v ⟨_, _, _, rfl⟩
          have h6 : (c == 120) = false := by rw [← h120]; simpa using h5
          (first | refine wX ?_ | exact wZ)
          refine brd_eq (fun h7 => ?_) (fun h7 => ?_)
          · have h8 : (c == 64) = true := by rw [← h64]; simpa using h7
            rw [h8, Bool.or_true] at ho
            (first | refine wX ?_ | exact wZ)
            rw [forms_none (by rw [← hx, hr0]; exact dr_bad l hc ho)]
            exact fin_v ⟨_, _, _, rfl⟩
          have h8 : (c == 64) = false := by rw [← h64]; simpa using h7
          rw [h6, h8] at ho
          -- the directive with big true and count (-1) is put behind the others; what is left, r2, begins at (i + 2) + 1
          (first | refine wX ?_ | exact wZ)
          refine Nd.mk ⟨Nat.le_refl 1, rfl, rfl⟩ ?_
          (conv => whnf)
          refine AppN.grow 1 (dirsC l) (dirC ⟨c, true, (-1)⟩) rfl rfl ⟨Nat.le_refl 1, ⟨by show (l.length + 1) * 16 ≤ _; omega, by omega⟩, by show 3 ≠ 0; omega⟩ fun b' cap' h1 h2 => ?_
          (first | refine wX ?_ | exact wZ)
          refine ⟨((i + 2) + 1, l ++ [⟨c, true, (-1)⟩], some b', cap'), ⟨by omega, by rw [← hx, hr0, hdr1]; exact (dr_next l hc ho).symm, (fun h => by cases h), by simp; omega⟩, by show s.length + 1 - ((i + 2) + 1) < s.length + 1 - i; omega, ?_, ?_⟩
          · (repeat' (first | exact trivial | refine And.intro (by with_reducible rfl) ?_ | (with_reducible exact wkC_refl _) | (with_reducible exact wkCs_refl _) | refine And.intro ?_ ?_))
            all_goals first | (simp [at0]; done) | exact av_int (by omega)
          · exact ⟨wkE_refl _, .inl ⟨rfl, rfl, by simp [dirsC], rfl, by simp, rfl⟩, wkH_nil _⟩
        · have hst : [42].isPrefixOf (a :: r2) = false := head_pre (by rw [← h42]; simpa using h3)
          (first | refine wX ?_ | exact wZ)
          rw [hz]
          refine brd_dec (fun _ => ?_) (fun h => absurd h (by omega))
          (first | refine wX ?_ | exact wZ)
          rw [hb2]
          refine brd_dec (fun h4 => ?_) (fun h4 => ?_)
          · (first | refine wX ?_ | exact wZ)
            rw [hb2]
            refine brd_dec (fun h5 => ?_) (fun h5 => ?_)
            · have hda : dig a = true := by rw [dig_eq, Bool.and_eq_true, decide_eq_true_eq, decide_eq_true_eq]; omega
              have hT0 : (a :: r2).takeWhile dig = a :: r2.takeWhile dig := List.takeWhile_cons_of_pos hda
              have hTW := (List.takeWhile_append_dropWhile (p := dig) (l := a :: r2)).symm
              have hdg := tw_all (a :: r2)
              have hWd : ∀ c' r', (a :: r2).dropWhile dig = c' :: r' → dig c' = false := fun c' r' h => drop_not h
              have ho := ho1
              rw [cnt_dig hst (by rw [hT0]; simp)] at ho
              have hTh : ((a :: r2).takeWhile dig).head? = some a := by rw [hT0]; rfl
              clear hT0
              generalize hT : (a :: r2).takeWhile dig = T at *
              generalize (a :: r2).dropWhile dig = W at *
              have hdk : ∀ k, k ≤ T.length → s.drop ((i + 2) + k) = T.drop k ++ W := fun k hk => by
                rw [← List.drop_drop, hdr2, hTW, List.drop_append_of_le_length hk]
              (first | refine wX ?_ | exact wZ)
              refine loopS Nat (fun k => k ≤ T.length) (fun k => mkS Tryz.f18.ntmps 0 [(0, .c (.v (.string (bs s)))), (4, .c (.v (.slice (at0 ob) l.length cap))), (5, .c (.v (.int .i64 (((i + 2) + k : Nat) : Int)))), (6, .c (.lp 2 0)), (7, .c (.v (.int .i64 (((i + 2) : Nat) : Int)))), (8, .c (.v (.int .i64 (numBig (T.take k) : Nat))))]) (fun k => T.length + 1 - k) rfl (fun _ => rfl) 0 (Nat.zero_le _) ?_ fun k hk => ?_
              · (repeat' (first | exact trivial | refine And.intro (by with_reducible rfl) ?_ | (with_reducible exact wkC_refl _) | (with_reducible exact wkCs_refl _) | refine And.intro ?_ ?_))
                all_goals rfl
              have hTl : T.length + W.length + (i + 2) = s.length := by
                have := congrArg List.length hTW
                simp at this hlen1
                omega
              by_cases hkl : k < T.length
              · obtain ⟨e, he⟩ : ∃ e, T[k]? = some e := ⟨_, List.getElem?_eq_getElem hkl⟩
                have hde := hdg e (List.mem_of_getElem? he)
                rw [dig_eq, Bool.and_eq_true, decide_eq_true_eq, decide_eq_true_eq] at hde
                have hde2 : s.drop ((i + 2) + k) = e :: (T.drop (k + 1) ++ W) := by
                  rw [hdk k hk]
                  obtain ⟨h, rfl⟩ := List.getElem?_eq_some_iff.1 he
                  rw [List.drop_eq_getElem_cons h]
                  rfl
                have hbk : byteAt (bs s) (Int.toNat (((i + 2) + k : Nat) : Int)) = (e.toNat : Int) := by rw [Int.toNat_natCast]; exact (drop_at hde2).1
                have hs5 := numBig_snoc (T.take k) e
                rw [← take_snoc he] at hs5
                have hb5 : numBig (T.take k) ≤ 100000 := Nat.min_le_right _ _
                (first | refine wX ?_ | exact wZ)
                rw [hz]
                refine brd_dec (fun _ => ?_) (fun h => absurd h (by omega))
                (first | refine wX ?_ | exact wZ)
                rw [hbk]
                refine brd_dec (fun _ => ?_) (fun h => absurd h (by omega))
                (first | refine wX ?_ | exact wZ)
                rw [hbk]
                refine brd_dec (fun _ => ?_) (fun h => absurd h (by omega))
                (conv => whnf)
                refine Nd.mk ⟨by omega, by omega⟩ ?_
                (conv => whnf)
                refine VrN.norm (m := ((numBig (T.take (k + 1)) : Nat) : Int)) (by
                  rw [hbk, hs5, wrap_u8 (x := (e.toNat : Int) - 48) (by omega), wrap_i64 (x := (e.toNat : Int) - 48) (by omega), wrap_i64 (x := ((numBig (T.take k) : Nat) : Int) * 10) (by omega), wrap_i64 (by omega)]
                  unfold minI
                  split <;> omega) ?_
                (first | refine wX ?_ | exact wZ)
                refine ⟨k + 1, by omega, by omega, ?_, by (repeat' (first | exact trivial | exact wkE_refl _ | refine And.intro ?_ ?_))⟩
                (repeat' (first | exact trivial | refine And.intro (by with_reducible rfl) ?_ | (with_reducible exact wkC_refl _) | (with_reducible exact wkCs_refl _) | refine And.intro ?_ ?_))
                all_goals exact av_int (by omega)
              · have hkT : k = T.length := by omega
                subst hkT
                rw [List.take_length]
                have hW := hdk T.length (Nat.le_refl _)
                rw [List.drop_length, List.nil_append] at hW
                (first | refine wX ?_ | exact wZ)
                rw [hz]
                cases W with
                | nil =>
                  have hje := drop_end hW (by omega)
                  refine brd_dec (fun h => absurd h (by omega)) (fun _ => ?_)
                  -- the digits T are read, [] is left
                  (first | refine wX ?_ | exact wZ)
                  (conv => whnf)
                  (first | refine wX ?_ | exact wZ)
                  have hfi := fine_is (c := c) hTh
                  have h48 : ((a.toNat : Int) == 48) = (a == 48) := u8_eq (n := 48) (by decide)
                  rw [hb2, h48]
                  have hnb := numBig_gt T
                  have hwr : IntKind.i64.wrap ((((i + 2) : Nat) : Int) + 1) = (((i + 2) : Nat) : Int) + 1 := wrap_i64 (by omega)
                  have hn1 := num_one hTh
                  have hpos : 0 < T.length := by cases T with | nil => cases hTh | cons _ _ => simp
                  cases h9 : (a == 48) with
                  | true =>
                    rw [h9] at hfi
                    (first | refine wX ?_ | exact wZ)
                    refine brd_dec (fun h10 => ?_) (fun h10 => ?_)
                    · rw [hfi, decide_eq_false (show ¬ T.length = 1 by omega), Bool.and_false, Bool.not_true, Bool.or_false, Bool.and_false] at ho
                      (first | refine wX ?_ | exact wZ)
                      rw [forms_none (by rw [← hx, hr0]; exact dr_bad l hc ho)]
                      exact fin_v ⟨_, _, _, rfl⟩
                    · have hT1 : T.length = 1 := by omega
                      have h64 : ((c.toNat : Int) == 64) = (c == 64) := u8_eq (n := 64) (by decide)
                      have h64b : ((c.toNat : Int) != 64) = !(c == 64) := by rw [bne, h64]
                      (first | refine wX ?_ | exact wZ)
                      first | rw [h64b] | (refine brd_dec (fun h => ?_) (fun h => ?_) <;> trace_state) 
                      cases h11 : (c == 64) with
                      | false =>
                        rw [hfi, h11, Bool.false_and, Bool.not_true, Bool.or_false, Bool.and_false] at ho
                        (first | refine wX ?_ | exact wZ)
                        rw [forms_none (by rw [← hx, hr0]; exact dr_bad l hc ho)]
                        exact fin_v ⟨_, _, _, rfl⟩
                      | true =>
                        have hn0 := hn1 hT1 h9
                        have hnn : numBig T = num T := by omega
                        rw [hfi, h11, decide_eq_true (show num T ≤ 1000 by omega), decide_eq_true hT1] at ho
                        rw [hnn]
                        (first | refine wX ?_ | exact wZ)
                        refine brd_dec (fun h10 => absurd h10 (by omega)) (fun h10 => ?_)
                        (first | refine wX ?_ | exact wZ)
                        -- the directive with big true and count (num T : Int) is put behind the others; what is left, [], begins at (i + 2) + T.length
                        (first | refine wX ?_ | exact wZ)
                        refine Nd.mk ⟨Nat.le_refl 1, rfl, rfl⟩ ?_
                        (conv => whnf)
                        refine AppN.grow 1 (dirsC l) (dirC ⟨c, true, (num T : Int)⟩) rfl rfl ⟨Nat.le_refl 1, ⟨by show (l.length + 1) * 16 ≤ _; omega, by omega⟩, by show 3 ≠ 0; omega⟩ fun b' cap' h1 h2 => ?_
                        (first | refine wX ?_ | exact wZ)
                        refine ⟨((i + 2) + T.length, l ++ [⟨c, true, (num T : Int)⟩], some b', cap'), ⟨by omega, by rw [← hx, hr0, hW]; exact (dr_next l hc ho).symm, (fun h => by cases h), by simp; omega⟩, by show s.length + 1 - ((i + 2) + T.length) < s.length + 1 - i; omega, ?_, ?_⟩
                        · (repeat' (first | exact trivial | refine And.intro (by with_reducible rfl) ?_ | (with_reducible exact wkC_refl _) | (with_reducible exact wkCs_refl _) | refine And.intro ?_ ?_))
                          all_goals first | (simp [at0]; done) | exact av_int (by omega)
                        · exact ⟨wkE_refl _, .inl ⟨rfl, rfl, by simp [dirsC], rfl, by simp, rfl⟩, wkH_nil _⟩
                  | false =>
                    rw [h9] at hfi
                    rw [Bool.not_false, Bool.true_or, Bool.and_true] at hfi
                    (first | refine wX ?_ | exact wZ)
                    refine brd_dec (fun h10 => ?_) (fun h10 => ?_)
                    · rw [hfi, decide_eq_false (show ¬ num T ≤ 1000 by omega)] at ho
                      (first | refine wX ?_ | exact wZ)
                      rw [forms_none (by rw [← hx, hr0]; exact dr_bad l hc ho)]
                      exact fin_v ⟨_, _, _, rfl⟩
                    · rw [hfi, decide_eq_true (show num T ≤ 1000 by omega), if_pos rfl] at ho
                      have hnn : numBig T = num T := by omega
                      rw [hnn]
                      (first | refine wX ?_ | exact wZ)
                      -- the directive with big true and count (num T : Int) is put behind the others; what is left, [], begins at (i + 2) + T.length
                      (first | refine wX ?_ | exact wZ)
                      refine Nd.mk ⟨Nat.le_refl 1, rfl, rfl⟩ ?_
                      (conv => whnf)
                      refine AppN.grow 1 (dirsC l) (dirC ⟨c, true, (num T : Int)⟩) rfl rfl ⟨Nat.le_refl 1, ⟨by show (l.length + 1) * 16 ≤ _; omega, by omega⟩, by show 3 ≠ 0; omega⟩ fun b' cap' h1 h2 => ?_
                      (first | refine wX ?_ | exact wZ)
                      refine ⟨((i + 2) + T.length, l ++ [⟨c, true, (num T : Int)⟩], some b', cap'), ⟨by omega, by rw [← hx, hr0, hW]; exact (dr_next l hc ho).symm, (fun h => by cases h), by simp; omega⟩, by show s.length + 1 - ((i + 2) + T.length) < s.length + 1 - i; omega, ?_, ?_⟩
                      · (repeat' (first | exact trivial | refine And.intro (by with_reducible rfl) ?_ | (with_reducible exact wkC_refl _) | (with_reducible exact wkCs_refl _) | refine And.intro ?_ ?_))
                        all_goals first | (simp [at0]; done) | exact av_int (by omega)
                      · exact ⟨wkE_refl _, .inl ⟨rfl, rfl, by simp [dirsC], rfl, by simp, rfl⟩, wkH_nil _⟩
                | cons c' r' =>
                  have hwd := hWd c' r' rfl
                  have hbw : byteAt (bs s) (Int.toNat (((i + 2) + T.length : Nat) : Int)) = (c'.toNat : Int) := by rw [Int.toNat_natCast]; exact (drop_at hW).1
                  have hltw := (drop_at hW).2.1
                  refine brd_dec (fun _ => ?_) (fun h => absurd h (by omega))
                  (first | refine wX ?_ | exact wZ)
                  rw [hbw]
                  refine brd_dec (fun h7 => ?_) (fun _ => ?_)
                  · (first | refine wX ?_ | exact wZ)
                    rw [hbw]
                    refine brd_dec (fun h8 => ?_) (fun _ => ?_)
                    · rw [dig_eq, decide_eq_true (show 48 ≤ c'.toNat by omega), decide_eq_true (show c'.toNat ≤ 57 by omega)] at hwd
                      cases hwd
                    ·
                      -- the digits T are read, (c' :: r') is left
                      (first | refine wX ?_ | exact wZ)
                      (conv => whnf)
                      (first | refine wX ?_ | exact wZ)
                      have hfi := fine_is (c := c) hTh
                      have h48 : ((a.toNat : Int) == 48) = (a == 48) := u8_eq (n := 48) (by decide)
                      rw [hb2, h48]
                      have hnb := numBig_gt T
                      have hwr : IntKind.i64.wrap ((((i + 2) : Nat) : Int) + 1) = (((i + 2) : Nat) : Int) + 1 := wrap_i64 (by omega)
                      have hn1 := num_one hTh
                      have hpos : 0 < T.length := by cases T with | nil => cases hTh | cons _ _ => simp
                      cases h9 : (a == 48) with
                      | true =>
                        rw [h9] at hfi
                        (first | refine wX ?_ | exact wZ)
                        refine brd_dec (fun h10 => ?_) (fun h10 => ?_)
                        · rw [hfi, decide_eq_false (show ¬ T.length = 1 by omega), Bool.and_false, Bool.not_true, Bool.or_false, Bool.and_false] at ho
                          (first | refine wX ?_ | exact wZ)
                          rw [forms_none (by rw [← hx, hr0]; exact dr_bad l hc ho)]
                          exact fin_v ⟨_, _, _, rfl⟩
                        · have hT1 : T.length = 1 := by omega
                          have h64 : ((c.toNat : Int) == 64) = (c == 64) := u8_eq (n := 64) (by decide)
                          have h64b : ((c.toNat : Int) != 64) = !(c == 64) := by rw [bne, h64]
                          (first | refine wX ?_ | exact wZ)
                          first | rw [h64b] | (refine brd_dec (fun h => ?_) (fun h => ?_) <;> trace_state) 
                          cases h11 : (c == 64) with
                          | false =>
                            rw [hfi, h11, Bool.false_and, Bool.not_true, Bool.or_false, Bool.and_false] at ho
                            (first | refine wX ?_ | exact wZ)
                            rw [forms_none (by rw [← hx, hr0]; exact dr_bad l hc ho)]
                            exact fin_v ⟨_, _, _, rfl⟩
                          | true =>
                            have hn0 := hn1 hT1 h9
                            have hnn : numBig T = num T := by omega
                            rw [hfi, h11, decide_eq_true (show num T ≤ 1000 by omega), decide_eq_true hT1] at ho
                            rw [hnn]
                            (first | refine wX ?_ | exact wZ)
                            refine brd_dec (fun h10 => absurd h10 (by omega)) (fun h10 => ?_)
                            (first | refine wX ?_ | exact wZ)
                            -- the directive with big true and count (num T : Int) is put behind the others; what is left, (c' :: r'), begins at (i + 2) + T.length
                            (first | refine wX ?_ | exact wZ)
                            refine Nd.mk ⟨Nat.le_refl 1, rfl, rfl⟩ ?_
                            (conv => whnf)
                            refine AppN.grow 1 (dirsC l) (dirC ⟨c, true, (num T : Int)⟩) rfl rfl ⟨Nat.le_refl 1, ⟨by show (l.length + 1) * 16 ≤ _; omega, by omega⟩, by show 3 ≠ 0; omega⟩ fun b' cap' h1 h2 => ?_
                            (first | refine wX ?_ | exact wZ)
                            refine ⟨((i + 2) + T.length, l ++ [⟨c, true, (num T : Int)⟩], some b', cap'), ⟨by omega, by rw [← hx, hr0, hW]; exact (dr_next l hc ho).symm, (fun h => by cases h), by simp; omega⟩, by show s.length + 1 - ((i + 2) + T.length) < s.length + 1 - i; omega, ?_, ?_⟩
                            · (repeat' (first | exact trivial | refine And.intro (by with_reducible rfl) ?_ | (with_reducible exact wkC_refl _) | (with_reducible exact wkCs_refl _) | refine And.intro ?_ ?_))
                              all_goals first | (simp [at0]; done) | exact av_int (by omega)
                            · exact ⟨wkE_refl _, .inl ⟨rfl, rfl, by simp [dirsC], rfl, by simp, rfl⟩, wkH_nil _⟩
                      | false =>
                        rw [h9] at hfi
                        rw [Bool.not_false, Bool.true_or, Bool.and_true] at hfi
                        (first | refine wX ?_ | exact wZ)
                        refine brd_dec (fun h10 => ?_) (fun h10 => ?_)
                        · rw [hfi, decide_eq_false (show ¬ num T ≤ 1000 by omega)] at ho
                          (first | refine wX ?_ | exact wZ)
                          rw [forms_none (by rw [← hx, hr0]; exact dr_bad l hc ho)]
                          exact fin_v ⟨_, _, _, rfl⟩
                        · rw [hfi, decide_eq_true (show num T ≤ 1000 by omega), if_pos rfl] at ho
                          have hnn : numBig T = num T := by omega
                          rw [hnn]
                          (first | refine wX ?_ | exact wZ)
                          -- the directive with big true and count (num T : Int) is put behind the others; what is left, (c' :: r'), begins at (i + 2) + T.length
                          (first | refine wX ?_ | exact wZ)
                          refine Nd.mk ⟨Nat.le_refl 1, rfl, rfl⟩ ?_
                          (conv => whnf)
                          refine AppN.grow 1 (dirsC l) (dirC ⟨c, true, (num T : Int)⟩) rfl rfl ⟨Nat.le_refl 1, ⟨by show (l.length + 1) * 16 ≤ _; omega, by omega⟩, by show 3 ≠ 0; omega⟩ fun b' cap' h1 h2 => ?_
                          (first | refine wX ?_ | exact wZ)
                          refine ⟨((i + 2) + T.length, l ++ [⟨c, true, (num T : Int)⟩], some b', cap'), ⟨by omega, by rw [← hx, hr0, hW]; exact (dr_next l hc ho).symm, (fun h => by cases h), by simp; omega⟩, by show s.length + 1 - ((i + 2) + T.length) < s.length + 1 - i; omega, ?_, ?_⟩
                          · (repeat' (first | exact trivial | refine And.intro (by with_reducible rfl) ?_ | (with_reducible exact wkC_refl _) | (with_reducible exact wkCs_refl _) | refine And.intro ?_ ?_))
                            all_goals first | (simp [at0]; done) | exact av_int (by omega)
                          · exact ⟨wkE_refl _, .inl ⟨rfl, rfl, by simp [dirsC], rfl, by simp, rfl⟩, wkH_nil _⟩
                  ·
                      -- the digits T are read, (c' :: r') is left
                      (first | refine wX ?_ | exact wZ)
                      (conv => whnf)
                      (first | refine wX ?_ | exact wZ)
                      have hfi := fine_is (c := c) hTh
                      have h48 : ((a.toNat : Int) == 48) = (a == 48) := u8_eq (n := 48) (by decide)
                      rw [hb2, h48]
                      have hnb := numBig_gt T
                      have hwr : IntKind.i64.wrap ((((i + 2) : Nat) : Int) + 1) = (((i + 2) : Nat) : Int) + 1 := wrap_i64 (by omega)
                      have hn1 := num_one hTh
                      have hpos : 0 < T.length := by cases T with | nil => cases hTh | cons _ _ => simp
                      cases h9 : (a == 48) with
                      | true =>
                        rw [h9] at hfi
                        (first | refine wX ?_ | exact wZ)
                        refine brd_dec (fun h10 => ?_) (fun h10 => ?_)
                        · rw [hfi, decide_eq_false (show ¬ T.length = 1 by omega), Bool.and_false, Bool.not_true, Bool.or_false, Bool.and_false] at ho
                          (first | refine wX ?_ | exact wZ)
                          rw [forms_none (by rw [← hx, hr0]; exact dr_bad l hc ho)]
                          exact fin_v ⟨_, _, _, rfl⟩
                        · have hT1 : T.length = 1 := by omega
                          have h64 : ((c.toNat : Int) == 64) = (c == 64) := u8_eq (n := 64) (by decide)
                          have h64b : ((c.toNat : Int) != 64) = !(c == 64) := by rw [bne, h64]
                          (first | refine wX ?_ | exact wZ)
                          first | rw [h64b] | (refine brd_dec (fun h => ?_) (fun h => ?_) <;> trace_state) 
                          cases h11 : (c == 64) with
                          | false =>
                            rw [hfi, h11, Bool.false_and, Bool.not_true, Bool.or_false, Bool.and_false] at ho
                            (first | refine wX ?_ | exact wZ)
                            rw [forms_none (by rw [← hx, hr0]; exact dr_bad l hc ho)]
                            exact fin_v ⟨_, _, _, rfl⟩
                          | true =>
                            have hn0 := hn1 hT1 h9
                            have hnn : numBig T = num T := by omega
                            rw [hfi, h11, decide_eq_true (show num T ≤ 1000 by omega), decide_eq_true hT1] at ho
                            rw [hnn]
                            (first | refine wX ?_ | exact wZ)
                            refine brd_dec (fun h10 => absurd h10 (by omega)) (fun h10 => ?_)
                            (first | refine wX ?_ | exact wZ)
                            -- the directive with big true and count (num T : Int) is put behind the others; what is left, (c' :: r'), begins at (i + 2) + T.length
                            (first | refine wX ?_ | exact wZ)
                            refine Nd.mk ⟨Nat.le_refl 1, rfl, rfl⟩ ?_
                            (conv => whnf)
                            refine AppN.grow 1 (dirsC l) (dirC ⟨c, true, (num T : Int)⟩) rfl rfl ⟨Nat.le_refl 1, ⟨by show (l.length + 1) * 16 ≤ _; omega, by omega⟩, by show 3 ≠ 0; omega⟩ fun b' cap' h1 h2 => ?_
                            (first | refine wX ?_ | exact wZ)
                            refine ⟨((i + 2) + T.length, l ++ [⟨c, true, (num T : Int)⟩], some b', cap'), ⟨by omega, by rw [← hx, hr0, hW]; exact (dr_next l hc ho).symm, (fun h => by cases h), by simp; omega⟩, by show s.length + 1 - ((i + 2) + T.length) < s.length + 1 - i; omega, ?_, ?_⟩
                            · (repeat' (first | exact trivial | refine And.intro (by with_reducible rfl) ?_ | (with_reducible exact wkC_refl _) | (with_reducible exact wkCs_refl _) | refine And.intro ?_ ?_))
                              all_goals first | (simp [at0]; done) | exact av_int (by omega)
                            · exact ⟨wkE_refl _, .inl ⟨rfl, rfl, by simp [dirsC], rfl, by simp, rfl⟩, wkH_nil _⟩
                      | false =>
                        rw [h9] at hfi
                        rw [Bool.not_false, Bool.true_or, Bool.and_true] at hfi
                        (first | refine wX ?_ | exact wZ)
                        refine brd_dec (fun h10 => ?_) (fun h10 => ?_)
                        · rw [hfi, decide_eq_false (show ¬ num T ≤ 1000 by omega)] at ho
                          (first | refine wX ?_ | exact wZ)
                          rw [forms_none (by rw [← hx, hr0]; exact dr_bad l hc ho)]
                          exact fin_v ⟨_, _, _, rfl⟩
                        · rw [hfi, decide_eq_true (show num T ≤ 1000 by omega), if_pos rfl] at ho
                          have hnn : numBig T = num T := by omega
                          rw [hnn]
                          (first | refine wX ?_ | exact wZ)
                          -- the directive with big true and count (num T : Int) is put behind the others; what is left, (c' :: r'), begins at (i + 2) + T.length
                          (first | refine wX ?_ | exact wZ)
                          refine Nd.mk ⟨Nat.le_refl 1, rfl, rfl⟩ ?_
                          (conv => whnf)
                          refine AppN.grow 1 (dirsC l) (dirC ⟨c, true, (num T : Int)⟩) rfl rfl ⟨Nat.le_refl 1, ⟨by show (l.length + 1) * 16 ≤ _; omega, by omega⟩, by show 3 ≠ 0; omega⟩ fun b' cap' h1 h2 => ?_
                          (first | refine wX ?_ | exact wZ)
                          refine ⟨((i + 2) + T.length, l ++ [⟨c, true, (num T : Int)⟩], some b', cap'), ⟨by omega, by rw [← hx, hr0, hW]; exact (dr_next l hc ho).symm, (fun h => by cases h), by simp; omega⟩, by show s.length + 1 - ((i + 2) + T.length) < s.length + 1 - i; omega, ?_, ?_⟩
                          · (repeat' (first | exact trivial | refine And.intro (by with_reducible rfl) ?_ | (with_reducible exact wkC_refl _) | (with_reducible exact wkCs_refl _) | refine And.intro ?_ ?_))
                            all_goals first | (simp [at0]; done) | exact av_int (by omega)
                          · exact ⟨wkE_refl _, .inl ⟨rfl, rfl, by simp [dirsC], rfl, by simp, rfl⟩, wkH_nil _⟩
            · have hda : dig a = false := by rw [dig_eq, decide_eq_false (show ¬ a.toNat ≤ 57 by omega), Bool.and_false]
              have ho := ho1
              rw [cnt_none hst (List.takeWhile_cons_of_neg (by simp [hda]))] at ho
              -- the directive with big true and count (-2) is put behind the others; what is left, (a :: r2), begins at (i + 2)
              (first | refine wX ?_ | exact wZ)
              refine Nd.mk ⟨Nat.le_refl 1, rfl, rfl⟩ ?_
              (conv => whnf)
              refine AppN.grow 1 (dirsC l) (dirC ⟨c, true, (-2)⟩) rfl rfl ⟨Nat.le_refl 1, ⟨by show (l.length + 1) * 16 ≤ _; omega, by omega⟩, by show 3 ≠ 0; omega⟩ fun b' cap' h1 h2 => ?_
              (first | refine wX ?_ | exact wZ)
              refine ⟨((i + 2), l ++ [⟨c, true, (-2)⟩], some b', cap'), ⟨by omega, by rw [← hx, hr0, hdr2]; exact (dr_next l hc ho).symm, (fun h => by cases h), by simp; omega⟩, by show s.length + 1 - ((i + 2)) < s.length + 1 - i; omega, ?_, ?_⟩
              · (repeat' (first | exact trivial | refine And.intro (by with_reducible rfl) ?_ | (with_reducible exact wkC_refl _) | (with_reducible exact wkCs_refl _) | refine And.intro ?_ ?_))
                all_goals first | (simp [at0]; done) | exact av_int (by omega)
              · exact ⟨wkE_refl _, .inl ⟨rfl, rfl, by simp [dirsC], rfl, by simp, rfl⟩, wkH_nil _⟩
          · have hda : dig a = false := by rw [dig_eq, decide_eq_false (show ¬ 48 ≤ a.toNat by omega), Bool.false_and]
            have ho := ho1
            rw [cnt_none hst (List.takeWhile_cons_of_neg (by simp [hda]))] at ho
            -- the directive with big true and count (-2) is put behind the others; what is left, (a :: r2), begins at (i + 2)
            (first | refine wX ?_ | exact wZ)
            refine Nd.mk ⟨Nat.le_refl 1, rfl, rfl⟩ ?_
            (conv => whnf)
            refine AppN.grow 1 (dirsC l) (dirC ⟨c, true, (-2)⟩) rfl rfl ⟨Nat.le_refl 1, ⟨by show (l.length + 1) * 16 ≤ _; omega, by omega⟩, by show 3 ≠ 0; omega⟩ fun b' cap' h1 h2 => ?_
            (first | refine wX ?_ | exact wZ)
            refine ⟨((i + 2), l ++ [⟨c, true, (-2)⟩], some b', cap'), ⟨by omega, by rw [← hx, hr0, hdr2]; exact (dr_next l hc ho).symm, (fun h => by cases h), by simp; omega⟩, by show s.length + 1 - ((i + 2)) < s.length + 1 - i; omega, ?_, ?_⟩
            · (repeat' (first | exact trivial | refine And.intro (by with_reducible rfl) ?_ | (with_reducible exact wkC_refl _) | (with_reducible exact wkCs_refl _) | refine And.intro ?_ ?_))
              all_goals first | (simp [at0]; done) | exact av_int (by omega)
            · exact ⟨wkE_refl _, .inl ⟨rfl, rfl, by simp [dirsC], rfl, by simp, rfl⟩, wkH_nil _⟩
    | false =>
    have ho0 := one_bare (c := c) hl hsg
    cases r with
    | nil =>
      refine brd_dec (fun h => absurd h (by simp at hlen; omega)) (fun _ => ?_)
      -- nothing is left; false: is there a sign; (i + 1): the end; ho0: one's law; hdr: nothing stands there
      have hje := drop_end hdr (by omega)
      have ho := ho0
      rw [cnt_none (by rfl) (by rfl)] at ho
      (first | refine wX ?_ | exact wZ)
      refine brd_dec (fun h => absurd h (by omega)) (fun _ => ?_)
      (first | refine wX ?_ | exact wZ)
      rw [hz]
      refine brd_dec (fun h => absurd h (by omega)) (fun _ => ?_)
      -- the directive with big false and count (-2) is put behind the others; what is left, [], begins at (i + 1)
      (first | refine wX ?_ | exact wZ)
      refine Nd.mk ⟨Nat.le_refl 1, rfl, rfl⟩ ?_
      (conv => whnf)
      refine AppN.grow 1 (dirsC l) (dirC ⟨c, false, (-2)⟩) rfl rfl ⟨Nat.le_refl 1, ⟨by show (l.length + 1) * 16 ≤ _; omega, by omega⟩, by show 3 ≠ 0; omega⟩ fun b' cap' h1 h2 => ?_
      (first | refine wX ?_ | exact wZ)
      refine ⟨((i + 1), l ++ [⟨c, false, (-2)⟩], some b', cap'), ⟨by omega, by rw [← hx, hr0, hdr]; exact (dr_next l hc ho).symm, (fun h => by cases h), by simp; omega⟩, by show s.length + 1 - ((i + 1)) < s.length + 1 - i; omega, ?_, ?_⟩
      · (repeat' (first | exact trivial | refine And.intro (by with_reducible rfl) ?_ | (with_reducible exact wkC_refl _) | (with_reducible exact wkCs_refl _) | refine And.intro ?_ ?_))
        all_goals first | (simp [at0]; done) | exact av_int (by omega)
      · exact ⟨wkE_refl _, .inl ⟨rfl, rfl, by simp [dirsC], rfl, by simp, rfl⟩, wkH_nil _⟩
    | cons a r2 =>
      have h62 : ((a.toNat : Int) == 62) = false := by
        rw [show ((a.toNat : Int) == 62) = (a == 62) from u8_eq (n := 62) (by decide)]
        exact pre_head hsg
      have hb9 : byteAt (bs s) (Int.toNat ((i + 1 : Nat) : Int)) = (a.toNat : Int) := by rw [Int.toNat_natCast]; exact (drop_at hdr).1
      have hlt9 := (drop_at hdr).2.1
      refine brd_dec (fun _ => ?_) (fun h => absurd h (by omega))
      (first | refine wX ?_ | exact wZ)
      rw [hb9]
      refine brdF h62 ?_
      (first | refine wX ?_ | exact wZ)
      rw [hz]
      -- a and r2 are left; false: is there a sign; (i + 1): where they begin; ho0: one's law; hdr: they stand there
      obtain ⟨hb1, hlt1, hdr1, hlen1⟩ := drop_at hdr
      have hb2 : byteAt (bs s) (Int.toNat (((i + 1) : Nat) : Int)) = (a.toNat : Int) := by rw [Int.toNat_natCast]; exact hb1
      have h42 : ((a.toNat : Int) == 42) = (a == 42) := u8_eq (n := 42) (by decide)
      (first | refine wX ?_ | exact wZ)
      refine brd_dec (fun _ => ?_) (fun h => absurd h (by omega))
      (first | refine wX ?_ | exact wZ)
      rw [hb2]
      refine brd_eq (fun h3 => ?_) (fun h3 => ?_)
      · have ha : a = 42 := by
          have : (a == 42) = true := by rw [← h42]; simpa using h3
          simpa using this
        subst ha
        have ho := ho0
        rw [cnt_star] at ho
        have h120 : ((c.toNat : Int) == 120) = (c == 120) := u8_eq (n := 120) (by decide)
        have h64 : ((c.toNat : Int) == 64) = (c == 64) := u8_eq (n := 64) (by decide)
        (first | refine wX ?_ | exact wZ)
        refine brd_eq (fun h5 => ?_) (fun h5 => ?_)
        · have h6 : (c == 120) = true := by rw [← h120]; simpa using h5
          rw [h6] at ho
          (first | refine wX ?_ | exact wZ)
          rw [forms_none (by rw [← hx, hr0]; exact dr_bad l hc ho)]
          exact fin_v ⟨_, _, _, rfl⟩
        have h6 : (c == 120) = false := by rw [← h120]; simpa using h5
        (first | refine wX ?_ | exact wZ)
        refine brd_eq (fun h7 => ?_) (fun h7 => ?_)
        · have h8 : (c == 64) = true := by rw [← h64]; simpa using h7
          rw [h8, Bool.or_true] at ho
          (first | refine wX ?_ | exact wZ)
          rw [forms_none (by rw [← hx, hr0]; exact dr_bad l hc ho)]
          exact fin_v ⟨_, _, _, rfl⟩
        have h8 : (c == 64) = false := by rw [← h64]; simpa using h7
        rw [h6, h8] at ho
        -- the directive with big false and count (-1) is put behind the others; what is left, r2, begins at (i + 1) + 1
        (first | refine wX ?_ | exact wZ)
        refine Nd.mk ⟨Nat.le_refl 1, rfl, rfl⟩ ?_
        (conv => whnf)
        refine AppN.grow 1 (dirsC l) (dirC ⟨c, false, (-1)⟩) rfl rfl ⟨Nat.le_refl 1, ⟨by show (l.length + 1) * 16 ≤ _; omega, by omega⟩, by show 3 ≠ 0; omega⟩ fun b' cap' h1 h2 => ?_
        (first | refine wX ?_ | exact wZ)
        refine ⟨((i + 1) + 1, l ++ [⟨c, false, (-1)⟩], some b', cap'), ⟨by omega, by rw [← hx, hr0, hdr1]; exact (dr_next l hc ho).symm, (fun h => by cases h), by simp; omega⟩, by show s.length + 1 - ((i + 1) + 1) < s.length + 1 - i; omega, ?_, ?_⟩
        · (repeat' (first | exact trivial | refine And.intro (by with_reducible rfl) ?_ | (with_reducible exact wkC_refl _) | (with_reducible exact wkCs_refl _) | refine And.intro ?_ ?_))
          all_goals first | (simp [at0]; done) | exact av_int (by omega)
        · exact ⟨wkE_refl _, .inl ⟨rfl, rfl, by simp [dirsC], rfl, by simp, rfl⟩, wkH_nil _⟩
      · have hst : [42].isPrefixOf (a :: r2) = false := head_pre (by rw [← h42]; simpa using h3)
        (first | refine wX ?_ | exact wZ)
        rw [hz]
        refine brd_dec (fun _ => ?_) (fun h => absurd h (by omega))
        (first | refine wX ?_ | exact wZ)
        rw [hb2]
        refine brd_dec (fun h4 => ?_) (fun h4 => ?_)
        · (first | refine wX ?_ | exact wZ)
          rw [hb2]
          refine brd_dec (fun h5 => ?_) (fun h5 => ?_)
          · have hda : dig a = true := by rw [dig_eq, Bool.and_eq_true, decide_eq_true_eq, decide_eq_true_eq]; omega
            have hT0 : (a :: r2).takeWhile dig = a :: r2.takeWhile dig := List.takeWhile_cons_of_pos hda
            have hTW := (List.takeWhile_append_dropWhile (p := dig) (l := a :: r2)).symm
            have hdg := tw_all (a :: r2)
            have hWd : ∀ c' r', (a :: r2).dropWhile dig = c' :: r' → dig c' = false := fun c' r' h => drop_not h
            have ho := ho0
            rw [cnt_dig hst (by rw [hT0]; simp)] at ho
            have hTh : ((a :: r2).takeWhile dig).head? = some a := by rw [hT0]; rfl
            clear hT0
            generalize hT : (a :: r2).takeWhile dig = T at *
            generalize (a :: r2).dropWhile dig = W at *
            have hdk : ∀ k, k ≤ T.length → s.drop ((i + 1) + k) = T.drop k ++ W := fun k hk => by
              rw [← List.drop_drop, hdr, hTW, List.drop_append_of_le_length hk]
            (first | refine wX ?_ | exact wZ)
            refine loopS Nat (fun k => k ≤ T.length) (fun k => mkS Tryz.f18.ntmps 0 [(0, .c (.v (.string (bs s)))), (4, .c (.v (.slice (at0 ob) l.length cap))), (5, .c (.v (.int .i64 (((i + 1) + k : Nat) : Int)))), (6, .c (.lp 2 0)), (7, .c (.v (.int .i64 (((i + 1) : Nat) : Int)))), (8, .c (.v (.int .i64 (numBig (T.take k) : Nat))))]) (fun k => T.length + 1 - k) rfl (fun _ => rfl) 0 (Nat.zero_le _) ?_ fun k hk => ?_
            · (repeat' (first | exact trivial | refine And.intro (by with_reducible rfl) ?_ | (with_reducible exact wkC_refl _) | (with_reducible exact wkCs_refl _) | refine And.intro ?_ ?_))
              all_goals rfl
            have hTl : T.length + W.length + (i + 1) = s.length := by
              have := congrArg List.length hTW
              simp at this hlen1
              omega
            by_cases hkl : k < T.length
            · obtain ⟨e, he⟩ : ∃ e, T[k]? = some e := ⟨_, List.getElem?_eq_getElem hkl⟩
              have hde := hdg e (List.mem_of_getElem? he)
              rw [dig_eq, Bool.and_eq_true, decide_eq_true_eq, decide_eq_true_eq] at hde
              have hde2 : s.drop ((i + 1) + k) = e :: (T.drop (k + 1) ++ W) := by
                rw [hdk k hk]
                obtain ⟨h, rfl⟩ := List.getElem?_eq_some_iff.1 he
                rw [List.drop_eq_getElem_cons h]
                rfl
              have hbk : byteAt (bs s) (Int.toNat (((i + 1) + k : Nat) : Int)) = (e.toNat : Int) := by rw [Int.toNat_natCast]; exact (drop_at hde2).1
              have hs5 := numBig_snoc (T.take k) e
              rw [← take_snoc he] at hs5
              have hb5 : numBig (T.take k) ≤ 100000 := Nat.min_le_right _ _
              (first | refine wX ?_ | exact wZ)
              rw [hz]
              refine brd_dec (fun _ => ?_) (fun h => absurd h (by omega))
              (first | refine wX ?_ | exact wZ)
              rw [hbk]
              refine brd_dec (fun _ => ?_) (fun h => absurd h (by omega))
              (first | refine wX ?_ | exact wZ)
              rw [hbk]
              refine brd_dec (fun _ => ?_) (fun h => absurd h (by omega))
              (conv => whnf)
              refine Nd.mk ⟨by omega, by omega⟩ ?_
              (conv => whnf)
              refine VrN.norm (m := ((numBig (T.take (k + 1)) : Nat) : Int)) (by
                rw [hbk, hs5, wrap_u8 (x := (e.toNat : Int) - 48) (by omega), wrap_i64 (x := (e.toNat : Int) - 48) (by omega), wrap_i64 (x := ((numBig (T.take k) : Nat) : Int) * 10) (by omega), wrap_i64 (by omega)]
                unfold minI
                split <;> omega) ?_
              (first | refine wX ?_ | exact wZ)
              refine ⟨k + 1, by omega, by omega, ?_, by (repeat' (first | exact trivial | exact wkE_refl _ | refine And.intro ?_ ?_))⟩
              (repeat' (first | exact trivial | refine And.intro (by with_reducible rfl) ?_ | (with_reducible exact wkC_refl _) | (with_reducible exact wkCs_refl _) | refine And.intro ?_ ?_))
              all_goals exact av_int (by omega)
            · have hkT : k = T.length := by omega
              subst hkT
              rw [List.take_length]
              have hW := hdk T.length (Nat.le_refl _)
              rw [List.drop_length, List.nil_append] at hW
              (first | refine wX ?_ | exact wZ)
              rw [hz]
              cases W with
              | nil =>
                have hje := drop_end hW (by omega)
                refine brd_dec (fun h => absurd h (by omega)) (fun _ => ?_)
                -- the digits T are read, [] is left
                (first | refine wX ?_ | exact wZ)
                (conv => whnf)
                (first | refine wX ?_ | exact wZ)
                have hfi := fine_is (c := c) hTh
                have h48 : ((a.toNat : Int) == 48) = (a == 48) := u8_eq (n := 48) (by decide)
                rw [hb2, h48]
                have hnb := numBig_gt T
                have hwr : IntKind.i64.wrap ((((i + 1) : Nat) : Int) + 1) = (((i + 1) : Nat) : Int) + 1 := wrap_i64 (by omega)
                have hn1 := num_one hTh
                have hpos : 0 < T.length := by cases T with | nil => cases hTh | cons _ _ => simp
                cases h9 : (a == 48) with
                | true =>
                  rw [h9] at hfi
                  (first | refine wX ?_ | exact wZ)
                  refine brd_dec (fun h10 => ?_) (fun h10 => ?_)
                  · rw [hfi, decide_eq_false (show ¬ T.length = 1 by omega), Bool.and_false, Bool.not_true, Bool.or_false, Bool.and_false] at ho
                    (first | refine wX ?_ | exact wZ)
                    rw [forms_none (by rw [← hx, hr0]; exact dr_bad l hc ho)]
                    exact fin_v ⟨_, _, _, rfl⟩
                  · have hT1 : T.length = 1 := by omega
                    have h64 : ((c.toNat : Int) == 64) = (c == 64) := u8_eq (n := 64) (by decide)
                    have h64b : ((c.toNat : Int) != 64) = !(c == 64) := by rw [bne, h64]
                    (first | refine wX ?_ | exact wZ)
                    first | rw [h64b] | (refine brd_dec (fun h => ?_) (fun h => ?_) <;> trace_state) 
                    cases h11 : (c == 64) with
                    | false =>
                      rw [hfi, h11, Bool.false_and, Bool.not_true, Bool.or_false, Bool.and_false] at ho
                      (first | refine wX ?_ | exact wZ)
                      rw [forms_none (by rw [← hx, hr0]; exact dr_bad l hc ho)]
                      exact fin_v ⟨_, _, _, rfl⟩
                    | true =>
                      have hn0 := hn1 hT1 h9
                      have hnn : numBig T = num T := by omega
                      rw [hfi, h11, decide_eq_true (show num T ≤ 1000 by omega), decide_eq_true hT1] at ho
                      rw [hnn]
                      (first | refine wX ?_ | exact wZ)
                      refine brd_dec (fun h10 => absurd h10 (by omega)) (fun h10 => ?_)
                      (first | refine wX ?_ | exact wZ)
                      -- the directive with big false and count (num T : Int) is put behind the others; what is left, [], begins at (i + 1) + T.length
                      (first | refine wX ?_ | exact wZ)
                      refine Nd.mk ⟨Nat.le_refl 1, rfl, rfl⟩ ?_
                      (conv => whnf)
                      refine AppN.grow 1 (dirsC l) (dirC ⟨c, false, (num T : Int)⟩) rfl rfl ⟨Nat.le_refl 1, ⟨by show (l.length + 1) * 16 ≤ _; omega, by omega⟩, by show 3 ≠ 0; omega⟩ fun b' cap' h1 h2 => ?_
                      (first | refine wX ?_ | exact wZ)
                      refine ⟨((i + 1) + T.length, l ++ [⟨c, false, (num T : Int)⟩], some b', cap'), ⟨by omega, by rw [← hx, hr0, hW]; exact (dr_next l hc ho).symm, (fun h => by cases h), by simp; omega⟩, by show s.length + 1 - ((i + 1) + T.length) < s.length + 1 - i; omega, ?_, ?_⟩
                      · (repeat' (first | exact trivial | refine And.intro (by with_reducible rfl) ?_ | (with_reducible exact wkC_refl _) | (with_reducible exact wkCs_refl _) | refine And.intro ?_ ?_))
                        all_goals first | (simp [at0]; done) | exact av_int (by omega)
                      · exact ⟨wkE_refl _, .inl ⟨rfl, rfl, by simp [dirsC], rfl, by simp, rfl⟩, wkH_nil _⟩
                | false =>
                  rw [h9] at hfi
                  rw [Bool.not_false, Bool.true_or, Bool.and_true] at hfi
                  (first | refine wX ?_ | exact wZ)
                  refine brd_dec (fun h10 => ?_) (fun h10 => ?_)
                  · rw [hfi, decide_eq_false (show ¬ num T ≤ 1000 by omega)] at ho
                    (first | refine wX ?_ | exact wZ)
                    rw [forms_none (by rw [← hx, hr0]; exact dr_bad l hc ho)]
                    exact fin_v ⟨_, _, _, rfl⟩
                  · rw [hfi, decide_eq_true (show num T ≤ 1000 by omega), if_pos rfl] at ho
                    have hnn : numBig T = num T := by omega
                    rw [hnn]
                    (first | refine wX ?_ | exact wZ)
                    -- the directive with big false and count (num T : Int) is put behind the others; what is left, [], begins at (i + 1) + T.length
                    (first | refine wX ?_ | exact wZ)
                    refine Nd.mk ⟨Nat.le_refl 1, rfl, rfl⟩ ?_
                    (conv => whnf)
                    refine AppN.grow 1 (dirsC l) (dirC ⟨c, false, (num T : Int)⟩) rfl rfl ⟨Nat.le_refl 1, ⟨by show (l.length + 1) * 16 ≤ _; omega, by omega⟩, by show 3 ≠ 0; omega⟩ fun b' cap' h1 h2 => ?_
                    (first | refine wX ?_ | exact wZ)
                    refine ⟨((i + 1) + T.length, l ++ [⟨c, false, (num T : Int)⟩], some b', cap'), ⟨by omega, by rw [← hx, hr0, hW]; exact (dr_next l hc ho).symm, (fun h => by cases h), by simp; omega⟩, by show s.length + 1 - ((i + 1) + T.length) < s.length + 1 - i; omega, ?_, ?_⟩
                    · (repeat' (first | exact trivial | refine And.intro (by with_reducible rfl) ?_ | (with_reducible exact wkC_refl _) | (with_reducible exact wkCs_refl _) | refine And.intro ?_ ?_))
                      all_goals first | (simp [at0]; done) | exact av_int (by omega)
                    · exact ⟨wkE_refl _, .inl ⟨rfl, rfl, by simp [dirsC], rfl, by simp, rfl⟩, wkH_nil _⟩
              | cons c' r' =>
                have hwd := hWd c' r' rfl
                have hbw : byteAt (bs s) (Int.toNat (((i + 1) + T.length : Nat) : Int)) = (c'.toNat : Int) := by rw [Int.toNat_natCast]; exact (drop_at hW).1
                have hltw := (drop_at hW).2.1
                refine brd_dec (fun _ => ?_) (fun h => absurd h (by omega))
                (first | refine wX ?_ | exact wZ)
                rw [hbw]
                refine brd_dec (fun h7 => ?_) (fun _ => ?_)
                · (first | refine wX ?_ | exact wZ)
                  rw [hbw]
                  refine brd_dec (fun h8 => ?_) (fun _ => ?_)
                  · rw [dig_eq, decide_eq_true (show 48 ≤ c'.toNat by omega), decide_eq_true (show c'.toNat ≤ 57 by omega)] at hwd
                    cases hwd
                  ·
                    -- the digits T are read, (c' :: r') is left
                    (first | refine wX ?_ | exact wZ)
                    (conv => whnf)
                    (first | refine wX ?_ | exact wZ)
                    have hfi := fine_is (c := c) hTh
                    have h48 : ((a.toNat : Int) == 48) = (a == 48) := u8_eq (n := 48) (by decide)
                    rw [hb2, h48]
                    have hnb := numBig_gt T
                    have hwr : IntKind.i64.wrap ((((i + 1) : Nat) : Int) + 1) = (((i + 1) : Nat) : Int) + 1 := wrap_i64 (by omega)
                    have hn1 := num_one hTh
                    have hpos : 0 < T.length := by cases T with | nil => cases hTh | cons _ _ => simp
                    cases h9 : (a == 48) with
                    | true =>
                      rw [h9] at hfi
                      (first | refine wX ?_ | exact wZ)
                      refine brd_dec (fun h10 => ?_) (fun h10 => ?_)
                      · rw [hfi, decide_eq_false (show ¬ T.length = 1 by omega), Bool.and_false, Bool.not_true, Bool.or_false, Bool.and_false] at ho
                        (first | refine wX ?_ | exact wZ)
                        rw [forms_none (by rw [← hx, hr0]; exact dr_bad l hc ho)]
                        exact fin_v ⟨_, _, _, rfl⟩
                      · have hT1 : T.length = 1 := by omega
                        have h64 : ((c.toNat : Int) == 64) = (c == 64) := u8_eq (n := 64) (by decide)
                        have h64b : ((c.toNat : Int) != 64) = !(c == 64) := by rw [bne, h64]
                        (first | refine wX ?_ | exact wZ)
                        first | rw [h64b] | (refine brd_dec (fun h => ?_) (fun h => ?_) <;> trace_state) 
                        cases h11 : (c == 64) with
                        | false =>
                          rw [hfi, h11, Bool.false_and, Bool.not_true, Bool.or_false, Bool.and_false] at ho
                          (first | refine wX ?_ | exact wZ)
                          rw [forms_none (by rw [← hx, hr0]; exact dr_bad l hc ho)]
                          exact fin_v ⟨_, _, _, rfl⟩
                        | true =>
                          have hn0 := hn1 hT1 h9
                          have hnn : numBig T = num T := by omega
                          rw [hfi, h11, decide_eq_true (show num T ≤ 1000 by omega), decide_eq_true hT1] at ho
                          rw [hnn]
                          (first | refine wX ?_ | exact wZ)
                          refine brd_dec (fun h10 => absurd h10 (by omega)) (fun h10 => ?_)
                          (first | refine wX ?_ | exact wZ)
                          -- the directive with big false and count (num T : Int) is put behind the others; what is left, (c' :: r'), begins at (i + 1) + T.length
                          (first | refine wX ?_ | exact wZ)
                          refine Nd.mk ⟨Nat.le_refl 1, rfl, rfl⟩ ?_
                          (conv => whnf)
                          refine AppN.grow 1 (dirsC l) (dirC ⟨c, false, (num T : Int)⟩) rfl rfl ⟨Nat.le_refl 1, ⟨by show (l.length + 1) * 16 ≤ _; omega, by omega⟩, by show 3 ≠ 0; omega⟩ fun b' cap' h1 h2 => ?_
                          (first | refine wX ?_ | exact wZ)
                          refine ⟨((i + 1) + T.length, l ++ [⟨c, false, (num T : Int)⟩], some b', cap'), ⟨by omega, by rw [← hx, hr0, hW]; exact (dr_next l hc ho).symm, (fun h => by cases h), by simp; omega⟩, by show s.length + 1 - ((i + 1) + T.length) < s.length + 1 - i; omega, ?_, ?_⟩
                          · (repeat' (first | exact trivial | refine And.intro (by with_reducible rfl) ?_ | (with_reducible exact wkC_refl _) | (with_reducible exact wkCs_refl _) | refine And.intro ?_ ?_))
                            all_goals first | (simp [at0]; done) | exact av_int (by omega)
                          · exact ⟨wkE_refl _, .inl ⟨rfl, rfl, by simp [dirsC], rfl, by simp, rfl⟩, wkH_nil _⟩
                    | false =>
                      rw [h9] at hfi
                      rw [Bool.not_false, Bool.true_or, Bool.and_true] at hfi
                      (first | refine wX ?_ | exact wZ)
                      refine brd_dec (fun h10 => ?_) (fun h10 => ?_)
                      · rw [hfi, decide_eq_false (show ¬ num T ≤ 1000 by omega)] at ho
                        (first | refine wX ?_ | exact wZ)
                        rw [forms_none (by rw [← hx, hr0]; exact dr_bad l hc ho)]
                        exact fin_v ⟨_, _, _, rfl⟩
                      · rw [hfi, decide_eq_true (show num T ≤ 1000 by omega), if_pos rfl] at ho
                        have hnn : numBig T = num T := by omega
                        rw [hnn]
                        (first | refine wX ?_ | exact wZ)
                        -- the directive with big false and count (num T : Int) is put behind the others; what is left, (c' :: r'), begins at (i + 1) + T.length
                        (first | refine wX ?_ | exact wZ)
                        refine Nd.mk ⟨Nat.le_refl 1, rfl, rfl⟩ ?_
                        (conv => whnf)
                        refine AppN.grow 1 (dirsC l) (dirC ⟨c, false, (num T : Int)⟩) rfl rfl ⟨Nat.le_refl 1, ⟨by show (l.length + 1) * 16 ≤ _; omega, by omega⟩, by show 3 ≠ 0; omega⟩ fun b' cap' h1 h2 => ?_
                        (first | refine wX ?_ | exact wZ)
                        refine ⟨((i + 1) + T.length, l ++ [⟨c, false, (num T : Int)⟩], some b', cap'), ⟨by omega, by rw [← hx, hr0, hW]; exact (dr_next l hc ho).symm, (fun h => by cases h), by simp; omega⟩, by show s.length + 1 - ((i + 1) + T.length) < s.length + 1 - i; omega, ?_, ?_⟩
                        · (repeat' (first | exact trivial | refine And.intro (by with_reducible rfl) ?_ | (with_reducible exact wkC_refl _) | (with_reducible exact wkCs_refl _) | refine And.intro ?_ ?_))
                          all_goals first | (simp [at0]; done) | exact av_int (by omega)
                        · exact ⟨wkE_refl _, .inl ⟨rfl, rfl, by simp [dirsC], rfl, by simp, rfl⟩, wkH_nil _⟩
                ·
                    -- the digits T are read, (c' :: r') is left
                    (first | refine wX ?_ | exact wZ)
                    (conv => whnf)
                    (first | refine wX ?_ | exact wZ)
                    have hfi := fine_is (c := c) hTh
                    have h48 : ((a.toNat : Int) == 48) = (a == 48) := u8_eq (n := 48) (by decide)
                    rw [hb2, h48]
                    have hnb := numBig_gt T
                    have hwr : IntKind.i64.wrap ((((i + 1) : Nat) : Int) + 1) = (((i + 1) : Nat) : Int) + 1 := wrap_i64 (by omega)
                    have hn1 := num_one hTh
                    have hpos : 0 < T.length := by cases T with | nil => cases hTh | cons _ _ => simp
                    cases h9 : (a == 48) with
                    | true =>
                      rw [h9] at hfi
                      (first | refine wX ?_ | exact wZ)
                      refine brd_dec (fun h10 => ?_) (fun h10 => ?_)
                      · rw [hfi, decide_eq_false (show ¬ T.length = 1 by omega), Bool.and_false, Bool.not_true, Bool.or_false, Bool.and_false] at ho
                        (first | refine wX ?_ | exact wZ)
                        rw [forms_none (by rw [← hx, hr0]; exact dr_bad l hc ho)]
                        exact fin_v ⟨_, _, _, rfl⟩
                      · have hT1 : T.length = 1 := by omega
                        have h64 : ((c.toNat : Int) == 64) = (c == 64) := u8_eq (n := 64) (by decide)
                        have h64b : ((c.toNat : Int) != 64) = !(c == 64) := by rw [bne, h64]
                        (first | refine wX ?_ | exact wZ)
                        first | rw [h64b] | (refine brd_dec (fun h => ?_) (fun h => ?_) <;> trace_state) 
                        cases h11 : (c == 64) with
                        | false =>
                          rw [hfi, h11, Bool.false_and, Bool.not_true, Bool.or_false, Bool.and_false] at ho
                          (first | refine wX ?_ | exact wZ)
                          rw [forms_none (by rw [← hx, hr0]; exact dr_bad l hc ho)]
                          exact fin_v ⟨_, _, _, rfl⟩
                        | true =>
                          have hn0 := hn1 hT1 h9
                          have hnn : numBig T = num T := by omega
                          rw [hfi, h11, decide_eq_true (show num T ≤ 1000 by omega), decide_eq_true hT1] at ho
                          rw [hnn]
                          (first | refine wX ?_ | exact wZ)
                          refine brd_dec (fun h10 => absurd h10 (by omega)) (fun h10 => ?_)
                          (first | refine wX ?_ | exact wZ)
                          -- the directive with big false and count (num T : Int) is put behind the others; what is left, (c' :: r'), begins at (i + 1) + T.length
                          (first | refine wX ?_ | exact wZ)
                          refine Nd.mk ⟨Nat.le_refl 1, rfl, rfl⟩ ?_
                          (conv => whnf)
                          refine AppN.grow 1 (dirsC l) (dirC ⟨c, false, (num T : Int)⟩) rfl rfl ⟨Nat.le_refl 1, ⟨by show (l.length + 1) * 16 ≤ _; omega, by omega⟩, by show 3 ≠ 0; omega⟩ fun b' cap' h1 h2 => ?_
                          (first | refine wX ?_ | exact wZ)
                          refine ⟨((i + 1) + T.length, l ++ [⟨c, false, (num T : Int)⟩], some b', cap'), ⟨by omega, by rw [← hx, hr0, hW]; exact (dr_next l hc ho).symm, (fun h => by cases h), by simp; omega⟩, by show s.length + 1 - ((i + 1) + T.length) < s.length + 1 - i; omega, ?_, ?_⟩
                          · (repeat' (first | exact trivial | refine And.intro (by with_reducible rfl) ?_ | (with_reducible exact wkC_refl _) | (with_reducible exact wkCs_refl _) | refine And.intro ?_ ?_))
                            all_goals first | (simp [at0]; done) | exact av_int (by omega)
                          · exact ⟨wkE_refl _, .inl ⟨rfl, rfl, by simp [dirsC], rfl, by simp, rfl⟩, wkH_nil _⟩
                    | false =>
                      rw [h9] at hfi
                      rw [Bool.not_false, Bool.true_or, Bool.and_true] at hfi
                      (first | refine wX ?_ | exact wZ)
                      refine brd_dec (fun h10 => ?_) (fun h10 => ?_)
                      · rw [hfi, decide_eq_false (show ¬ num T ≤ 1000 by omega)] at ho
                        (first | refine wX ?_ | exact wZ)
                        rw [forms_none (by rw [← hx, hr0]; exact dr_bad l hc ho)]
                        exact fin_v ⟨_, _, _, rfl⟩
                      · rw [hfi, decide_eq_true (show num T ≤ 1000 by omega), if_pos rfl] at ho
                        have hnn : numBig T = num T := by omega
                        rw [hnn]
                        (first | refine wX ?_ | exact wZ)
                        -- the directive with big false and count (num T : Int) is put behind the others; what is left, (c' :: r'), begins at (i + 1) + T.length
                        (first | refine wX ?_ | exact wZ)
                        refine Nd.mk ⟨Nat.le_refl 1, rfl, rfl⟩ ?_
                        (conv => whnf)
                        refine AppN.grow 1 (dirsC l) (dirC ⟨c, false, (num T : Int)⟩) rfl rfl ⟨Nat.le_refl 1, ⟨by show (l.length + 1) * 16 ≤ _; omega, by omega⟩, by show 3 ≠ 0; omega⟩ fun b' cap' h1 h2 => ?_
                        (first | refine wX ?_ | exact wZ)
                        refine ⟨((i + 1) + T.length, l ++ [⟨c, false, (num T : Int)⟩], some b', cap'), ⟨by omega, by rw [← hx, hr0, hW]; exact (dr_next l hc ho).symm, (fun h => by cases h), by simp; omega⟩, by show s.length + 1 - ((i + 1) + T.length) < s.length + 1 - i; omega, ?_, ?_⟩
                        · (repeat' (first | exact trivial | refine And.intro (by with_reducible rfl) ?_ | (with_reducible exact wkC_refl _) | (with_reducible exact wkCs_refl _) | refine And.intro ?_ ?_))
                          all_goals first | (simp [at0]; done) | exact av_int (by omega)
                        · exact ⟨wkE_refl _, .inl ⟨rfl, rfl, by simp [dirsC], rfl, by simp, rfl⟩, wkH_nil _⟩
          · have hda : dig a = false := by rw [dig_eq, decide_eq_false (show ¬ a.toNat ≤ 57 by omega), Bool.and_false]
            have ho := ho0
            rw [cnt_none hst (List.takeWhile_cons_of_neg (by simp [hda]))] at ho
            -- the directive with big false and count (-2) is put behind the others; what is left, (a :: r2), begins at (i + 1)
            (first | refine wX ?_ | exact wZ)
            refine Nd.mk ⟨Nat.le_refl 1, rfl, rfl⟩ ?_
            (conv => whnf)
            refine AppN.grow 1 (dirsC l) (dirC ⟨c, false, (-2)⟩) rfl rfl ⟨Nat.le_refl 1, ⟨by show (l.length + 1) * 16 ≤ _; omega, by omega⟩, by show 3 ≠ 0; omega⟩ fun b' cap' h1 h2 => ?_
            (first | refine wX ?_ | exact wZ)
            refine ⟨((i + 1), l ++ [⟨c, false, (-2)⟩], some b', cap'), ⟨by omega, by rw [← hx, hr0, hdr]; exact (dr_next l hc ho).symm, (fun h => by cases h), by simp; omega⟩, by show s.length + 1 - ((i + 1)) < s.length + 1 - i; omega, ?_, ?_⟩
            · (repeat' (first | exact trivial | refine And.intro (by with_reducible rfl) ?_ | (with_reducible exact wkC_refl _) | (with_reducible exact wkCs_refl _) | refine And.intro ?_ ?_))
              all_goals first | (simp [at0]; done) | exact av_int (by omega)
            · exact ⟨wkE_refl _, .inl ⟨rfl, rfl, by simp [dirsC], rfl, by simp, rfl⟩, wkH_nil _⟩
        · have hda : dig a = false := by rw [dig_eq, decide_eq_false (show ¬ 48 ≤ a.toNat by omega), Bool.false_and]
          have ho := ho0
          rw [cnt_none hst (List.takeWhile_cons_of_neg (by simp [hda]))] at ho
          -- the directive with big false and count (-2) is put behind the others; what is left, (a :: r2), begins at (i + 1)
          (first | refine wX ?_ | exact wZ)
          refine Nd.mk ⟨Nat.le_refl 1, rfl, rfl⟩ ?_
          (conv => whnf)
          refine AppN.grow 1 (dirsC l) (dirC ⟨c, false, (-2)⟩) rfl rfl ⟨Nat.le_refl 1, ⟨by show (l.length + 1) * 16 ≤ _; omega, by omega⟩, by show 3 ≠ 0; omega⟩ fun b' cap' h1 h2 => ?_
          (first | refine wX ?_ | exact wZ)
          refine ⟨((i + 1), l ++ [⟨c, false, (-2)⟩], some b', cap'), ⟨by omega, by rw [← hx, hr0, hdr]; exact (dr_next l hc ho).symm, (fun h => by cases h), by simp; omega⟩, by show s.length + 1 - ((i + 1)) < s.length + 1 - i; omega, ?_, ?_⟩
          · (repeat' (first | exact trivial | refine And.intro (by with_reducible rfl) ?_ | (with_reducible exact wkC_refl _) | (with_reducible exact wkCs_refl _) | refine And.intro ?_ ?_))
            all_goals first | (simp [at0]; done) | exact av_int (by omega)
          · exact ⟨wkE_refl _, .inl ⟨rfl, rfl, by simp [dirsC], rfl, by simp, rfl⟩, wkH_nil _⟩
end Go.Proofs.YtjkchonpnocffaaGreatDoor

/-
  Contracts: the program's small functions of a directive.
-/
namespace Go.Proofs.YtjkchonpnocffaaGreatDoor
open Go.AX Go.RowKit Go.Pack
set_option maxRecDepth 20000

def dirV (d : Dir) : Value := .agg #[.int .u8 (d.letter.toNat : Int), .bool d.big, .int .i64 d.count]
theorem isStr_eq (c : UInt8) : ([97, 65, 90, 72] : List UInt8).contains c = isStr c := by
  unfold isStr
  simp only [List.contains_cons, List.contains_nil, Bool.or_false, Bool.or_assoc]
theorem sg_eq (c : UInt8) : ([99, 115, 108, 113] : List UInt8).contains c = sg c := by
  unfold sg
  simp only [List.contains_cons, List.contains_nil, Bool.or_false, Bool.or_assoc]
theorem index_ge (l : List UInt8) (c : UInt8) : decide (Lib.indexByte l c ≥ 0) = l.contains c := by
  cases h : l.contains c with
  | false => exact decide_eq_false (by have := (index_lt l c).2 h; omega)
  | true =>
    exact decide_eq_true (by
      have h2 : ¬ Lib.indexByte l c < 0 := fun h2 => by rw [(index_lt l c).1 h2] at h; cases h
      omega)
theorem isString_c (d : Dir) : ∀ H, SpecH Tryz.prog 15 (pvs [dirV d]) H (Ret (.bool (isStr d.letter)) H) := by
  refine pureC hm Tryz.func15 (by kernel_rfl) rfl rfl ?_
  (first | refine wX ?_ | exact wZ)
  refine call1 (IndexByte_c [97, 65, 90, 72] d.letter _) ?_
  (first | refine wX ?_ | exact wZ)
  rw [index_ge, isStr_eq]
theorem signed_c (d : Dir) : ∀ H, SpecH Tryz.prog 86 (pvs [dirV d]) H (Ret (.bool (sg d.letter)) H) := by
  refine pureC hm Tryz.func86 (by kernel_rfl) rfl rfl ?_
  (first | refine wX ?_ | exact wZ)
  refine call1 (IndexByte_c [99, 115, 108, 113] d.letter _) ?_
  (first | refine wX ?_ | exact wZ)
  rw [index_ge, sg_eq]
theorem isPlace_c (d : Dir) : ∀ H, SpecH Tryz.prog 31 (pvs [dirV d]) H (Ret (.bool (isPl d.letter)) H) := by
  refine pureC hm Tryz.func31 (by kernel_rfl) rfl rfl ?_
  have h120 : ((d.letter.toNat : Int) == 120) = (d.letter == 120) := u8_eq (n := 120) (by decide)
  have h64 : ((d.letter.toNat : Int) == 64) = (d.letter == 64) := u8_eq (n := 64) (by decide)
  (first | refine wX ?_ | exact wZ)
  rw [h120]
  unfold isPl
  cases d.letter == 120 with
  | true =>
    (first | refine wX ?_ | exact wZ)
    rfl
  | false =>
    (first | refine wX ?_ | exact wZ)
    rw [h64, Bool.false_or]
theorem high_c (d : Dir) : ∀ H, SpecH Tryz.prog 76 (pvs [dirV d]) H (Ret (.bool (hi d)) H) := by
  refine pureC hm Tryz.func76 (by kernel_rfl) rfl rfl ?_
  have h120 : ((d.letter.toNat : Int) == 110) = (d.letter == 110) := u8_eq (n := 110) (by decide)
  have h64 : ((d.letter.toNat : Int) == 78) = (d.letter == 78) := u8_eq (n := 78) (by decide)
  unfold hi
  (first | refine wX ?_ | exact wZ)
  cases d.big with
  | true =>
    (first | refine wX ?_ | exact wZ)
    rfl
  | false =>
    (first | refine wX ?_ | exact wZ)
    rw [h120]
    cases d.letter == 110 with
    | true =>
      (first | refine wX ?_ | exact wZ)
      rfl
    | false =>
      (first | refine wX ?_ | exact wZ)
      rw [h64, Bool.false_or]
      rfl
/-- api.Errno of a form -/
def chk : Option (List Dir) → Int
  | none => 4
  | some _ => 0
theorem Check_c (s : List UInt8) (hs : s.length ≤ 100000) : ∀ H, SpecH Tryz.prog 29 (pvs [.string (bs s)]) H (Ret (.int .i64 (chk (forms s))) H) := by
  refine pureC hm Tryz.func29 (by kernel_rfl) rfl rfl ?_
  (first | refine wX ?_ | exact wZ)
  refine SpecF.call0 (read_c s hs) (fun w _ => trivial) fun v G hR => ?_
  cases hf : forms s with
  | none =>
    rw [hf] at hR
    obtain ⟨y, n, cap, rfl⟩ := hR
    (first | refine wX ?_ | exact wZ)
    rfl
  | some l =>
    rw [hf] at hR
    obtain ⟨ob, cap, rfl, _⟩ := hR
    (first | refine wX ?_ | exact wZ)
    rfl
end Go.Proofs.YtjkchonpnocffaaGreatDoor

/-
  Contract: how many bytes a number of fixed size has (program).
-/
namespace Go.Proofs.YtjkchonpnocffaaGreatDoor
open Go.AX Go.RowKit Go.Pack
set_option maxRecDepth 20000

theorem find_none {n : Int} : ∀ (es : List MapEntry) (i : Nat), es.all (fun e => match e.key with | .int .u8 m => !(n == m) | _ => false) = true → Instr.findNow (.int .u8) (.int .u8 n) es i = some none
  | [], _, _ => rfl
  | ⟨k, v, b⟩ :: es, i, h => by
    rw [List.all_cons, Bool.and_eq_true] at h
    obtain ⟨h1, h2⟩ := h
    have ih := find_none es (i + 1) h2
    unfold Instr.findNow
    split at h1
    · rename_i m hk
      have hkk : k = .int .u8 m := hk
      subst hkk
      have hnm : (n == m) = false := by simpa using h1
      simp only [Instr.sameNow, hnm, if_true]
      exact ih
    · cases h1
theorem bytes_c (d : Dir) : ∀ H, SpecH Tryz.prog 41 (pvs [dirV d]) H (Ret (.int .i64 (sz d.letter : Nat)) H) := by
  refine pureC hm Tryz.func41 (by kernel_rfl) rfl rfl ?_
  obtain ⟨c, b, n⟩ := d
  (first | refine wX ?_ | exact wZ)
  refine EffW.mkMap rfl fun mb => ?_
  (first | refine wX ?_ | exact wZ)
  refine EffW.putMap (kt := 5) (et := 3) (κ := .u8) 1 rfl (by kernel_rfl) (by kernel_rfl) rfl rfl rfl rfl rfl ?_
  (first | refine wX ?_ | exact wZ)
  refine EffW.putMap (kt := 5) (et := 3) (κ := .u8) 1 rfl (by kernel_rfl) (by kernel_rfl) rfl rfl rfl rfl rfl ?_
  (first | refine wX ?_ | exact wZ)
  refine EffW.putMap (kt := 5) (et := 3) (κ := .u8) 1 rfl (by kernel_rfl) (by kernel_rfl) rfl rfl rfl rfl rfl ?_
  (first | refine wX ?_ | exact wZ)
  refine EffW.putMap (kt := 5) (et := 3) (κ := .u8) 1 rfl (by kernel_rfl) (by kernel_rfl) rfl rfl rfl rfl rfl ?_
  (first | refine wX ?_ | exact wZ)
  refine EffW.putMap (kt := 5) (et := 3) (κ := .u8) 1 rfl (by kernel_rfl) (by kernel_rfl) rfl rfl rfl rfl rfl ?_
  (first | refine wX ?_ | exact wZ)
  refine EffW.putMap (kt := 5) (et := 3) (κ := .u8) 1 rfl (by kernel_rfl) (by kernel_rfl) rfl rfl rfl rfl rfl ?_
  (first | refine wX ?_ | exact wZ)
  refine EffW.putMap (kt := 5) (et := 3) (κ := .u8) 1 rfl (by kernel_rfl) (by kernel_rfl) rfl rfl rfl rfl rfl ?_
  (first | refine wX ?_ | exact wZ)
  refine EffW.putMap (kt := 5) (et := 3) (κ := .u8) 1 rfl (by kernel_rfl) (by kernel_rfl) rfl rfl rfl rfl rfl ?_
  (first | refine wX ?_ | exact wZ)
  refine EffW.putMap (kt := 5) (et := 3) (κ := .u8) 1 rfl (by kernel_rfl) (by kernel_rfl) rfl rfl rfl rfl rfl ?_
  (first | refine wX ?_ | exact wZ)
  refine EffW.putMap (kt := 5) (et := 3) (κ := .u8) 1 rfl (by kernel_rfl) (by kernel_rfl) rfl rfl rfl rfl rfl ?_
  by_cases h67 : c = 67
  · subst h67
    (first | refine wX ?_ | exact wZ)
    refine ReadW.getMap (kt := 5) (et := 3) (κ := .u8) (j := 0) rfl (by kernel_rfl) (by kernel_rfl) rfl rfl (fun w hw => hw.1) rfl ?_
    (first | refine wX ?_ | exact wZ)
    rfl
  by_cases h99 : c = 99
  · subst h99
    (first | refine wX ?_ | exact wZ)
    refine ReadW.getMap (kt := 5) (et := 3) (κ := .u8) (j := 1) rfl (by kernel_rfl) (by kernel_rfl) rfl rfl (fun w hw => hw.1) rfl ?_
    (first | refine wX ?_ | exact wZ)
    rfl
  by_cases h83 : c = 83
  · subst h83
    (first | refine wX ?_ | exact wZ)
    refine ReadW.getMap (kt := 5) (et := 3) (κ := .u8) (j := 2) rfl (by kernel_rfl) (by kernel_rfl) rfl rfl (fun w hw => hw.1) rfl ?_
    (first | refine wX ?_ | exact wZ)
    rfl
  by_cases h115 : c = 115
  · subst h115
    (first | refine wX ?_ | exact wZ)
    refine ReadW.getMap (kt := 5) (et := 3) (κ := .u8) (j := 3) rfl (by kernel_rfl) (by kernel_rfl) rfl rfl (fun w hw => hw.1) rfl ?_
    (first | refine wX ?_ | exact wZ)
    rfl
  by_cases h110 : c = 110
  · subst h110
    (first | refine wX ?_ | exact wZ)
    refine ReadW.getMap (kt := 5) (et := 3) (κ := .u8) (j := 4) rfl (by kernel_rfl) (by kernel_rfl) rfl rfl (fun w hw => hw.1) rfl ?_
    (first | refine wX ?_ | exact wZ)
    rfl
  by_cases h76 : c = 76
  · subst h76
    (first | refine wX ?_ | exact wZ)
    refine ReadW.getMap (kt := 5) (et := 3) (κ := .u8) (j := 5) rfl (by kernel_rfl) (by kernel_rfl) rfl rfl (fun w hw => hw.1) rfl ?_
    (first | refine wX ?_ | exact wZ)
    rfl
  by_cases h108 : c = 108
  · subst h108
    (first | refine wX ?_ | exact wZ)
    refine ReadW.getMap (kt := 5) (et := 3) (κ := .u8) (j := 6) rfl (by kernel_rfl) (by kernel_rfl) rfl rfl (fun w hw => hw.1) rfl ?_
    (first | refine wX ?_ | exact wZ)
    rfl
  by_cases h78 : c = 78
  · subst h78
    (first | refine wX ?_ | exact wZ)
    refine ReadW.getMap (kt := 5) (et := 3) (κ := .u8) (j := 7) rfl (by kernel_rfl) (by kernel_rfl) rfl rfl (fun w hw => hw.1) rfl ?_
    (first | refine wX ?_ | exact wZ)
    rfl
  by_cases h81 : c = 81
  · subst h81
    (first | refine wX ?_ | exact wZ)
    refine ReadW.getMap (kt := 5) (et := 3) (κ := .u8) (j := 8) rfl (by kernel_rfl) (by kernel_rfl) rfl rfl (fun w hw => hw.1) rfl ?_
    (first | refine wX ?_ | exact wZ)
    rfl
  by_cases h113 : c = 113
  · subst h113
    (first | refine wX ?_ | exact wZ)
    refine ReadW.getMap (kt := 5) (et := 3) (κ := .u8) (j := 9) rfl (by kernel_rfl) (by kernel_rfl) rfl rfl (fun w hw => hw.1) rfl ?_
    (first | refine wX ?_ | exact wZ)
    rfl
  have nn : ∀ k : UInt8, ¬ c = k → c.toNat ≠ k.toNat := fun k h h2 => h (UInt8.toNat_inj.1 h2)
  have n67 : c.toNat ≠ 67 := nn 67 h67
  have n99 : c.toNat ≠ 99 := nn 99 h99
  have n83 : c.toNat ≠ 83 := nn 83 h83
  have n115 : c.toNat ≠ 115 := nn 115 h115
  have n110 : c.toNat ≠ 110 := nn 110 h110
  have n76 : c.toNat ≠ 76 := nn 76 h76
  have n108 : c.toNat ≠ 108 := nn 108 h108
  have n78 : c.toNat ≠ 78 := nn 78 h78
  have n81 : c.toNat ≠ 81 := nn 81 h81
  have n113 : c.toNat ≠ 113 := nn 113 h113
  obtain ⟨inf, hi1, hi2⟩ := Option.map_eq_some_iff.1 (show (Tryz.prog.info? 3).map (·.zero) = some (some (.int .i64 0)) by kernel_rfl)
  (first | refine wX ?_ | exact wZ)
  refine ReadW.noMap (kt := 5) (et := 3) (κ := .u8) rfl (by kernel_rfl) (by kernel_rfl) hi1 hi2 rfl rfl (fun w hw => hw.1) ?_ ?_
  · exact find_none _ _ (by
      simp
      omega)
  · have hs : sz c = 0 := by simp [sz, h67, h99, h83, h115, h110, h76, h108, h78, h81, h113]
    show _
    rw [hs]
    (first | refine wX ?_ | exact wZ)
    rfl
end Go.Proofs.YtjkchonpnocffaaGreatDoor

/-
  Contracts: a number fits; a hex digit (program).
-/
namespace Go.Proofs.YtjkchonpnocffaaGreatDoor
open Go.AX Go.RowKit Go.Pack
set_option maxRecDepth 20000

theorem sz_cases {c : UInt8} (h : sz c ≠ 0) : c = 67 ∨ c = 99 ∨ c = 83 ∨ c = 115 ∨ c = 110 ∨ c = 76 ∨ c = 108 ∨ c = 78 ∨ c = 81 ∨ c = 113 := by
  unfold sz at h
  split at h
  · rename_i h1; simp at h1; rcases h1 with h1 | h1 <;> simp [h1]
  split at h
  · rename_i h1; simp at h1; rcases h1 with (h1 | h1) | h1 <;> simp [h1]
  split at h
  · rename_i h1; simp at h1; rcases h1 with (h1 | h1) | h1 <;> simp [h1]
  split at h
  · rename_i h1; simp at h1; rcases h1 with h1 | h1 <;> simp [h1]
  · exact absurd rfl h
theorem bytes_l (c : UInt8) (k : Nat) (h : sz c = k) (b : Bool) (n : Int) : ∀ H, SpecH Tryz.prog 41 (pvs [.agg #[.int .u8 (c.toNat : Int), .bool b, .int .i64 n]]) H (Ret (.int .i64 (k : Nat)) H) := by
  subst h
  exact bytes_c ⟨c, b, n⟩
theorem signed_l (c : UInt8) (k : Bool) (h : sg c = k) (b : Bool) (n : Int) : ∀ H, SpecH Tryz.prog 86 (pvs [.agg #[.int .u8 (c.toNat : Int), .bool b, .int .i64 n]]) H (Ret (.bool k) H) := by
  subst h
  exact signed_c ⟨c, b, n⟩
theorem fits_c (c : UInt8) (b : Bool) (k n : Int) (h : sz c ≠ 0) : ∀ H, SpecH Tryz.prog 75 (pvs [.agg #[.int .u8 (c.toNat : Int), .bool b, .int .i64 k], .int .i64 n]) H (Ret (.bool (fit c n)) H) := by
  refine pureC hm Tryz.func75 (by kernel_rfl) rfl rfl ?_
  rcases sz_cases h with rfl | rfl | rfl | rfl | rfl | rfl | rfl | rfl | rfl | rfl
  · (first | refine wX ?_ | exact wZ)
    refine call1 (bytes_l 67 1 rfl b k _) ?_
    (first | refine wX ?_ | exact wZ)
    refine call1 (signed_l 67 false rfl b k _) ?_
    (first | refine wX ?_ | exact wZ)
    refine brd_dec (fun h1 => ?_) (fun h1 => ?_)
    · (first | refine wX ?_ | exact wZ)
      rw [show fit 67 n = (decide (0 ≤ n) && decide (n < 256)) from rfl, decide_eq_true h1]
      rfl
    · (first | refine wX ?_ | exact wZ)
      rw [show fit 67 n = (decide (0 ≤ n) && decide (n < 256)) from rfl, decide_eq_false h1]
      rfl
  · (first | refine wX ?_ | exact wZ)
    refine call1 (bytes_l 99 1 rfl b k _) ?_
    (first | refine wX ?_ | exact wZ)
    refine call1 (signed_l 99 true rfl b k _) ?_
    (first | refine wX ?_ | exact wZ)
    rw [show IntKind.i64.wrap (-1 * 2 ^ min (IntKind.i64.wrap (8 * ((1 : Nat) : Int) - 1)).toNat IntKind.i64.bits) = -128 from rfl]
    refine brd_dec (fun h1 => ?_) (fun h1 => ?_)
    · (first | refine wX ?_ | exact wZ)
      rw [show fit 99 n = (decide (-128 ≤ n) && decide (n < 128)) from rfl, decide_eq_true h1]
      rfl
    · (first | refine wX ?_ | exact wZ)
      rw [show fit 99 n = (decide (-128 ≤ n) && decide (n < 128)) from rfl, decide_eq_false h1]
      rfl
  · (first | refine wX ?_ | exact wZ)
    refine call1 (bytes_l 83 2 rfl b k _) ?_
    (first | refine wX ?_ | exact wZ)
    refine call1 (signed_l 83 false rfl b k _) ?_
    (first | refine wX ?_ | exact wZ)
    refine brd_dec (fun h1 => ?_) (fun h1 => ?_)
    · (first | refine wX ?_ | exact wZ)
      rw [show fit 83 n = (decide (0 ≤ n) && decide (n < 65536)) from rfl, decide_eq_true h1]
      rfl
    · (first | refine wX ?_ | exact wZ)
      rw [show fit 83 n = (decide (0 ≤ n) && decide (n < 65536)) from rfl, decide_eq_false h1]
      rfl
  · (first | refine wX ?_ | exact wZ)
    refine call1 (bytes_l 115 2 rfl b k _) ?_
    (first | refine wX ?_ | exact wZ)
    refine call1 (signed_l 115 true rfl b k _) ?_
    (first | refine wX ?_ | exact wZ)
    rw [show IntKind.i64.wrap (-1 * 2 ^ min (IntKind.i64.wrap (8 * ((2 : Nat) : Int) - 1)).toNat IntKind.i64.bits) = -32768 from rfl]
    refine brd_dec (fun h1 => ?_) (fun h1 => ?_)
    · (first | refine wX ?_ | exact wZ)
      rw [show fit 115 n = (decide (-32768 ≤ n) && decide (n < 32768)) from rfl, decide_eq_true h1]
      rfl
    · (first | refine wX ?_ | exact wZ)
      rw [show fit 115 n = (decide (-32768 ≤ n) && decide (n < 32768)) from rfl, decide_eq_false h1]
      rfl
  · (first | refine wX ?_ | exact wZ)
    refine call1 (bytes_l 110 2 rfl b k _) ?_
    (first | refine wX ?_ | exact wZ)
    refine call1 (signed_l 110 false rfl b k _) ?_
    (first | refine wX ?_ | exact wZ)
    refine brd_dec (fun h1 => ?_) (fun h1 => ?_)
    · (first | refine wX ?_ | exact wZ)
      rw [show fit 110 n = (decide (0 ≤ n) && decide (n < 65536)) from rfl, decide_eq_true h1]
      rfl
    · (first | refine wX ?_ | exact wZ)
      rw [show fit 110 n = (decide (0 ≤ n) && decide (n < 65536)) from rfl, decide_eq_false h1]
      rfl
  · (first | refine wX ?_ | exact wZ)
    refine call1 (bytes_l 76 4 rfl b k _) ?_
    (first | refine wX ?_ | exact wZ)
    refine call1 (signed_l 76 false rfl b k _) ?_
    (first | refine wX ?_ | exact wZ)
    refine brd_dec (fun h1 => ?_) (fun h1 => ?_)
    · (first | refine wX ?_ | exact wZ)
      rw [show fit 76 n = (decide (0 ≤ n) && decide (n < 4294967296)) from rfl, decide_eq_true h1]
      rfl
    · (first | refine wX ?_ | exact wZ)
      rw [show fit 76 n = (decide (0 ≤ n) && decide (n < 4294967296)) from rfl, decide_eq_false h1]
      rfl
  · (first | refine wX ?_ | exact wZ)
    refine call1 (bytes_l 108 4 rfl b k _) ?_
    (first | refine wX ?_ | exact wZ)
    refine call1 (signed_l 108 true rfl b k _) ?_
    (first | refine wX ?_ | exact wZ)
    rw [show IntKind.i64.wrap (-1 * 2 ^ min (IntKind.i64.wrap (8 * ((4 : Nat) : Int) - 1)).toNat IntKind.i64.bits) = -2147483648 from rfl]
    refine brd_dec (fun h1 => ?_) (fun h1 => ?_)
    · (first | refine wX ?_ | exact wZ)
      rw [show fit 108 n = (decide (-2147483648 ≤ n) && decide (n < 2147483648)) from rfl, decide_eq_true h1]
      rfl
    · (first | refine wX ?_ | exact wZ)
      rw [show fit 108 n = (decide (-2147483648 ≤ n) && decide (n < 2147483648)) from rfl, decide_eq_false h1]
      rfl
  · (first | refine wX ?_ | exact wZ)
    refine call1 (bytes_l 78 4 rfl b k _) ?_
    (first | refine wX ?_ | exact wZ)
    refine call1 (signed_l 78 false rfl b k _) ?_
    (first | refine wX ?_ | exact wZ)
    refine brd_dec (fun h1 => ?_) (fun h1 => ?_)
    · (first | refine wX ?_ | exact wZ)
      rw [show fit 78 n = (decide (0 ≤ n) && decide (n < 4294967296)) from rfl, decide_eq_true h1]
      rfl
    · (first | refine wX ?_ | exact wZ)
      rw [show fit 78 n = (decide (0 ≤ n) && decide (n < 4294967296)) from rfl, decide_eq_false h1]
      rfl
  · (first | refine wX ?_ | exact wZ)
    refine call1 (bytes_l 81 8 rfl b k _) ?_
    (first | refine wX ?_ | exact wZ)
    rfl
  · (first | refine wX ?_ | exact wZ)
    refine call1 (bytes_l 113 8 rfl b k _) ?_
    (first | refine wX ?_ | exact wZ)
    rfl
end Go.Proofs.YtjkchonpnocffaaGreatDoor

/-
  Plain Lean: turned in place.
-/
namespace Go.Pack
/-- i bytes at either end are turned. -/
def sw (l : B) (i : Nat) : B := (List.range l.length).map fun k => if k < i ∨ l.length ≤ k + i then l.getD (l.length - 1 - k) 0 else l.getD k 0
theorem sw_len (l : B) (i : Nat) : (sw l i).length = l.length := by simp [sw]
theorem sw_get (l : B) (i k : Nat) (h : k < l.length) : (sw l i)[k]? = some (if k < i ∨ l.length ≤ k + i then l.getD (l.length - 1 - k) 0 else l.getD k 0) := by
  simp [sw, h]
theorem sw_zero (l : B) : sw l 0 = l := by
  apply List.ext_getElem?
  intro k
  rcases Nat.lt_or_ge k l.length with h | h
  · rw [sw_get l 0 k h, if_neg (by omega)]
    simp [List.getD, h]
  · rw [List.getElem?_eq_none (by rw [sw_len]; exact h), List.getElem?_eq_none h]
theorem sw_end (l : B) (i : Nat) (hi : l.length ≤ 2 * i + 1) : sw l i = l.reverse := by
  apply List.ext_getElem?
  intro k
  rcases Nat.lt_or_ge k l.length with h | h
  · rw [sw_get l i k h, List.getElem?_reverse h]
    have hk : l.length - 1 - k < l.length := by omega
    by_cases h2 : k < i ∨ l.length ≤ k + i
    · rw [if_pos h2]
      simp [List.getD, List.getElem?_eq_getElem hk]
    · rw [if_neg h2]
      have : k = l.length - 1 - k := by omega
      rw [← this]
      simp [List.getD, h]
  · rw [List.getElem?_eq_none (by rw [sw_len]; exact h), List.getElem?_eq_none (by simpa using h)]
theorem sw_step (l : B) (i : Nat) (hi : i < l.length - 1 - i) : ((sw l i).set i (l.getD (l.length - 1 - i) 0)).set (l.length - 1 - i) (l.getD i 0) = sw l (i + 1) := by
  apply List.ext_getElem?
  intro k
  rcases Nat.lt_or_ge k l.length with h | h
  · rw [sw_get l (i + 1) k h, List.getElem?_set, List.getElem?_set]
    simp only [List.length_set, sw_len]
    by_cases h1 : l.length - 1 - i = k
    · rw [if_pos h1, if_pos (by omega), if_pos (by omega)]
      congr 2
      omega
    · rw [if_neg h1]
      by_cases h2 : i = k
      · rw [if_pos h2, if_pos (by omega), if_pos (by omega), h2]
      · rw [if_neg h2, sw_get l i k h]
        by_cases h3 : k < i ∨ l.length ≤ k + i
        · rw [if_pos h3, if_pos (by omega)]
        · rw [if_neg h3, if_neg (by omega)]
  · rw [List.getElem?_eq_none (by simp [sw_len]; exact h), List.getElem?_eq_none (by rw [sw_len]; exact h)]
end Go.Pack

/-
  Contract: bytes turned in place (slices.Reverse).
-/
namespace Go.Proofs.YtjkchonpnocffaaGreatDoor
open Go.AX Go.RowKit Go.Pack
set_option maxRecDepth 20000

def own (l : List UInt8) (b cap : Nat) : Ent := .app 5 1 (u8s l) (some ⟨b, 0, none⟩) l.length cap
theorem ptr_lit {a : AV} {b n q : Nat} (h : a = .c (.v (.pointer (some (elemAddr (some ⟨b, 0, none⟩) n))))) (hq : n = q) : a = .c (.v (.pointer (some ⟨b, q, none⟩))) := by
  rw [h, hq]
  unfold elemAddr
  rw [show (some (⟨b, 0, none⟩ : Addr)).getD default = ⟨b, 0, none⟩ from rfl, add_lit0]
theorem u8s_at {l : List UInt8} {k : Nat} {c : UInt8} (h : l[k]? = some c) : (u8s l)[k]? = some (.int .u8 (c.toNat : Int)) := by simp [u8s, h]
theorem u8s_put {l : List UInt8} {k : Nat} (c : UInt8) (h : k < l.length) : (u8s l).take k ++ [.int .u8 (c.toNat : Int)] ++ (u8s l).drop (k + 1) = u8s (l.set k c) := by
  have := put_set (xs := u8s l) (q := k) (.int .u8 (c.toNat : Int)) (by simpa [u8s] using h)
  rw [show [Value.int .u8 (c.toNat : Int)].length = 1 from rfl] at this
  rw [this]
  simp [u8s]
theorem Reverse_c (l : List UInt8) (b cap : Nat) (hl : l.length ≤ 1000000) : SpecH Tryz.prog 77 [.c (.v (.slice (some ⟨b, 0, none⟩) l.length cap))] [own l b cap] (RetG (ι := Unit) (fun _ => True) (fun _ => .tuple #[]) fun _ => [own l.reverse b cap]) := by
  refine ownC hm Tryz.func77 (by kernel_rfl) rfl rfl (fun _ _ => okHB_eq rfl) (fun _ _ => Nat.le_refl _) ?_
  (first | refine wX ?_ | exact wZ)
  refine LoopN.intro Nat (fun i => 2 * i ≤ l.length + 1)
    (fun i => mkS Tryz.f77.ntmps 0 [(0, .c (.v (.slice (some ⟨b, 0, none⟩) l.length cap))), (2, .c (.v (.int .i64 (i : Int)))), (3, .c (.v (.int .i64 ((l.length : Int) - 1 - i))))])
    (fun i => [.app 5 1 (u8s (sw l i)) (some ⟨b, 0, none⟩) l.length cap]) (fun i => l.length - i) [] rfl
    (fun _ => rfl) (fun _ => rfl) (fun _ _ => okHB_eq rfl) ⟨0, by omega, ?_, ?_⟩ ?_
  · (repeat' (first | exact trivial | refine And.intro (by with_reducible rfl) ?_ | (with_reducible exact wkC_refl _) | (with_reducible exact wkCs_refl _) | refine And.intro ?_ ?_))
    all_goals first | rfl | exact av_int (by first | omega | (rw [wrap_i64 (by omega)]; omega))
  · rw [sw_zero]
    exact wkH_refl _
  intro i hi
  (first | refine wX ?_ | exact wZ)
  refine brd_dec (fun h => ?_) (fun h => ?_)
  · have hlen := sw_len l i
    have g1 := sw_get l i i (by omega)
    have g2 := sw_get l i (l.length - 1 - i) (by omega)
    rw [if_neg (by omega)] at g1 g2
    have hst := sw_step l i (by omega)
    (first | refine wX ?_ | exact wZ)
    refine DrawN.plan [0, 1, 2, 3, 4, 5, 8, 9] [(6, 1), (7, 1), (10, 1), (11, 1), (12, 1)] [(13, 0), (14, 0), (15, 0)] (by decide +kernel) ?_
    (first | refine wX ?_ | exact wZ)
    refine Nd.mk ⟨rfl, by omega, by omega⟩ ?_
    (first | refine wX ?_ | exact wZ)
    refine LdN.one (.int .u8 ((l.getD (l.length - 1 - i) 0).toNat : Int)) rfl (fun w hw => hw.1) (by
      show (u8s (sw l i))[((l.length : Int) - 1 - i).toNat * 1]? = _
      rw [Nat.mul_one, show ((l.length : Int) - 1 - i).toNat = l.length - 1 - i by omega]
      exact u8s_at g2) ?_
    (first | refine wX ?_ | exact wZ)
    refine Nd.mk ⟨rfl, by omega, by omega⟩ ?_
    (first | refine wX ?_ | exact wZ)
    refine LdN.one (.int .u8 ((l.getD i 0).toNat : Int)) rfl (fun w hw => hw.1) (by
      show (u8s (sw l i))[(i : Int).toNat * 1]? = _
      rw [Nat.mul_one, Int.toNat_natCast]
      exact u8s_at g1) ?_
    (first | refine wX ?_ | exact wZ)
    refine Nd.mk ⟨rfl, by omega, by omega⟩ ?_
    (first | refine wX ?_ | exact wZ)
    refine EffW.appTo (i := 0) (q := i) (ys := [_]) (u8s ((sw l i).set i (l.getD (l.length - 1 - i) 0))) 1 rfl (ptr_lit rfl (by show (i : Int).toNat * 1 = i; omega)) rfl rfl rfl rfl rfl (by show i + 1 ≤ l.length * 1; omega) (u8s_put _ (by omega)) rfl ?_
    (first | refine wX ?_ | exact wZ)
    refine Nd.mk ⟨rfl, by omega, by omega⟩ ?_
    (first | refine wX ?_ | exact wZ)
    refine EffW.appTo (i := 0) (q := l.length - 1 - i) (ys := [_]) (u8s (sw l (i + 1))) 1 rfl (ptr_lit rfl (by show ((l.length : Int) - 1 - i).toNat * 1 = l.length - 1 - i; omega)) rfl rfl rfl rfl rfl (by show l.length - 1 - i + 1 ≤ l.length * 1; omega) (by rw [← hst]; exact u8s_put _ (by simp; omega)) rfl ?_
    (first | refine wX ?_ | exact wZ)
    refine ⟨i + 1, by omega, by omega, ?_, by (repeat' (first | exact trivial | exact wkE_refl _ | refine And.intro ?_ ?_))⟩
    (repeat' (first | exact trivial | refine And.intro (by with_reducible rfl) ?_ | (with_reducible exact wkC_refl _) | (with_reducible exact wkCs_refl _) | refine And.intro ?_ ?_))
    all_goals exact av_int (by omega)
  · rw [sw_end l i (by omega)]
    (first | refine wX ?_ | exact wZ)
    have e : own l.reverse b cap = .app 5 1 (u8s l.reverse) (some ⟨b, 0, none⟩) l.length cap := by unfold own; rw [List.length_reverse]
    rw [e]
    exact ⟨(), trivial, rfl, wkH_refl _⟩
end Go.Proofs.YtjkchonpnocffaaGreatDoor

/-
  Contract: groups of 7 bits (program).
-/
namespace Go.Proofs.YtjkchonpnocffaaGreatDoor
open Go.AX Go.RowKit Go.Pack
set_option maxRecDepth 20000

/-- Bytes in memory that nobody writes. -/
def BytesR (l : List UInt8) (v : Value) (G : World → Prop) : Prop := ∃ ob cap, v = .slice (at0 ob) l.length cap ∧ (ob = none → l = []) ∧ ∀ w, G w → SlAt (at0 ob) l.length (u8s l) w
theorem bytesR_own (l : List UInt8) (b cap : Nat) : BytesR l (.slice (some ⟨b, 0, none⟩) l.length cap) (SlAt (some ⟨b, 0, none⟩) (l.length * 1) (u8s l)) :=
  ⟨some b, cap, rfl, fun h => (by cases h), fun w hw => (by rw [Nat.mul_one] at hw; exact hw)⟩
theorem sevR_zero : ∀ f, sevR f 0 = []
  | 0 => rfl
  | f + 1 => by unfold sevR; rw [if_pos rfl]
theorem ofNat_int {n : Nat} (h : n < 256) : ((UInt8.ofNat n).toNat : Int) = n := by
  rw [UInt8.toNat_ofNat', Nat.mod_eq_of_lt (by simpa using h)]
theorem sevens_c (n : Nat) (hn : n < 9223372036854775808) : SpecF Tryz.prog 72 [.int .i64 (n : Int)] (fun _ => True) (BytesR (sevens n)) := by
  refine specF hm Tryz.func72 (by kernel_rfl) rfl rfl ?_
  have e1 : (n : Int).tdiv 128 = ((n / 128 : Nat) : Int) := (Int.ofNat_tdiv n 128).symm
  have e2 : (n : Int).tmod 128 = ((n % 128 : Nat) : Int) := (Int.ofNat_tmod n 128).symm
  (conv => whnf)
  refine RwN.known [_] rfl fun b0 => ?_
  (first | refine wX ?_ | exact wZ)
  refine LoopN.intro (List UInt8 × Nat × Nat × Nat × Nat) (fun ⟨l, m, f, _, _⟩ => l ++ sevR f m = (sevens n).reverse ∧ m < 128 ^ f ∧ l.length + f ≤ 11 ∧ m < 9223372036854775808)
    (fun ⟨l, m, _, b, cap⟩ => mkS Tryz.f72.ntmps 0 [(0, .c (.v (.int .i64 (m : Int)))), (3, .c (.v (.slice (some ⟨b, 0, none⟩) l.length cap)))])
    (fun ⟨l, _, _, b, cap⟩ => [.fact fun _ => True, own l b cap]) (fun ⟨_, _, f, _, _⟩ => f) [] rfl
    (fun _ => rfl) (fun _ => rfl) (fun _ _ => okHB_eq rfl) ⟨([UInt8.ofNat (n % 128)], n / 128, 10, b0, 1), ⟨?_, ?_, ?_, ?_⟩, ?_, ?_⟩ ?_
  · simp [sevens]
  · have : n / 128 < 128 ^ 9 := by omega
    omega
  · simp
  · omega
  · (repeat' (first | exact trivial | refine And.intro (by with_reducible rfl) ?_ | (with_reducible exact wkC_refl _) | (with_reducible exact wkCs_refl _) | refine And.intro ?_ ?_))
    all_goals first | rfl | exact av_int (by rw [e1, wrap_i64 (by omega)])
  · exact ⟨wkE_refl _, .inl ⟨rfl, rfl, by rw [e2, wrap_u8 (by omega)]; show [_] = [Value.int .u8 ((UInt8.ofNat (n % 128)).toNat : Int)]; rw [ofNat_int (by omega)], rfl, rfl, rfl⟩, wkH_nil _⟩
  rintro ⟨l, m, f, b, cap⟩ ⟨hl, hm1, hlf, hm2⟩
  (first | refine wX ?_ | exact wZ)
  refine brd_dec (fun h => ?_) (fun h => ?_)
  · cases f with
    | zero => omega
    | succ f =>
      have e3 : (m : Int).tdiv 128 = ((m / 128 : Nat) : Int) := (Int.ofNat_tdiv m 128).symm
      have e4 : (m : Int).tmod 128 = ((m % 128 : Nat) : Int) := (Int.ofNat_tmod m 128).symm
      have hs : sevR (f + 1) m = UInt8.ofNat (m % 128 + 128) :: sevR f (m / 128) := by
        conv => lhs; unfold sevR
        rw [if_neg (by omega)]
      rw [hs] at hl
      (first | refine wX ?_ | exact wZ)
      refine Nd.mk ⟨Nat.le_refl 1, rfl, rfl⟩ ?_
      (conv => whnf)
      refine AppN.grow 1 (u8s l) [_] rfl rfl ⟨Nat.le_refl 1, ⟨by show (l.length + 1) * 1 ≤ _; omega, by omega⟩, by show 1 ≠ 0; omega⟩ fun b' cap' h1 h2 => ?_
      (first | refine wX ?_ | exact wZ)
      refine ⟨(l ++ [UInt8.ofNat (m % 128 + 128)], m / 128, f, b', cap'), ⟨by rw [← hl]; simp, by rw [Nat.pow_succ, Nat.mul_comm] at hm1; exact Nat.div_lt_of_lt_mul hm1, by simp; omega, by omega⟩, by show f < f + 1; omega, ?_, ?_⟩
      · (repeat' (first | exact trivial | refine And.intro (by with_reducible rfl) ?_ | (with_reducible exact wkC_refl _) | (with_reducible exact wkCs_refl _) | refine And.intro ?_ ?_))
        all_goals first | (simp; done) | exact av_int (by rw [e3, wrap_i64 (by omega)])
      · exact ⟨wkE_refl _, .inl ⟨rfl, rfl, by rw [e4, wrap_i64 (by omega), wrap_u8 (by omega)]; simp [u8s]; omega, rfl, by simp, rfl⟩, wkH_nil _⟩
  · have hm0 : m = 0 := by omega
    subst hm0
    rw [sevR_zero, List.append_nil] at hl
    (first | refine wX ?_ | exact wZ)
    refine callG (Reverse_c l b cap (by omega)) [1] rfl ⟨rfl, trivial⟩ rfl fun _ _ => ?_
    (first | refine wX ?_ | exact wZ)
    have hr : sevens n = l.reverse := by rw [hl, List.reverse_reverse]
    rw [hr, show Value.slice (some ⟨b, 0, none⟩) l.length cap = Value.slice (some ⟨b, 0, none⟩) l.reverse.length cap by rw [List.length_reverse]]
    exact fin_p (SlAt (some ⟨b, 0, none⟩) (l.reverse.length * 1) (u8s l.reverse)) (bytesR_own _ _ _) (fun w hw => hw.2.1)
end Go.Proofs.YtjkchonpnocffaaGreatDoor

/-
  Contract: a character as utf-8 (utf8.AppendRune).
-/
namespace Go.Proofs.YtjkchonpnocffaaGreatDoor
open Go.AX Go.RowKit Go.Pack
set_option maxRecDepth 20000

theorem bytesR_cells {l : List UInt8} {b cap k : Nat} {xs : List Value} (hk : k = l.length) (hx : xs = u8s l) : BytesR l (.slice (some ⟨b, 0, none⟩) k cap) (SlAt (some ⟨b, 0, none⟩) (k * 1) xs) := by
  subst hk hx
  exact bytesR_own l b cap
theorem w8 (m : Nat) : IntKind.u8.wrap (m : Int) = ((m % 256 : Nat) : Int) := by
  show ((m : Int)) % 256 = _
  omega
theorem shr6 (n : Nat) : (n : Int).fdiv (2 ^ min (Int.toNat 6) IntKind.i32.bits) = ((n / 64 : Nat) : Int) := by
  show (n : Int).fdiv 64 = _
  rw [Int.fdiv_eq_ediv_of_nonneg _ (by omega)]
  rfl
theorem shr12 (n : Nat) : (n : Int).fdiv (2 ^ min (Int.toNat 12) IntKind.i32.bits) = ((n / 4096 : Nat) : Int) := by
  show (n : Int).fdiv 4096 = _
  rw [Int.fdiv_eq_ediv_of_nonneg _ (by omega)]
  rfl
theorem shr18 (n : Nat) : (n : Int).fdiv (2 ^ min (Int.toNat 18) IntKind.i32.bits) = ((n / 262144 : Nat) : Int) := by
  show (n : Int).fdiv 262144 = _
  rw [Int.fdiv_eq_ediv_of_nonneg _ (by omega)]
  rfl
theorem tailF : ∀ y : Fin 256, IntKind.u8.wrap ((BitVec.ofInt 8 128 ||| BitVec.ofInt 8 (IntKind.u8.wrap ((BitVec.ofInt 8 (y.val : Int) &&& BitVec.ofInt 8 63).toNat : Int))).toNat : Int) = ((128 + y.val % 64 : Nat) : Int) := by decide +kernel
theorem tailB (m : Nat) : IntKind.u8.wrap ((BitVec.ofInt IntKind.u8.bits 128 ||| BitVec.ofInt IntKind.u8.bits (IntKind.u8.wrap ((BitVec.ofInt IntKind.u8.bits (IntKind.u8.wrap (m : Int)) &&& BitVec.ofInt IntKind.u8.bits 63).toNat : Int))).toNat : Int) = ((128 + m % 64 : Nat) : Int) := by
  rw [w8]
  have := tailF ⟨m % 256, by omega⟩
  rw [show m % 64 = m % 256 % 64 by omega]
  exact this
theorem leadF : ∀ y : Fin 32, IntKind.u8.wrap ((BitVec.ofInt 8 192 ||| BitVec.ofInt 8 (IntKind.u8.wrap (y.val : Int))).toNat : Int) = ((192 + y.val : Nat) : Int) := by decide +kernel
theorem lead2 {m : Nat} (h : m < 32) : IntKind.u8.wrap ((BitVec.ofInt IntKind.u8.bits 192 ||| BitVec.ofInt IntKind.u8.bits (IntKind.u8.wrap (m : Int))).toNat : Int) = ((192 + m : Nat) : Int) := leadF ⟨m, h⟩
theorem leadG : ∀ y : Fin 16, IntKind.u8.wrap ((BitVec.ofInt 8 224 ||| BitVec.ofInt 8 (IntKind.u8.wrap (y.val : Int))).toNat : Int) = ((224 + y.val : Nat) : Int) := by decide +kernel
theorem lead3 {m : Nat} (h : m < 16) : IntKind.u8.wrap ((BitVec.ofInt IntKind.u8.bits 224 ||| BitVec.ofInt IntKind.u8.bits (IntKind.u8.wrap (m : Int))).toNat : Int) = ((224 + m : Nat) : Int) := leadG ⟨m, h⟩
theorem leadH : ∀ y : Fin 8, IntKind.u8.wrap ((BitVec.ofInt 8 240 ||| BitVec.ofInt 8 (IntKind.u8.wrap (y.val : Int))).toNat : Int) = ((240 + y.val : Nat) : Int) := by decide +kernel
theorem lead4 {m : Nat} (h : m < 8) : IntKind.u8.wrap ((BitVec.ofInt IntKind.u8.bits 240 ||| BitVec.ofInt IntKind.u8.bits (IntKind.u8.wrap (m : Int))).toNat : Int) = ((240 + m : Nat) : Int) := leadH ⟨m, h⟩
theorem byteV {n : Nat} (h : n < 256) : Value.int .u8 ((n : Nat) : Int) = .int .u8 ((UInt8.ofNat n).toNat : Int) := by rw [ofNat_int h]
theorem AppendNon_c (z : Int) (n : Nat) (hzn : z = n) (h1 : 128 ≤ n) (h2 : rune (n : Int) = true) : SpecF Tryz.prog 93 [.slice none 0 0, .int .i32 z] (fun _ => True) (BytesR (utf n)) := by
  have hr : n ≤ 1114111 ∧ (n < 55296 ∨ 57343 < n) := by
    unfold rune at h2
    simp only [Bool.and_eq_true, Bool.or_eq_true, decide_eq_true_eq] at h2
    omega
  have hw : IntKind.u32.wrap z = z := by
    show z % 4294967296 = z
    omega
  refine specF hm Tryz.func93 (by kernel_rfl) rfl rfl ?_
  (first | refine wX ?_ | exact wZ)
  rw [hw]
  refine brd_dec (fun h3 => ?_) (fun h3 => ?_)
  · have hu : utf n = [UInt8.ofNat (192 + n / 64), UInt8.ofNat (128 + n % 64)] := by unfold utf; rw [if_neg (by omega), if_pos (by omega)]
    (first | refine wX ?_ | exact wZ)
    refine Nd.mk ⟨Nat.le_refl 2, rfl, rfl⟩ ?_
    (conv => whnf)
    refine AppN.new [_, _] ⟨rfl, rfl, rfl⟩ rfl ⟨by omega, ⟨by show (0 + 2) * 1 ≤ _; omega, by omega⟩, by show 1 ≠ 0; omega⟩ fun b cap' _ _ => ?_
    (first | refine wX ?_ | exact wZ)
    rw [hu]
    refine fin_p _ (bytesR_cells rfl ?_) (fun w hw => hw.2.1)
    rw [hzn, shr6, lead2 (by omega), tailB, ← ofNat_int (show 192 + n / 64 < 256 by omega), ← ofNat_int (show 128 + n % 64 < 256 by omega)]
    rfl
  have h16 : n < 65536 → utf n = [UInt8.ofNat (224 + n / 4096), UInt8.ofNat (128 + n / 64 % 64), UInt8.ofNat (128 + n % 64)] := fun h => by unfold utf; rw [if_neg (by omega), if_neg (by omega), if_pos h]
  (first | refine wX ?_ | exact wZ)
  refine brd_dec (fun h4 => ?_) (fun h4 => ?_)
  ·
    (first | refine wX ?_ | exact wZ)
    refine Nd.mk ⟨Nat.le_refl 3, rfl, rfl⟩ ?_
    (conv => whnf)
    refine AppN.new [_, _, _] ⟨rfl, rfl, rfl⟩ rfl ⟨by omega, ⟨by show (0 + 3) * 1 ≤ _; omega, by omega⟩, by show 1 ≠ 0; omega⟩ fun b cap' _ _ => ?_
    (first | refine wX ?_ | exact wZ)
    rw [h16 (by omega)]
    refine fin_p _ (bytesR_cells rfl ?_) (fun w hw => hw.2.1)
    rw [hzn, shr12, shr6, lead3 (by omega), tailB, tailB, ← ofNat_int (show 224 + n / 4096 < 256 by omega), ← ofNat_int (show 128 + n / 64 % 64 < 256 by omega), ← ofNat_int (show 128 + n % 64 < 256 by omega)]
    rfl
  · (first | refine wX ?_ | exact wZ)
    refine brd_dec (fun h5 => ?_) (fun h5 => absurd h5 (by omega))
    (first | refine wX ?_ | exact wZ)
    refine brd_dec (fun h6 => ?_) (fun h6 => ?_)
    ·
      (first | refine wX ?_ | exact wZ)
      refine Nd.mk ⟨Nat.le_refl 3, rfl, rfl⟩ ?_
      (conv => whnf)
      refine AppN.new [_, _, _] ⟨rfl, rfl, rfl⟩ rfl ⟨by omega, ⟨by show (0 + 3) * 1 ≤ _; omega, by omega⟩, by show 1 ≠ 0; omega⟩ fun b cap' _ _ => ?_
      (first | refine wX ?_ | exact wZ)
      rw [h16 (by omega)]
      refine fin_p _ (bytesR_cells rfl ?_) (fun w hw => hw.2.1)
      rw [hzn, shr12, shr6, lead3 (by omega), tailB, tailB, ← ofNat_int (show 224 + n / 4096 < 256 by omega), ← ofNat_int (show 128 + n / 64 % 64 < 256 by omega), ← ofNat_int (show 128 + n % 64 < 256 by omega)]
      rfl
    · have hu : utf n = [UInt8.ofNat (240 + n / 262144), UInt8.ofNat (128 + n / 4096 % 64), UInt8.ofNat (128 + n / 64 % 64), UInt8.ofNat (128 + n % 64)] := by unfold utf; rw [if_neg (by omega), if_neg (by omega), if_neg (by omega)]
      (first | refine wX ?_ | exact wZ)
      refine brd_dec (fun h7 => ?_) (fun h7 => absurd h7 (by omega))
      (first | refine wX ?_ | exact wZ)
      refine brd_dec (fun h8 => ?_) (fun h8 => absurd h8 (by omega))
      (first | refine wX ?_ | exact wZ)
      refine Nd.mk ⟨Nat.le_refl 4, rfl, rfl⟩ ?_
      (conv => whnf)
      refine AppN.new [_, _, _, _] ⟨rfl, rfl, rfl⟩ rfl ⟨by omega, ⟨by show (0 + 4) * 1 ≤ _; omega, by omega⟩, by show 1 ≠ 0; omega⟩ fun b cap' _ _ => ?_
      (first | refine wX ?_ | exact wZ)
      rw [hu]
      refine fin_p _ (bytesR_cells rfl ?_) (fun w hw => hw.2.1)
      rw [hzn, shr18, shr12, shr6, lead4 (by omega), tailB, tailB, tailB, ← ofNat_int (show 240 + n / 262144 < 256 by omega), ← ofNat_int (show 128 + n / 4096 % 64 < 256 by omega), ← ofNat_int (show 128 + n / 64 % 64 < 256 by omega), ← ofNat_int (show 128 + n % 64 < 256 by omega)]
      rfl
theorem AppendRune_c (z : Int) (n : Nat) (hzn : z = n) (h2 : rune (n : Int) = true) : SpecF Tryz.prog 74 [.slice none 0 0, .int .i32 z] (fun _ => True) (BytesR (utf n)) := by
  have hr : n ≤ 1114111 ∧ (n < 55296 ∨ 57343 < n) := by
    unfold rune at h2
    simp only [Bool.and_eq_true, Bool.or_eq_true, decide_eq_true_eq] at h2
    omega
  have hw : IntKind.u32.wrap z = z := by
    show z % 4294967296 = z
    omega
  refine specF hm Tryz.func74 (by kernel_rfl) rfl rfl ?_
  (first | refine wX ?_ | exact wZ)
  rw [hw]
  refine brd_dec (fun h3 => ?_) (fun h3 => ?_)
  · have hu : utf n = [UInt8.ofNat n] := by unfold utf; rw [if_pos (by omega)]
    (first | refine wX ?_ | exact wZ)
    refine Nd.mk ⟨Nat.le_refl 1, rfl, rfl⟩ ?_
    (conv => whnf)
    refine AppN.new [_] ⟨rfl, rfl, rfl⟩ rfl ⟨by omega, ⟨by show (0 + 1) * 1 ≤ _; omega, by omega⟩, by show 1 ≠ 0; omega⟩ fun b cap' _ _ => ?_
    (first | refine wX ?_ | exact wZ)
    rw [hu]
    refine fin_p _ (bytesR_cells rfl ?_) (fun w hw => hw.2.1)
    rw [hzn, w8, ← ofNat_int (show n % 256 < 256 by omega), Nat.mod_eq_of_lt (show n < 256 by omega)]
    rfl
  · (first | refine wX ?_ | exact wZ)
    refine SpecF.call (AppendNon_c z n hzn (by omega) h2) (fun w _ => trivial) fun v G hR => ?_
    obtain ⟨ob, cap, rfl, h5, h6⟩ := hR
    (first | refine wX ?_ | exact wZ)
    exact fin_p G ⟨ob, cap, rfl, h5, h6⟩ (fun w hw => hw.2.1)
end Go.Proofs.YtjkchonpnocffaaGreatDoor
