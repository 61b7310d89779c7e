/-
  Plain Lean: how a template is read (no program in sight).
-/
namespace Go.Erb

abbrev B := List UInt8
structure Part where
  kind : Int
  line : Int
  text : B
deriving DecidableEq, Repr

/-- The line behind a text, from 1. -/
def ln (p : B) : Int := 1 + (p.count 10 : Nat)
/-- Is behind a text the beginning of a line? -/
def bol (p : B) : Bool := match p.getLast? with | none => true | some c => c == 10
def blank (c : UInt8) : Bool := c == 32 || c == 9
/-- The blanks at the end taken away. -/
def trimR (t : B) : B := (t.reverse.dropWhile blank).reverse
/-- The text so far, its blanks taken away if they reach back to the beginning of a line; fp: what stood ahead of it. -/
def trim (t fp : B) : B := if (trimR t).isEmpty && bol fp || (trimR t).getLast? == some 10 then trimR t else t
/-- The text so far becomes a part. -/
def close (t fp : B) (out : List Part) : List Part := if t.isEmpty then out else out ++ [⟨0, ln fp, t⟩]
/-- What begins the text so far, when something is put behind it. -/
def fpOf (t fp pre : B) : B := if t.isEmpty then pre else fp

/-- The inside of a tag, to its end. -/
def tg : Nat → B → B → B → Option (B × B × B)
  | 0, _, _, _ => none
  | _ + 1, _, [], _ => none
  | f + 1, pre, c :: r, acc =>
    if [37, 37, 62].isPrefixOf (c :: r) then tg f (pre ++ (c :: r).take 3) ((c :: r).drop 3) (acc ++ [37, 62])
    else if [45, 37, 62].isPrefixOf (c :: r) then
      if [10].isPrefixOf ((c :: r).drop 3) then some (pre ++ (c :: r).take 4, (c :: r).drop 4, acc) else some (pre ++ (c :: r).take 3, (c :: r).drop 3, acc)
    else if [37, 62].isPrefixOf (c :: r) then some (pre ++ (c :: r).take 2, (c :: r).drop 2, acc)
    else tg f (pre ++ [c]) r (acc ++ [c])

/-- What stands behind '<%': the kind, are blanks taken away, how many bytes more. -/
def opn (r : B) : Int × Bool × Nat :=
  match r.head? with
  | none => (1, false, 0)
  | some c => if c == 45 then (1, true, 1) else if c == 61 then (2, false, 1) else if c == 35 then (3, false, 1) else (1, false, 0)

/-- The rest of a template. -/
def rd (lines : Bool) : Nat → B → B → B → B → List Part → Except Int (List Part)
  | 0, _, _, _, _, _ => .error 0
  | _ + 1, _, [], t, fp, out => .ok (close t fp out)
  | f + 1, pre, c :: r, t, fp, out =>
    if lines && bol pre && [37, 37].isPrefixOf (c :: r) then rd lines f (pre ++ (c :: r).take 2) ((c :: r).drop 2) (t ++ [37]) (fpOf t fp pre) out
    else if lines && bol pre && c == 37 then
      rd lines f (pre ++ (c :: r).take (1 + (r.takeWhile (· != 10)).length + 1)) ((c :: r).drop (1 + (r.takeWhile (· != 10)).length + 1)) [] fp (close t fp out ++ [⟨1, ln pre, r.takeWhile (· != 10)⟩])
    else if [60, 37, 37].isPrefixOf (c :: r) then rd lines f (pre ++ (c :: r).take 3) ((c :: r).drop 3) (t ++ [60, 37]) (fpOf t fp pre) out
    else if [60, 37].isPrefixOf (c :: r) then
      match tg ((c :: r).length + 1) (pre ++ (c :: r).take (2 + (opn ((c :: r).drop 2)).2.2)) ((c :: r).drop (2 + (opn ((c :: r).drop 2)).2.2)) [] with
      | none => .error (ln pre)
      | some (pre', r', code) => rd lines f pre' r' [] fp (close (if (opn ((c :: r).drop 2)).2.1 then trim t fp else t) fp out ++ [⟨(opn ((c :: r).drop 2)).1, ln pre, code⟩])
    else rd lines f (pre ++ [c]) r (t ++ [c]) (fpOf t fp pre) out

def parts (s : B) (lines : Bool) : List Part × Int × Int :=
  if s.length > 50000 then ([], 0, 2)
  else match rd lines (s.length + 1) [] s [] [] [] with
    | .ok l => (l, 0, 0)
    | .error n => ([], n, 14)

example : parts [97, 60, 37, 61, 32, 120, 32, 37, 62, 98] false = ([⟨0, 1, [97]⟩, ⟨2, 1, [32, 120, 32]⟩, ⟨0, 1, [98]⟩], 0, 0) := by decide
end Go.Erb
