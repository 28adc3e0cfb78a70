/- What lang.Read computes, as plain Lean functions on lists of bytes: words of a line, names, whole numbers, expressions, lines, texts. No program in sight.
Conditions: none; these are definitions. -/
namespace Go.Proofs.YtdkhedefcmjjgaaGreatDoor.Sp

abbrev Bs := List UInt8

/-- How a function takes its arguments. -/
structure FnS where
  takes : Int
  whole : Bool
  number : Bool

def fns : List (Bs × FnS) := [
  ([114, 101, 108, 117], ⟨1, false, false⟩),
  ([97, 98, 115], ⟨1, false, false⟩),
  ([101, 120, 112], ⟨1, false, false⟩),
  ([108, 111, 103], ⟨1, false, false⟩),
  ([116, 97, 110, 104], ⟨1, false, false⟩),
  ([115, 105, 103, 109, 111, 105, 100], ⟨1, false, false⟩),
  ([115, 111, 102, 116, 112, 108, 117, 115], ⟨1, false, false⟩),
  ([115, 113, 114, 116], ⟨1, false, false⟩),
  ([116, 117, 114, 110], ⟨1, false, false⟩),
  ([115, 117, 109], ⟨1, false, false⟩),
  ([115, 117, 109, 114, 111, 119, 115], ⟨1, false, false⟩),
  ([115, 117, 109, 99, 111, 108, 115], ⟨1, false, false⟩),
  ([109, 101, 97, 110], ⟨1, false, false⟩),
  ([103, 114, 101, 97, 116, 101, 115, 116], ⟨1, false, false⟩),
  ([115, 111, 102, 116, 109, 97, 120], ⟨1, false, false⟩),
  ([108, 111, 103, 115, 111, 102, 116], ⟨1, false, false⟩),
  ([119, 105, 100, 101], ⟨1, false, false⟩),
  ([110, 97, 114, 114, 111, 119], ⟨1, false, false⟩),
  ([102, 111, 114, 109], ⟨3, true, false⟩),
  ([99, 117, 116, 99, 111, 108, 115], ⟨3, true, false⟩),
  ([99, 117, 116, 114, 111, 119, 115], ⟨3, true, false⟩),
  ([119, 105, 110, 100, 111, 119], ⟨3, true, false⟩),
  ([103, 108, 117, 101, 99, 111, 108, 115], ⟨(-1), false, false⟩),
  ([103, 108, 117, 101, 114, 111, 119, 115], ⟨(-1), false, false⟩),
  ([115, 113, 117, 97, 114, 101, 100], ⟨2, false, false⟩),
  ([97, 98, 115, 111, 108, 117, 116, 101], ⟨2, false, false⟩),
  ([99, 114, 111, 115, 115], ⟨2, false, false⟩),
  ([108, 111, 103, 105, 115, 116, 105, 99], ⟨2, false, false⟩),
  ([104, 105, 110, 103, 101], ⟨2, false, false⟩),
  ([100, 101, 110, 115, 101], ⟨3, false, false⟩),
  ([104, 117, 98, 101, 114], ⟨3, false, true⟩)]
def known (s : Bs) : Option FnS := (fns.find? fun p => p.1 == s).map (·.2)
def reservedWords : List Bs := [[109, 111, 100, 101, 108], [119, 105, 100, 116, 104], [105, 110, 112, 117, 116], [108, 97, 98, 101, 108], [112, 97, 114, 97, 109], [108, 101, 116], [111, 117, 116], [108, 111, 115, 115], [122, 101, 114, 111], [99, 111, 110, 115, 116], [117, 110, 105, 102, 111, 114, 109], [103, 108, 111, 114, 111, 116], [104, 101], [110, 111, 114, 109, 97, 108], [110, 101, 103]]
def reserved (s : Bs) : Bool := reservedWords.contains s

def small (c : UInt8) : Bool := 97 ≤ c && c ≤ 122
def ten (c : UInt8) : Bool := 48 ≤ c && c ≤ 57
def upper (c : UInt8) : Bool := 65 ≤ c && c ≤ 90
def nameBytes : Bs → Bool
  | [] => true
  | c :: r => small c && r.all fun d => small d || ten d
def isName (s : Bs) : Bool := decide (s.length ≤ 16) && nameBytes s && (!s.isEmpty) && (known s).isNone && !reserved s

/-- A word of a line: its kind, its bytes. -/
structure Tok where
  kind : UInt8
  text : Bs

def isSign (c : UInt8) : Bool := [43, 45, 42, 47, 64, 40, 41, 44, 61].contains c
def wordByte (c : UInt8) : Bool := small c || ten c || upper c || c == 46 || c == 95
/-- Does a minus behind this word belong to it? -/
def expo (cur : Bs) : Bool :=
  match cur with
  | [] => false
  | a :: r => cur.getLast? == some 101 && ten a && (match r with | [] => true | d :: _ => d != 120)
def close (cur : Bs) (kind : UInt8) (out : List Tok) : List Tok := if cur.isEmpty then out else out ++ [⟨kind, cur⟩]
/-- The words of a line; none: a byte that no word has. -/
def scanGo : Bs → Bs → UInt8 → List Tok → Option (List Tok)
  | [], cur, kind, out => some (close cur kind out)
  | c :: l, cur, kind, out =>
    if wordByte c then (if cur.isEmpty then scanGo l [c] (if small c then 110 else 100) out else scanGo l (cur ++ [c]) kind out)
    else if c == 45 && expo cur then scanGo l (cur ++ [c]) kind out
    else if c == 32 || c == 9 then scanGo l [] kind (close cur kind out)
    else if isSign c then scanGo l [] kind (close cur kind out ++ [⟨c, [c]⟩])
    else none
def scan (l : Bs) : Option (List Tok) := scanGo l [] 0 []

/-- An expression. -/
inductive Ex where
  | mk (kind bits : Int) (name : Bs) (args : List Ex)

/-- Where a reader stands: the words that are left, the first number's stop. -/
structure RS where
  ts : List Tok
  stop : Int

def next (k : UInt8) (r : RS) : Option (Bs × RS) :=
  match r.ts with
  | [] => none
  | t :: l => if k != 0 && t.kind != k then none else some (t.text, ⟨l, r.stop⟩)
def sign (signs : Bs) (r : RS) : Option (Bs × RS) :=
  match r.ts with
  | [] => none
  | t :: l => if signs.contains t.kind then some (t.text, ⟨l, r.stop⟩) else none
def name (r : RS) : Option (Bs × RS) :=
  match next 110 r with
  | none => none
  | some (s, r') => if isName s then some (s, r') else none

/-- What is told of texts of numbers: whole numbers (the number, is it right), numbers by a width, a pattern's class. -/
structure Nums where
  whole : Bs → Int × Bool
  number : Bs → Int → Int × Bool
  cls : Int → Int → Int
  neg : Int → Int

section
variable (m : Nums)
def wholeR (r : RS) : Option (Int × RS) :=
  match next 100 r with
  | none => none
  | some (s, r') => if (m.whole s).2 then some ((m.whole s).1, r') else none
def stopOf (c : Int) : Int := if c = 4 then 30 else if c = 3 then 31 else 0
def numberR (w : Int) (r : RS) : Option (Int × RS) :=
  match next 100 r with
  | none => none
  | some (s, r') =>
    if (m.number s w).2 then some ((m.number s w).1, ⟨r'.ts, if r'.stop = 0 then stopOf (m.cls (m.number s w).1 w) else r'.stop⟩)
    else none
def signedR (r : RS) : Option (Int × RS) :=
  match sign [45] r with
  | none => numberR m 64 r
  | some (_, r') => match numberR m 64 r' with
    | none => none
    | some (b, r'') => some (m.neg b, r'')

def call (name : Bs) (args : List Ex) : Ex := .mk 3 0 name args

def chainGo (signs : Bs) (part : RS → Option (Ex × RS)) : Nat → Ex → RS → Option (Ex × RS)
  | 0, _, _ => none
  | k + 1, x, r =>
    match sign signs r with
    | none => some (x, r)
    | some (s, r') => match part r' with
      | none => none
      | some (y, r'') => chainGo signs part k (call s [x, y]) r''
def chain (signs : Bs) (part : RS → Option (Ex × RS)) (r : RS) : Option (Ex × RS) :=
  match part r with
  | none => none
  | some (x, r') => chainGo signs part (r'.ts.length + 1) x r'

/-- The next argument of a function that has n of them. -/
def arg (w : Int) (expr : RS → Option (Ex × RS)) (f : FnS) (n : Nat) (r : RS) : Option (Ex × RS) :=
  if f.whole && decide (0 < n) then (match wholeR m r with | none => none | some (b, r') => some (.mk 4 b [] [], r'))
  else if f.number && decide (n = 2) then (match numberR m w r with | none => none | some (b, r') => some (.mk 1 b [] [], r'))
  else expr r
def argsGo (w : Int) (expr : RS → Option (Ex × RS)) (f : FnS) : Nat → List Ex → RS → Option (List Ex × RS)
  | 0, _, _ => none
  | k + 1, l, r =>
    match arg m w expr f l.length r with
    | none => none
    | some (y, r') => match sign [44] r' with
      | none => some (l ++ [y], r')
      | some (_, r'') => argsGo w expr f k (l ++ [y]) r''
def function (w : Int) (expr : RS → Option (Ex × RS)) (s : Bs) (f : FnS) (r : RS) : Option (Ex × RS) :=
  match next 40 r with
  | none => none
  | some (_, r1) => match argsGo m w expr f (r1.ts.length + 1) [] r1 with
    | none => none
    | some (l, r2) => match next 41 r2 with
      | none => none
      | some (_, r3) => if decide (0 ≤ f.takes) && decide ((l.length : Int) ≠ f.takes) then none else some (call s l, r3)
def exprOf (factor : RS → Option (Ex × RS)) (r : RS) : Option (Ex × RS) := chain [43, 45] (chain [42, 47, 64] factor) r
def factorStep (w : Int) (factor : RS → Option (Ex × RS)) (r : RS) : Option (Ex × RS) :=
  match sign [45] r with
  | some (_, r') => (match factor r' with | none => none | some (x, r'') => some (call [110, 101, 103] [x], r''))
  | none => match sign [40] r with
    | some (_, r') => (match exprOf factor r' with
      | none => none
      | some (x, r'') => match next 41 r'' with
        | none => none
        | some (_, r3) => some (x, r3))
    | none => match r.ts with
      | [] => none
      | t :: _ =>
        if t.kind = 100 then (match numberR m w r with | none => none | some (b, r') => some (.mk 1 b [] [], r'))
        else match known t.text with
          | some f => (match next 110 r with
            | none => none
            | some (s, r') => function m w (exprOf factor) s f r')
          | none => match name r with
            | none => none
            | some (s, r') => some (.mk 2 0 s [], r')
def factor (w : Int) : Nat → RS → Option (Ex × RS)
  | 0 => fun _ => none
  | n + 1 => factorStep m w (factor w n)
def expr (w : Int) (r : RS) : Option (Ex × RS) := exprOf (factor m w (r.ts.length + 1)) r

end

mutual
def deep : Ex → Int
  | .mk k _ _ args => if k = 3 then deepAll args 0 + 1 else deepAll args 0
def deepAll : List Ex → Int → Int
  | [], n => n
  | x :: l, n => deepAll l (max n (deep x))
end

/-- A line's declaration. -/
structure Dc where
  kind : Int
  line : Int
  name : Bs
  rows : Int
  cols : Int
  init : Int
  a : Int
  b : Int
  expr : Ex

def kindWords : List Bs := [[105, 110, 112, 117, 116], [108, 97, 98, 101, 108], [112, 97, 114, 97, 109], [108, 101, 116], [111, 117, 116], [108, 111, 115, 115]]
def kindOf (s : Bs) : Int := match kindWords.findIdx? (· == s) with | none => 0 | some i => (i : Int) + 1
def behind (kind last : Int) : Bool :=
  if kind = 1 then last == 0 else if kind = 2 then last == 1 else if kind = 6 then last == 5 else decide (1 ≤ last) && decide (last ≤ 4)

section
variable (m : Nums)
/-- HOW: Init, A, B. -/
def how (r : RS) : Option ((Int × Int × Int) × RS) :=
  match next 110 r with
  | none => none
  | some (s, r1) =>
    if s = [122, 101, 114, 111] then some ((0, 0, 0), r1)
    else if s = [99, 111, 110, 115, 116] then (match signedR m r1 with | none => none | some (a, r2) => some ((1, a, 0), r2))
    else if s = [117, 110, 105, 102, 111, 114, 109] then (match signedR m r1 with
      | none => none
      | some (a, r2) => match signedR m r2 with | none => none | some (b, r3) => some ((2, a, b), r3))
    else if s = [103, 108, 111, 114, 111, 116] then some ((3, 0, 0), r1)
    else if s = [104, 101] then some ((4, 0, 0), r1)
    else if s = [110, 111, 114, 109, 97, 108] then (match signedR m r1 with | none => none | some (a, r2) => some ((5, a, 0), r2))
    else none
def nil : Ex := .mk 0 0 [] []
/-- What stands behind a declaration's name. -/
def rest (w kind : Int) (s : Bs) (r : RS) : Option (Dc × RS) :=
  if kind = 1 ∨ kind = 2 ∨ kind = 3 then
    match wholeR m r with
    | none => none
    | some (rows, r1) => match wholeR m r1 with
      | none => none
      | some (cols, r2) =>
        if kind = 3 then (match how m r2 with | none => none | some ((i, a, b), r3) => some (⟨3, 0, s, rows, cols, i, a, b, nil⟩, r3))
        else some (⟨kind, 0, s, rows, cols, 0, 0, 0, nil⟩, r2)
  else if kind = 4 then
    match next 61 r with
    | none => none
    | some (_, r1) => match expr m w r1 with | none => none | some (x, r2) => some (⟨4, 0, s, 0, 0, 0, 0, 0, x⟩, r2)
  else some (⟨kind, 0, s, 0, 0, 0, 0, 0, nil⟩, r)
/-- A line that declares: what it declares, or its error. -/
def decl (w last : Int) (r : RS) : Except Int (Dc × RS) :=
  match next 110 r with
  | none => .error 70
  | some (s0, r1) =>
    if kindOf s0 = 0 ∨ behind (kindOf s0) last = false then .error 70
    else match name r1 with
      | none => .error 70
      | some (s, r2) => match rest m w (kindOf s0) s r2 with
        | none => .error 70
        | some (d, r3) =>
          if r3.ts ≠ [] then .error 70
          else if 64 < deep d.expr then .error 2
          else if r3.stop ≠ 0 then .error r3.stop
          else .ok (d, r3)

/-- A text on its way. -/
structure St where
  name : Bs
  width : Int
  decls : List Dc
  seen : Int
  last : Int

def blank (c : UInt8) : Bool := c == 32 || c == 9
/-- A line without what is blank ahead of it. -/
def trimL (l : Bs) : Bs := l.dropWhile blank
/-- Does a line mean nothing? -/
def void (l : Bs) : Bool := match trimL l with | [] => true | c :: _ => c == 35

/-- A line's words, read. -/
def lineToks (s : St) (ts : List Tok) (n : Int) : Except Int St :=
  if s.seen + 1 = 1 then
    match next 110 ⟨ts, 0⟩ with
    | none => .error 70
    | some (x, r1) => if x ≠ [109, 111, 100, 101, 108] then .error 70 else match name r1 with
      | none => .error 70
      | some (y, r2) => if r2.ts ≠ [] then .error 70 else .ok { s with seen := s.seen + 1, name := y }
  else if s.seen + 1 = 2 then
    match next 110 ⟨ts, 0⟩ with
    | none => .error 70
    | some (x, r1) => if x ≠ [119, 105, 100, 116, 104] then .error 70 else match next 100 r1 with
      | none => .error 70
      | some (y, r2) =>
        if (m.whole y).1 ≠ 32 ∧ (m.whole y).1 ≠ 64 then .error 70
        else if r2.ts ≠ [] then .error 70 else .ok { s with seen := s.seen + 1, width := (m.whole y).1 }
  else match decl m s.width s.last ⟨ts, 0⟩ with
    | .error e => .error e
    | .ok (d, _) => .ok { s with seen := s.seen + 1, last := d.kind, decls := s.decls ++ [{ d with line := n }] }
def line (s : St) (l : Bs) (n : Int) : Except Int St :=
  if void l then .ok s else match scan l with
    | none => .error 70
    | some ts => lineToks m s ts n
def lines : St → List Bs → Nat → Except (Int × Int) St
  | s, [], _ => .ok s
  | s, l :: r, i => match line m s l ((i : Int) + 1) with
    | .error e => .error (e, (i : Int) + 1)
    | .ok s' => lines s' r (i + 1)

/-- A text's lines: what stands between bytes 10; an empty last one is none. -/
def splitGo : Bs → Bs → List Bs
  | [], cur => [cur]
  | c :: l, cur => if c = 10 then cur :: splitGo l [] else splitGo l (cur ++ [c])
def textLines (t : Bs) : List Bs :=
  let l := splitGo t []
  if l.getLast? = some [] then l.dropLast else l

structure Md where
  name : Bs
  width : Int
  decls : List Dc
def noMd : Md := ⟨[], 0, []⟩
def read (t : Bs) : Md × Int × Int :=
  if 65536 < t.length then (noMd, 0, 2)
  else match lines m ⟨[], 0, [], 0, 0⟩ (textLines t) 0 with
    | .error (e, n) => (noMd, n, e)
    | .ok s => if s.last < 5 then (noMd, ((textLines t).length : Int) + 1, 70) else (⟨s.name, s.width, s.decls⟩, 0, 0)
end
end Go.Proofs.YtdkhedefcmjjgaaGreatDoor.Sp
