/- What lang.Read computes, as plain Lean functions on lists of bytes: words of a line, names, whole numbers, expressions, lines, texts. No program in sight.
Conditions: none; these are definitions. -/
import Derived.WalkKit
import Derived.Deep.Draws
import Derived.Lib.SmallJoins
import Derived.Lib.ItoaNum
import Derived.Lib.Space
import Derived.Lib.LaidTab
import GoSem.PinnedTables
import Derived.Test.YtdkhedefcmjjgaaGreatDoorProg
import Derived.WalkLawsBesides
import Derived.WalkSpells
import Derived.Handy
import Derived.Lib.Hide
namespace Go.Proofs.YtdkhedefcmjjgaaGreatDoor.Sp

abbrev Bs := List UInt8

/-- How a function takes its arguments. -/
structure FnS where
  takes : Int
  whole : Bool
  number : Bool

def fns : List (Bs × FnS) := [
  ([114, 101, 108, 117], ⟨1, false, false⟩),
  ([97, 98, 115], ⟨1, false, false⟩),
  ([101, 120, 112], ⟨1, false, false⟩),
  ([108, 111, 103], ⟨1, false, false⟩),
  ([116, 97, 110, 104], ⟨1, false, false⟩),
  ([115, 105, 103, 109, 111, 105, 100], ⟨1, false, false⟩),
  ([115, 111, 102, 116, 112, 108, 117, 115], ⟨1, false, false⟩),
  ([115, 113, 114, 116], ⟨1, false, false⟩),
  ([116, 117, 114, 110], ⟨1, false, false⟩),
  ([115, 117, 109], ⟨1, false, false⟩),
  ([115, 117, 109, 114, 111, 119, 115], ⟨1, false, false⟩),
  ([115, 117, 109, 99, 111, 108, 115], ⟨1, false, false⟩),
  ([109, 101, 97, 110], ⟨1, false, false⟩),
  ([103, 114, 101, 97, 116, 101, 115, 116], ⟨1, false, false⟩),
  ([115, 111, 102, 116, 109, 97, 120], ⟨1, false, false⟩),
  ([108, 111, 103, 115, 111, 102, 116], ⟨1, false, false⟩),
  ([119, 105, 100, 101], ⟨1, false, false⟩),
  ([110, 97, 114, 114, 111, 119], ⟨1, false, false⟩),
  ([102, 111, 114, 109], ⟨3, true, false⟩),
  ([99, 117, 116, 99, 111, 108, 115], ⟨3, true, false⟩),
  ([99, 117, 116, 114, 111, 119, 115], ⟨3, true, false⟩),
  ([119, 105, 110, 100, 111, 119], ⟨3, true, false⟩),
  ([103, 108, 117, 101, 99, 111, 108, 115], ⟨(-1), false, false⟩),
  ([103, 108, 117, 101, 114, 111, 119, 115], ⟨(-1), false, false⟩),
  ([115, 113, 117, 97, 114, 101, 100], ⟨2, false, false⟩),
  ([97, 98, 115, 111, 108, 117, 116, 101], ⟨2, false, false⟩),
  ([99, 114, 111, 115, 115], ⟨2, false, false⟩),
  ([108, 111, 103, 105, 115, 116, 105, 99], ⟨2, false, false⟩),
  ([104, 105, 110, 103, 101], ⟨2, false, false⟩),
  ([100, 101, 110, 115, 101], ⟨3, false, false⟩),
  ([104, 117, 98, 101, 114], ⟨3, false, true⟩)]
def known (s : Bs) : Option FnS := (fns.find? fun p => p.1 == s).map (·.2)
def reservedWords : List Bs := [[109, 111, 100, 101, 108], [119, 105, 100, 116, 104], [105, 110, 112, 117, 116], [108, 97, 98, 101, 108], [112, 97, 114, 97, 109], [108, 101, 116], [111, 117, 116], [108, 111, 115, 115], [122, 101, 114, 111], [99, 111, 110, 115, 116], [117, 110, 105, 102, 111, 114, 109], [103, 108, 111, 114, 111, 116], [104, 101], [110, 111, 114, 109, 97, 108], [110, 101, 103]]
def reserved (s : Bs) : Bool := reservedWords.contains s

def small (c : UInt8) : Bool := 97 ≤ c && c ≤ 122
def ten (c : UInt8) : Bool := 48 ≤ c && c ≤ 57
def upper (c : UInt8) : Bool := 65 ≤ c && c ≤ 90
def nameBytes : Bs → Bool
  | [] => true
  | c :: r => small c && r.all fun d => small d || ten d
def isName (s : Bs) : Bool := decide (s.length ≤ 16) && nameBytes s && (!s.isEmpty) && (known s).isNone && !reserved s

/-- A word of a line: its kind, its bytes. -/
structure Tok where
  kind : UInt8
  text : Bs

def isSign (c : UInt8) : Bool := [43, 45, 42, 47, 64, 40, 41, 44, 61].contains c
def wordByte (c : UInt8) : Bool := small c || ten c || upper c || c == 46 || c == 95
/-- Does a minus behind this word belong to it? -/
def expo (cur : Bs) : Bool :=
  match cur with
  | [] => false
  | a :: r => cur.getLast? == some 101 && ten a && (match r with | [] => true | d :: _ => d != 120)
def close (cur : Bs) (kind : UInt8) (out : List Tok) : List Tok := if cur.isEmpty then out else out ++ [⟨kind, cur⟩]
/-- The words of a line; none: a byte that no word has. -/
def scanGo : Bs → Bs → UInt8 → List Tok → Option (List Tok)
  | [], cur, kind, out => some (close cur kind out)
  | c :: l, cur, kind, out =>
    if wordByte c then (if cur.isEmpty then scanGo l [c] (if small c then 110 else 100) out else scanGo l (cur ++ [c]) kind out)
    else if c == 45 && expo cur then scanGo l (cur ++ [c]) kind out
    else if c == 32 || c == 9 then scanGo l [] kind (close cur kind out)
    else if isSign c then scanGo l [] kind (close cur kind out ++ [⟨c, [c]⟩])
    else none
def scan (l : Bs) : Option (List Tok) := scanGo l [] 0 []

/-- An expression. -/
inductive Ex where
  | mk (kind bits : Int) (name : Bs) (args : List Ex)

/-- Where a reader stands: the words that are left, the first number's stop. -/
structure RS where
  ts : List Tok
  stop : Int

def next (k : UInt8) (r : RS) : Option (Bs × RS) :=
  match r.ts with
  | [] => none
  | t :: l => if k != 0 && t.kind != k then none else some (t.text, ⟨l, r.stop⟩)
def sign (signs : Bs) (r : RS) : Option (Bs × RS) :=
  match r.ts with
  | [] => none
  | t :: l => if signs.contains t.kind then some (t.text, ⟨l, r.stop⟩) else none
def name (r : RS) : Option (Bs × RS) :=
  match next 110 r with
  | none => none
  | some (s, r') => if isName s then some (s, r') else none

/-- What is told of texts of numbers: whole numbers (the number, is it right), numbers by a width, a pattern's class. -/
structure Nums where
  whole : Bs → Int × Bool
  number : Bs → Int → Int × Bool
  cls : Int → Int → Int
  neg : Int → Int

section
variable (m : Nums)
def wholeR (r : RS) : Option (Int × RS) :=
  match next 100 r with
  | none => none
  | some (s, r') => if (m.whole s).2 then some ((m.whole s).1, r') else none
def stopOf (c : Int) : Int := if c = 4 then 30 else if c = 3 then 31 else 0
def numberR (w : Int) (r : RS) : Option (Int × RS) :=
  match next 100 r with
  | none => none
  | some (s, r') =>
    if (m.number s w).2 then some ((m.number s w).1, ⟨r'.ts, if r'.stop = 0 then stopOf (m.cls (m.number s w).1 w) else r'.stop⟩)
    else none
def signedR (r : RS) : Option (Int × RS) :=
  match sign [45] r with
  | none => numberR m 64 r
  | some (_, r') => match numberR m 64 r' with
    | none => none
    | some (b, r'') => some (m.neg b, r'')

def call (name : Bs) (args : List Ex) : Ex := .mk 3 0 name args

def chainGo (signs : Bs) (part : RS → Option (Ex × RS)) : Nat → Ex → RS → Option (Ex × RS)
  | 0, _, _ => none
  | k + 1, x, r =>
    match sign signs r with
    | none => some (x, r)
    | some (s, r') => match part r' with
      | none => none
      | some (y, r'') => chainGo signs part k (call s [x, y]) r''
def chain (signs : Bs) (part : RS → Option (Ex × RS)) (r : RS) : Option (Ex × RS) :=
  match part r with
  | none => none
  | some (x, r') => chainGo signs part (r'.ts.length + 1) x r'

/-- The next argument of a function that has n of them. -/
def arg (w : Int) (expr : RS → Option (Ex × RS)) (f : FnS) (n : Nat) (r : RS) : Option (Ex × RS) :=
  if f.whole && decide (0 < n) then (match wholeR m r with | none => none | some (b, r') => some (.mk 4 b [] [], r'))
  else if f.number && decide (n = 2) then (match numberR m w r with | none => none | some (b, r') => some (.mk 1 b [] [], r'))
  else expr r
def argsGo (w : Int) (expr : RS → Option (Ex × RS)) (f : FnS) : Nat → List Ex → RS → Option (List Ex × RS)
  | 0, _, _ => none
  | k + 1, l, r =>
    match arg m w expr f l.length r with
    | none => none
    | some (y, r') => match sign [44] r' with
      | none => some (l ++ [y], r')
      | some (_, r'') => argsGo w expr f k (l ++ [y]) r''
def function (w : Int) (expr : RS → Option (Ex × RS)) (s : Bs) (f : FnS) (r : RS) : Option (Ex × RS) :=
  match next 40 r with
  | none => none
  | some (_, r1) => match argsGo m w expr f (r1.ts.length + 1) [] r1 with
    | none => none
    | some (l, r2) => match next 41 r2 with
      | none => none
      | some (_, r3) => if decide (0 ≤ f.takes) && decide ((l.length : Int) ≠ f.takes) then none else some (call s l, r3)
def exprOf (factor : RS → Option (Ex × RS)) (r : RS) : Option (Ex × RS) := chain [43, 45] (chain [42, 47, 64] factor) r
def factorStep (w : Int) (factor : RS → Option (Ex × RS)) (r : RS) : Option (Ex × RS) :=
  match sign [45] r with
  | some (_, r') => (match factor r' with | none => none | some (x, r'') => some (call [110, 101, 103] [x], r''))
  | none => match sign [40] r with
    | some (_, r') => (match exprOf factor r' with
      | none => none
      | some (x, r'') => match next 41 r'' with
        | none => none
        | some (_, r3) => some (x, r3))
    | none => match r.ts with
      | [] => none
      | t :: _ =>
        if t.kind = 100 then (match numberR m w r with | none => none | some (b, r') => some (.mk 1 b [] [], r'))
        else match known t.text with
          | some f => (match next 110 r with
            | none => none
            | some (s, r') => function m w (exprOf factor) s f r')
          | none => match name r with
            | none => none
            | some (s, r') => some (.mk 2 0 s [], r')
def factor (w : Int) : Nat → RS → Option (Ex × RS)
  | 0 => fun _ => none
  | n + 1 => factorStep m w (factor w n)
def expr (w : Int) (r : RS) : Option (Ex × RS) := exprOf (factor m w (r.ts.length + 1)) r

end

mutual
def deep : Ex → Int
  | .mk k _ _ args => if k = 3 then deepAll args 0 + 1 else deepAll args 0
def deepAll : List Ex → Int → Int
  | [], n => n
  | x :: l, n => deepAll l (max n (deep x))
end

/-- A line's declaration. -/
structure Dc where
  kind : Int
  line : Int
  name : Bs
  rows : Int
  cols : Int
  init : Int
  a : Int
  b : Int
  expr : Ex

def kindWords : List Bs := [[105, 110, 112, 117, 116], [108, 97, 98, 101, 108], [112, 97, 114, 97, 109], [108, 101, 116], [111, 117, 116], [108, 111, 115, 115]]
def kindOf (s : Bs) : Int := match kindWords.findIdx? (· == s) with | none => 0 | some i => (i : Int) + 1
def behind (kind last : Int) : Bool :=
  if kind = 1 then last == 0 else if kind = 2 then last == 1 else if kind = 6 then last == 5 else decide (1 ≤ last) && decide (last ≤ 4)

section
variable (m : Nums)
/-- HOW: Init, A, B. -/
def how (r : RS) : Option ((Int × Int × Int) × RS) :=
  match next 110 r with
  | none => none
  | some (s, r1) =>
    if s = [122, 101, 114, 111] then some ((0, 0, 0), r1)
    else if s = [99, 111, 110, 115, 116] then (match signedR m r1 with | none => none | some (a, r2) => some ((1, a, 0), r2))
    else if s = [117, 110, 105, 102, 111, 114, 109] then (match signedR m r1 with
      | none => none
      | some (a, r2) => match signedR m r2 with | none => none | some (b, r3) => some ((2, a, b), r3))
    else if s = [103, 108, 111, 114, 111, 116] then some ((3, 0, 0), r1)
    else if s = [104, 101] then some ((4, 0, 0), r1)
    else if s = [110, 111, 114, 109, 97, 108] then (match signedR m r1 with | none => none | some (a, r2) => some ((5, a, 0), r2))
    else none
def nil : Ex := .mk 0 0 [] []
/-- What stands behind a declaration's name. -/
def rest (w kind : Int) (s : Bs) (r : RS) : Option (Dc × RS) :=
  if kind = 1 ∨ kind = 2 ∨ kind = 3 then
    match wholeR m r with
    | none => none
    | some (rows, r1) => match wholeR m r1 with
      | none => none
      | some (cols, r2) =>
        if kind = 3 then (match how m r2 with | none => none | some ((i, a, b), r3) => some (⟨3, 0, s, rows, cols, i, a, b, nil⟩, r3))
        else some (⟨kind, 0, s, rows, cols, 0, 0, 0, nil⟩, r2)
  else if kind = 4 then
    match next 61 r with
    | none => none
    | some (_, r1) => match expr m w r1 with | none => none | some (x, r2) => some (⟨4, 0, s, 0, 0, 0, 0, 0, x⟩, r2)
  else some (⟨kind, 0, s, 0, 0, 0, 0, 0, nil⟩, r)
/-- A line that declares: what it declares, or its error. -/
def decl (w last : Int) (r : RS) : Except Int (Dc × RS) :=
  match next 110 r with
  | none => .error 70
  | some (s0, r1) =>
    if kindOf s0 = 0 ∨ behind (kindOf s0) last = false then .error 70
    else match name r1 with
      | none => .error 70
      | some (s, r2) => match rest m w (kindOf s0) s r2 with
        | none => .error 70
        | some (d, r3) =>
          if r3.ts ≠ [] then .error 70
          else if 64 < deep d.expr then .error 2
          else if r3.stop ≠ 0 then .error r3.stop
          else .ok (d, r3)

/-- A text on its way. -/
structure St where
  name : Bs
  width : Int
  decls : List Dc
  seen : Int
  last : Int

def blank (c : UInt8) : Bool := c == 32 || c == 9
/-- A line without what is blank ahead of it. -/
def trimL (l : Bs) : Bs := l.dropWhile blank
/-- Does a line mean nothing? -/
def void (l : Bs) : Bool := match trimL l with | [] => true | c :: _ => c == 35

/-- A line's words, read. -/
def lineToks (s : St) (ts : List Tok) (n : Int) : Except Int St :=
  if s.seen + 1 = 1 then
    match next 110 ⟨ts, 0⟩ with
    | none => .error 70
    | some (x, r1) => if x ≠ [109, 111, 100, 101, 108] then .error 70 else match name r1 with
      | none => .error 70
      | some (y, r2) => if r2.ts ≠ [] then .error 70 else .ok { s with seen := s.seen + 1, name := y }
  else if s.seen + 1 = 2 then
    match next 110 ⟨ts, 0⟩ with
    | none => .error 70
    | some (x, r1) => if x ≠ [119, 105, 100, 116, 104] then .error 70 else match next 100 r1 with
      | none => .error 70
      | some (y, r2) =>
        if (m.whole y).1 ≠ 32 ∧ (m.whole y).1 ≠ 64 then .error 70
        else if r2.ts ≠ [] then .error 70 else .ok { s with seen := s.seen + 1, width := (m.whole y).1 }
  else match decl m s.width s.last ⟨ts, 0⟩ with
    | .error e => .error e
    | .ok (d, _) => .ok { s with seen := s.seen + 1, last := d.kind, decls := s.decls ++ [{ d with line := n }] }
def line (s : St) (l : Bs) (n : Int) : Except Int St :=
  if void l then .ok s else match scan l with
    | none => .error 70
    | some ts => lineToks m s ts n
def lines : St → List Bs → Nat → Except (Int × Int) St
  | s, [], _ => .ok s
  | s, l :: r, i => match line m s l ((i : Int) + 1) with
    | .error e => .error (e, (i : Int) + 1)
    | .ok s' => lines s' r (i + 1)

/-- A text's lines: what stands between bytes 10; an empty last one is none. -/
def splitGo : Bs → Bs → List Bs
  | [], cur => [cur]
  | c :: l, cur => if c = 10 then cur :: splitGo l [] else splitGo l (cur ++ [c])
def textLines (t : Bs) : List Bs :=
  let l := splitGo t []
  if l.getLast? = some [] then l.dropLast else l

structure Md where
  name : Bs
  width : Int
  decls : List Dc
def noMd : Md := ⟨[], 0, []⟩
def read (t : Bs) : Md × Int × Int :=
  if 65536 < t.length then (noMd, 0, 2)
  else match lines m ⟨[], 0, [], 0, 0⟩ (textLines t) 0 with
    | .error (e, n) => (noMd, n, e)
    | .ok s => if s.last < 5 then (noMd, ((textLines t).length : Int) + 1, 70) else (⟨s.name, s.width, s.decls⟩, 0, 0)
end
end Go.Proofs.YtdkhedefcmjjgaaGreatDoor.Sp
/- Words for the memory that lang.Read works on: a reader's words as a slice of tokens, a reader behind its pointer, an expression's tree; what stays of them when other blocks turn.
Conditions: none; these are definitions and their frame lemmas. -/
namespace Go.Proofs.YtdkhedefcmjjgaaGreatDoor
open Go.RowKit Sp

def bstr (l : Bs) : ByteArray := ⟨l.toArray⟩
theorem bstr_toList (l : Bs) : (bstr l).toList = l := by rw [ByteArray.toList_eq]; simp [bstr]
theorem bstr_data (l : Bs) : (bstr l).data.toList = l := by simp [bstr]
theorem bstr_size (l : Bs) : (bstr l).size = l.length := by simp [bstr, ByteArray.size]
theorem bstr_of (s : ByteArray) : bstr s.data.toList = s := by cases s; simp [bstr]
theorem eq_bstr {s : ByteArray} {l : Bs} (h : s.data.toList = l) : s = bstr l := by subst h; exact (bstr_of s).symm
theorem eq_bstr' {s : ByteArray} {l : Bs} (h : (s.toList == l) = true) : s = bstr l := eq_bstr (by have := eq_of_beq h; rw [ByteArray.toList_eq] at this; exact this)

/-- The panic by which a line gives up. -/
def giv (n : Int) : List PanicEntry := [{ v := .iface 47 (.int .i64 n), recovered := false }]

def flat : List Tok → List Value
  | [] => []
  | t :: l => .int .u8 t.kind.toNat :: .string (bstr t.text) :: flat l
theorem flat_length (l : List Tok) : (flat l).length = 2 * l.length := by induction l with | nil => rfl | cons t l ih => simp [flat, ih]; omega
theorem flat_append (l k : List Tok) : flat (l ++ k) = flat l ++ flat k := by induction l with | nil => rfl | cons t l ih => simp [flat, ih]

/-- The slice v reads as the words ts, in block T. -/
def TokS (w : World) (T : Nat) (v : Value) (ts : List Tok) : Prop :=
  ∃ A c, v = .slice A ts.length c ∧ ts.length ≤ c ∧ c ≤ 9223372036854775807 ∧ (ts ≠ [] → ∃ o, A = some ⟨T, o, none⟩ ∧ ∀ j u, (flat ts)[j]? = some u → w.cell? ⟨T, o + j, none⟩ = some u)
theorem TokS.keep {w w' : World} {T : Nat} {v : Value} {ts : List Tok} (h : TokS w T v ts) (hk : w'.heap[T]? = w.heap[T]?) : TokS w' T v ts := by
  obtain ⟨A, c, hv, hc, hm, hh⟩ := h
  refine ⟨A, c, hv, hc, hm, fun hne => ?_⟩
  obtain ⟨o, hA, hcell⟩ := hh hne
  exact ⟨o, hA, fun j u hu => (World.cell?_of_block (a := ⟨T, o + j, none⟩) hk).trans (hcell j u hu)⟩
theorem add_plain' (g i j : Nat) : (⟨g, i, none⟩ : Addr).add j = ⟨g, i + j, none⟩ := by unfold Addr.add; split <;> simp_all

/-- The words that a line may have: kinds are ASCII; not too many, none too long. -/
def OkTs (ts : List Tok) : Prop := ts.length ≤ 70000 ∧ ∀ t ∈ ts, t.kind.toNat < 128 ∧ t.text.length ≤ 70000
theorem OkTs.tail {t : Tok} {l : List Tok} (h : OkTs (t :: l)) : OkTs l := ⟨by have := h.1; simp at this; omega, fun x hx => h.2 x (List.mem_cons_of_mem _ hx)⟩
theorem heap_lt {w : World} {g : Nat} {o : Obj} (h : w.heap[g]? = some o) : g < w.heap.size := (Array.getElem?_eq_some_iff.1 h).1
/-- The powers of ten, 0 to 22, as patterns. -/
def PW64 : List Nat := [4607182418800017408, 4621819117588971520, 4636737291354636288, 4652007308841189376, 4666723172467343360, 4681608360884174848, 4696837146684686336, 4711630319722168320, 4726483295884279808, 4741671816366391296, 4756540486875873280, 4771362005757984768, 4786511204640096256, 4801453603149578240, 4816244402031689728, 4831355200913801216, 4846369599423283200, 4861130398305394688, 4876203697187506176, 4891288408196988160, 4906019910204099648, 4921056587992461136, 4936209963552724370]
/-- A variable that is a slice over just these values. -/
def SlT (w : World) (g : Nat) (vs : List Value) : Prop :=
  ∃ R o c, w.cell? ⟨g, 0, none⟩ = some (.slice (some ⟨R, o, none⟩) vs.length c) ∧ vs.length ≤ c ∧ ∀ i v, vs[i]? = some v → w.cell? ⟨R, o + i, none⟩ = some v
/-- The tables of internal/strconv that reading a float asks for. -/
structure Tabs (w : World) : Prop where
  opt : w.cell? ⟨13, 0, none⟩ = some (.bool true)
  i32 : w.cell? ⟨12, 0, none⟩ = some (.int .u64 23) ∧ w.cell? ⟨12, 1, none⟩ = some (.int .u64 8) ∧ w.cell? ⟨12, 2, none⟩ = some (.int .i64 (-127))
  i64 : w.cell? ⟨14, 0, none⟩ = some (.int .u64 52) ∧ w.cell? ⟨14, 1, none⟩ = some (.int .u64 11) ∧ w.cell? ⟨14, 2, none⟩ = some (.int .i64 (-1023))
  p32 : SlT w 15 ([1065353216, 1092616192, 1120403456, 1148846080, 1176256512, 1203982336, 1232348160, 1259902592, 1287568416, 1315859240, 1343554297].map (Value.float .f32))
  ptab : SlT w 16 ([1, 3, 6, 9, 13, 16, 19, 23, 26].map (Value.int .i64))
  p64 : SlT w 17 (PW64.map (Value.float .f64))
  p10 : ∀ i x, Go.Pinned.pow10Rows[i]? = some x → w.cell? ⟨18, 2 * i, none⟩ = some (.int .u64 (x.1 : Nat)) ∧ w.cell? ⟨18, 2 * i + 1, none⟩ = some (.int .u64 (x.2 : Nat))
  cheats : ∃ R o c, w.cell? ⟨19, 0, none⟩ = some (.slice (some ⟨R, o, none⟩) 61 c) ∧ 61 ≤ c ∧ ∀ i x, Go.Pinned.cheatRows[i]? = some x → w.cell? ⟨R, o + 2 * i, none⟩ = some (.int .i64 (x.1 : Nat)) ∧ w.cell? ⟨R, o + 2 * i + 1, none⟩ = some (.string (bstr x.2))
/-- What the library's variables hold. -/
structure Env (w : World) : Prop where
  maxLen : ∃ m, w.cell? ⟨0, 0, none⟩ = some (.int .i64 m)
  syn : ∃ te pe, w.cell? ⟨4, 0, none⟩ = some (.iface te pe)
  rng : ∃ a, w.cell? ⟨5, 0, none⟩ = some (.iface 145 (.pointer (some a)))
  pow : Lib.TabIs Tryz.prog w "internal/strconv.uint64pow10" .u64 Lib.pow10Tab
  space : Lib.TabIs Tryz.prog w "strings.asciiSpace" .u8 Lib.asciiSpaceTab
  tabs : Tabs w
theorem cell_old {w w' : World} (hb : Below w.heap.size w w') {a : Addr} {v : Value} (h : w.cell? a = some v) : w'.cell? a = some v :=
  (hb.cell (World.block_lt_of_cell? w a h)).trans h
theorem pow_global : Tryz.prog.globalNamed "internal/strconv.uint64pow10" = some 7 := by kernel_rfl
theorem space_global : Tryz.prog.globalNamed "strings.asciiSpace" = some 1 := by kernel_rfl
theorem SlT.old {w w' : World} {g : Nat} {vs : List Value} (h : SlT w g vs) (hb : Below w.heap.size w w') : SlT w' g vs :=
  let ⟨R, o, c, h1, h2, h3⟩ := h
  ⟨R, o, c, cell_old hb h1, h2, fun i v hv => cell_old hb (h3 i v hv)⟩
theorem Tabs.old {w w' : World} (h : Tabs w) (hb : Below w.heap.size w w') : Tabs w' :=
  ⟨cell_old hb h.opt, ⟨cell_old hb h.i32.1, cell_old hb h.i32.2.1, cell_old hb h.i32.2.2⟩, ⟨cell_old hb h.i64.1, cell_old hb h.i64.2.1, cell_old hb h.i64.2.2⟩, h.p32.old hb, h.ptab.old hb, h.p64.old hb,
    fun i x hx => ⟨cell_old hb (h.p10 i x hx).1, cell_old hb (h.p10 i x hx).2⟩,
    let ⟨R, o, c, h1, h2, h3⟩ := h.cheats
    ⟨R, o, c, cell_old hb h1, h2, fun i x hx => ⟨cell_old hb (h3 i x hx).1, cell_old hb (h3 i x hx).2⟩⟩⟩
theorem Env.old {w w' : World} (h : Env w) (hb : Below w.heap.size w w') : Env w' :=
  ⟨h.maxLen.imp fun _ hm => cell_old hb hm, h.syn.imp fun _ => Exists.imp fun _ hm => cell_old hb hm, h.rng.imp fun _ hm => cell_old hb hm, Go.Joins.tab_stays pow_global h.pow hb (Nat.le_refl _), Go.Joins.tab_stays space_global h.space hb (Nat.le_refl _), h.tabs.old hb⟩
/-- A reader behind its pointer, made since w0. -/
structure Rd (w0 w : World) (R T : Nat) (wd : Int) (r : RS) : Prop where
  env : Env w0
  below : Below w0.heap.size w0 w
  hR : w0.heap.size ≤ R
  hT : w0.heap.size ≤ T
  ok : OkTs r.ts
  ne : T ≠ R
  ltT : T < w.heap.size
  at_ : ∃ v dp, w.heap[R]? = some (.cells #[v, .int .i64 wd, .int .i64 r.stop, dp] 54 (0, 0)) ∧ TokS w T v r.ts
theorem Rd.lt {w0 w : World} {R T : Nat} {wd : Int} {r : RS} (h : Rd w0 w R T wd r) : R < w.heap.size := by
  obtain ⟨v, dp, h, _⟩ := h.at_
  exact heap_lt h
theorem Rd.now {w0 w : World} {R T : Nat} {wd : Int} {r : RS} (h : Rd w0 w R T wd r) : Env w := h.env.old h.below
theorem Rd.keep {w0 w w' : World} {R T : Nat} {wd : Int} {r : RS} (h : Rd w0 w R T wd r) (hb : Below w.heap.size w w') : Rd w0 w' R T wd r := by
  obtain ⟨v, dp, h1, h2⟩ := h.at_
  exact ⟨h.env, h.below.trans (hb.mono h.below.size), h.hR, h.hT, h.ok, h.ne, Nat.lt_of_lt_of_le h.ltT hb.size, v, dp, (hb.block _ (heap_lt h1)).trans h1, h2.keep (hb.block _ h.ltT)⟩
theorem Rd.drew {w0 w : World} {R T : Nat} {wd : Int} {r : RS} (h : Rd w0 w R T wd r) : Rd w0 w.drew R T wd r := h.keep (Below.refl _ _).drew
theorem gr_trans {a b c : World} {R : Option Nat} (h : a.grownBy b R) (k : b.grownBy c R) : a.grownBy c R :=
  ⟨k.os.trans h.os, k.tape.trans h.tape, k.output.trans h.output, Nat.le_trans h.size k.size, fun i hi hn => (k.block i (Nat.lt_of_lt_of_le hi h.size) hn).trans (h.block i hi hn)⟩
theorem gr_refl (a : World) (R : Option Nat) : a.grownBy a R := ⟨rfl, rfl, rfl, Nat.le_refl _, fun _ _ _ => rfl⟩
theorem gr_below {a b : World} (h : Below a.heap.size a b) (R : Option Nat) : a.grownBy b R := ⟨h.os, h.tape, h.output, h.size, fun i hi _ => h.block i hi⟩
theorem gr_set {a : World} {R : Nat} (i : Nat) (u : Value) : a.grownBy (a.setCell ⟨R, i, none⟩ u) (some R) :=
  ⟨rfl, rfl, rfl, by simp [World.setCell], fun k _ hn => Below.heap_setCell _ _ _ _ (fun e => hn (by rw [e]))⟩
theorem gr_alloc (a : World) (o : Obj) (R : Option Nat) : a.grownBy (a.alloc o) R := World.grownBy_alloc a o R
theorem gr_drewN {a b : World} {R : Option Nat} (h : a.grownBy b R) (n : Nat) : a.grownBy (b.drewN n) R := ⟨h.os, h.tape, h.output, h.size, h.block⟩
theorem gr_drew {a b : World} {R : Option Nat} (h : a.grownBy b R) : a.grownBy b.drew R := ⟨h.os, h.tape, h.output, h.size, h.block⟩
/-- What is done to new blocks is nothing to the old ones. -/
theorem gr_new {a b : World} {R : Option Nat} (h : a.grownBy b R) {p : Addr} (hp : a.heap.size ≤ p.block) (u : Value) : a.grownBy (b.setCell p u) R :=
  ⟨h.os, h.tape, h.output, by simpa [World.setCell] using h.size, fun k hk hn => (Below.heap_setCell _ _ _ _ (by omega)).trans (h.block k hk hn)⟩
theorem gr_put {a b : World} {R : Nat} (h : a.grownBy b (some R)) (i : Nat) (u : Value) : a.grownBy (b.setCell ⟨R, i, none⟩ u) (some R) := gr_trans h (gr_set i u)
theorem gr_app {a b : World} {R : Option Nat} (h : a.grownBy b R) (o : Obj) : a.grownBy (b.alloc o) R := gr_trans h (gr_alloc b o R)
theorem set_heap {w : World} {g : Nat} {cs : Array Value} {t : TypeId} {f : Nat × Nat} (h : w.heap[g]? = some (.cells cs t f)) (i : Nat) (u : Value) : (w.setCell ⟨g, i, none⟩ u).heap[g]? = some (.cells (cs.setIfInBounds i u) t f) := by
  simp [World.setCell, Array.getElem?_modify, h]
theorem cell_heap {w : World} {g : Nat} {cs : Array Value} {t : TypeId} {f : Nat × Nat} (h : w.heap[g]? = some (.cells cs t f)) (i : Nat) : w.cell? ⟨g, i, none⟩ = cs[i]? := by
  simp [World.cell?, h]
theorem free_heap {w : World} {g : Nat} {cs : Array Value} {t : TypeId} (h : w.heap[g]? = some (.cells cs t (0, 0))) (i : Nat) : w.frozen? ⟨g, i, none⟩ = false := by
  simp [World.frozen?, h]

/-- How a reader's function ends: it gives up by a wrong line, or tells x and leaves the reader at r'. -/
def Post {α : Type} (w0 : World) (R T : Nat) (wd : Int) (w : World) (ret : α → Value → World → Prop) (o : Option (α × RS)) (e : Ending) (w' : World) : Prop :=
  w.grownBy w' (some R) ∧ match o with
    | none => e = .panicked (giv 70)
    | some (x, r') => (∃ v, e = .returned v ∧ ret x v w') ∧ Rd w0 w' R T wd r'
theorem TokS.nil {w : World} {T : Nat} {v : Value} (h : TokS w T v []) : ∃ A c, v = .slice A 0 c ∧ c ≤ 9223372036854775807 := by
  obtain ⟨A, c, hv, _, hm, _⟩ := h
  exact ⟨A, c, hv, hm⟩
theorem TokS.cons {w : World} {T : Nat} {v : Value} {t : Tok} {l : List Tok} (h : TokS w T v (t :: l)) :
    ∃ o c, v = .slice (some ⟨T, o, none⟩) (l.length + 1) c ∧ l.length + 1 ≤ c ∧ c ≤ 9223372036854775807 ∧ w.cell? ⟨T, o, none⟩ = some (.int .u8 t.kind.toNat) ∧ w.cell? ⟨T, o + 1, none⟩ = some (.string (bstr t.text)) ∧
      ∀ A', (0 < l.length → A' = some (⟨T, o + 2, none⟩ : Addr)) → TokS w T (.slice A' l.length (c - 1)) l := by
  obtain ⟨A, c, rfl, hc, hm, hh⟩ := h
  obtain ⟨o, rfl, hcell⟩ := hh (by simp)
  refine ⟨o, c, rfl, hc, hm, hcell 0 _ rfl, hcell 1 _ rfl, fun A' hA => ⟨A', c - 1, rfl, by simp at hc; omega, by omega, fun hne => ⟨o + 2, hA (List.length_pos_iff.2 hne), fun j u hu => ?_⟩⟩⟩
  have := hcell (j + 2) u (by simpa [flat] using hu)
  rwa [show o + (j + 2) = o + 2 + j by omega] at this
end Go.Proofs.YtdkhedefcmjjgaaGreatDoor
/- A reader's smallest steps, walked: it gives up; it takes the next word.
Conditions: the reader lies behind its pointer as the words of Mem say. -/
namespace Go.Proofs.YtdkhedefcmjjgaaGreatDoor
open Go.RowKit Sp
set_option linter.unusedVariables false
theorem und51 : Tryz.prog.underlying 51 = some (.slice 70) := by kernel_rfl
theorem elem51 : Tryz.prog.elem 51 = 70 := by kernel_rfl
theorem info70 : (Tryz.prog.info? 70).map (fun i => (i.size, i.bytes)) = some (2, 24) := by kernel_rfl
theorem drop51 (A : Option Addr) (n c : Nat) (h : n + 1 ≤ c) : ∃ A', (∀ W, (Instr.slice 51 (.slice A (n + 1) c) (some (.int .i64 1)) none none).run Tryz.prog W = .ok (.slice A' n (c - 1)) W) ∧ (0 < n → A' = A.map (·.add 2)) := by
  have hi := info70
  cases h70 : Tryz.prog.info? 70 with
  | none => rw [h70] at hi; simp at hi
  | some i =>
    rw [h70] at hi
    simp only [Option.map_some, Option.some.injEq, Prod.mk.injEq] at hi
    refine ⟨if c = 1 then A else A.map (·.add 2), fun W => ?_, fun hn => by rw [if_neg (by omega)]⟩
    have hu : Tryz.prog.underlying 51 = some (.slice (Tryz.prog.elem 51)) := by rw [elem51]; exact und51
    rw [run_slice_l W 51 A (n + 1) c hu .i64 1 (by omega) (by omega), elem51]
    simp [sizeOf, typeInfo, h70, hi.1, sliced, Result.andThen]
/-- syntax: it gives up. -/
theorem syntax_any (p : Value) (w : World) : Calls Tryz.prog 17 #[p] w fun e w' => e = .panicked (giv 70) ∧ w = w' := by
  go_enter Tryz.func17, Tryz.ntmps17
  go_wp2
  exact ⟨rfl, rfl, rfl⟩
set_option maxHeartbeats 1000000 in
theorem next_walk (R T o c n : Nat) (k q : Int) (s : ByteArray) (A' : Option Addr) (w : World) (hR : w.cell? ⟨R, 0, none⟩ = some (.slice (some ⟨T, o, none⟩) (n+1) c))
    (hT0 : w.cell? ⟨T, o, none⟩ = some (.int .u8 q)) (hT1 : w.cell? ⟨T, o + 1, none⟩ = some (.string s)) (hf : w.frozen? ⟨R, 0, none⟩ = false)
    (hRl : R < w.heap.size) (hTl : T < w.heap.size) (hcs : n + 1 ≤ c) (hc : c ≤ 9223372036854775807)
    (hsl : ∀ W, (Instr.slice 51 (.slice (some ⟨T, o, none⟩) (n + 1) c) (some (.int .i64 1)) none none).run Tryz.prog W = .ok (.slice A' n (c - 1)) W)
    (hk : (k != 0) = false ∨ (k != 0) = true ∧ (q != k) = false) :
     Calls Tryz.prog 16 #[.pointer (some ⟨R, 0, none⟩), .int .u8 k] w fun e w' => e = .returned (.string s) ∧ (w.setCell ⟨R, 0, none⟩ (.slice A' n (c - 1))).alloc (.cells #[.int .u8 q, .string s] 70) = w' := by
  have hn0 : ((n : Int) + 1 == 0) = false := beq_eq_false_iff_ne.2 (by omega)
  rcases hk with hk | ⟨hk, hq⟩
  · go_enter Tryz.func16, Tryz.ntmps16
    go_wp2
    go_ret
    exact ⟨rfl, rfl⟩
  · go_enter Tryz.func16, Tryz.ntmps16
    go_wp2
    go_ret
    exact ⟨rfl, rfl⟩
set_option maxHeartbeats 1000000 in
theorem next_walk_empty (R c : Nat) (k : Int) (A : Option Addr) (w : World) (hR : w.cell? ⟨R, 0, none⟩ = some (.slice A 0 c)) :
     Calls Tryz.prog 16 #[.pointer (some ⟨R, 0, none⟩), .int .u8 k] w fun e w' => e = .panicked (giv 70) ∧ w = w' := by
  go_enter Tryz.func16, Tryz.ntmps16
  go_wp2_with (go_at_call 17; refine (syntax_any _ _).mono ?_; rintro e w' ⟨rfl, rfl⟩)
  exact ⟨rfl, rfl, rfl⟩
set_option maxHeartbeats 1000000 in
theorem next_walk_other (R T o c n : Nat) (k q : Int) (A' : Option Addr) (w : World) (hR : w.cell? ⟨R, 0, none⟩ = some (.slice (some ⟨T, o, none⟩) (n+1) c))
    (hT0 : w.cell? ⟨T, o, none⟩ = some (.int .u8 q)) (hk : (k != 0) = true) (hq : (q != k) = true) :
     Calls Tryz.prog 16 #[.pointer (some ⟨R, 0, none⟩), .int .u8 k] w fun e w' => e = .panicked (giv 70) ∧ w = w' := by
  have hn0 : ((n : Int) + 1 == 0) = false := beq_eq_false_iff_ne.2 (by omega)
  go_enter Tryz.func16, Tryz.ntmps16
  go_wp2_with (go_at_call 17; refine (syntax_any _ _).mono ?_; rintro e w' ⟨rfl, rfl⟩)
  exact ⟨rfl, rfl, rfl⟩

theorem u8_ne (a b : UInt8) : (((a.toNat : Int) != (b.toNat : Int)) = (a != b)) := by
  by_cases h : a = b
  · subst h; simp
  · have : (a.toNat : Int) ≠ (b.toNat : Int) := fun e => h (UInt8.toNat_inj.1 (by omega))
    rw [bne_iff_ne.2 h, bne_iff_ne.2 this]
theorem u8_ne0 (a : UInt8) : (((a.toNat : Int) != 0) = (a != 0)) := u8_ne a 0

theorem next_no {w0 w : World} {R T : Nat} {wd kk : Int} {k : UInt8} {r : RS} (hr : Rd w0 w R T wd r) (hk : kk = (k.toNat : Int)) (h : Sp.next k r = none) :
    Calls Tryz.prog 16 #[.pointer (some ⟨R, 0, none⟩), .int .u8 kk] w fun e w' => e = .panicked (giv 70) ∧ w = w' := by
  subst hk
  obtain ⟨v, dp, hh, ht⟩ := hr.at_
  have hc := cell_heap hh 0
  obtain ⟨ts, st⟩ := r
  cases ts with
  | nil =>
    obtain ⟨A, c, rfl, _⟩ := ht.nil
    exact next_walk_empty R c _ A w hc
  | cons t l =>
    obtain ⟨o, c, rfl, h1, h2, h3, h4, h5⟩ := ht.cons
    simp only [Sp.next] at h
    split at h
    · rename_i hb
      rw [Bool.and_eq_true] at hb
      exact next_walk_other R T o c l.length _ _ none w hc h3 (by rw [u8_ne0]; exact hb.1) (by rw [u8_ne]; exact hb.2)
    · cases h
theorem next_ok {w0 w : World} {R T : Nat} {wd kk : Int} {k : UInt8} {r r' : RS} {s : Bs} (hr : Rd w0 w R T wd r) (hk : kk = (k.toNat : Int)) (h : Sp.next k r = some (s, r')) :
    Calls Tryz.prog 16 #[.pointer (some ⟨R, 0, none⟩), .int .u8 kk] w fun e w' => e = .returned (.string (bstr s)) ∧ w.grownBy w' (some R) ∧ Rd w0 w' R T wd r' := by
  subst hk
  have hRl := hr.lt
  obtain ⟨v, dp, hh, ht⟩ := hr.at_
  have hc := cell_heap hh 0
  obtain ⟨ts, st⟩ := r
  cases ts with
  | nil => simp [Sp.next] at h
  | cons t l =>
    obtain ⟨o, c, rfl, h1, h2, h3, h4, h5⟩ := ht.cons
    simp only [Sp.next] at h
    split at h
    · cases h
    · rename_i hb
      simp only [Option.some.injEq, Prod.mk.injEq] at h
      obtain ⟨rfl, rfl⟩ := h
      obtain ⟨A', hsl, hA'⟩ := drop51 (some ⟨T, o, none⟩) l.length c h1
      have hk : ((k.toNat : Int) != 0) = false ∨ ((k.toNat : Int) != 0) = true ∧ ((t.kind.toNat : Int) != (k.toNat : Int)) = false := by
        rw [u8_ne0, u8_ne]
        cases h0 : (k != 0) with
        | false => exact .inl rfl
        | true => exact .inr ⟨rfl, by simpa [h0] using hb⟩
      refine (next_walk R T o c l.length _ _ _ A' w hc h3 h4 (free_heap hh 0) hRl hr.ltT h1 h2 hsl hk).mono ?_
      rintro e w' ⟨rfl, rfl⟩
      refine ⟨rfl, gr_app (gr_set 0 _) _, hr.env, (hr.below.setCell hr.hR _).alloc (by have := hr.below.size; simp only [World.size_setCell]; omega) _, hr.hR, hr.hT, hr.ok.tail, hr.ne, by simp only [World.size_alloc, World.size_setCell]; have := hr.ltT; omega, .slice A' l.length (c - 1), dp, ?_, ?_⟩
      · rw [Below.heap_alloc _ _ _ (by simpa [World.setCell] using hRl)]
        exact set_heap hh 0 _
      · refine (h5 A' (fun h0 => ?_)).keep ?_
        · rw [hA' h0]; simp [add_plain']
        · rw [Below.heap_alloc _ _ _ (by simpa [World.setCell] using hr.ltT)]
          exact Below.heap_setCell _ _ _ _ hr.ne
end Go.Proofs.YtdkhedefcmjjgaaGreatDoor
