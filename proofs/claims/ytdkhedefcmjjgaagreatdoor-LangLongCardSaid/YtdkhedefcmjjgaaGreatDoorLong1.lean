/- What Read tells of LangLong's two texts, in plain words.
Conditions: none. -/
import Derived.Test.YtdkhedefcmjjgaaGreatDoorLong0
namespace Go.Proofs.YtdkhedefcmjjgaaGreatDoor
open Go.RowKit Sp
set_option linter.unusedVariables false
set_option linter.unusedSimpArgs false
/-! ### The long text -/
theorem splitGo_app : ∀ (a b cur : Bs), splitGo (a ++ 10 :: b) cur = splitGo a cur ++ splitGo b []
  | [], b, cur => by simp [splitGo]
  | c :: a, b, cur => by
    rw [List.cons_append, splitGo, splitGo]
    split
    · rw [splitGo_app a b []]; rfl
    · exact splitGo_app a b _
theorem splitGo_no : ∀ (l cur : Bs), (∀ c ∈ l, c ≠ 10) → splitGo l cur = [cur ++ l]
  | [], cur, _ => by simp [splitGo]
  | c :: l, cur, h => by
    rw [splitGo, if_neg (h c List.mem_cons_self), splitGo_no l _ (fun d hd => h d (List.mem_cons_of_mem _ hd))]
    simp
theorem lines_app (m : Nums) : ∀ (L : List Bs) (c : Bs) (s : St) (i : Nat), lines m s (L ++ [c]) i = match lines m s L i with
    | .error e => .error e
    | .ok s' => match Sp.line m s' c (((i + L.length : Nat) : Int) + 1) with
      | .error e => .error (e, ((i + L.length : Nat) : Int) + 1)
      | .ok s'' => .ok s''
  | [], c, s, i => by
    rw [List.nil_append, lines, lines]
    simp only [List.length_nil, Nat.add_zero]
    cases Sp.line m s c ((i : Int) + 1) with
    | error e => rfl
    | ok s' => simp only [lines]
  | d :: L, c, s, i => by
    rw [List.cons_append, lines, lines]
    cases Sp.line m s d ((i : Int) + 1) with
    | error e => rfl
    | ok s' =>
      simp only
      rw [lines_app m L c s' (i + 1), List.length_cons, show i + 1 + L.length = i + (L.length + 1) by omega]
def rep (n : Nat) : Bs := List.replicate n 35
def t1 (n : Nat) : Bs := smallB ++ rep n ++ [10]
theorem t1_len (n : Nat) : (t1 n).length = 73 + n := by simp [t1, rep, small_len]; omega
theorem t1_lines (n : Nat) : textLines (t1 n) = smallL ++ [rep n] := by
  have hsm : smallB = smallB.dropLast ++ [10] := by kernel_rfl
  have hd : splitGo smallB.dropLast [] = smallL := by kernel_rfl
  have e : t1 n = smallB.dropLast ++ 10 :: (rep n ++ 10 :: []) := by
    unfold t1
    rw [show smallB ++ rep n ++ [10] = (smallB.dropLast ++ [10]) ++ rep n ++ [10] by rw [← hsm]]
    simp
  have e2 : splitGo (t1 n) [] = smallL ++ [rep n] ++ [[]] := by
    rw [e, splitGo_app, hd, splitGo_app, splitGo_no (rep n) [] (fun c hc => by rw [(List.mem_replicate.1 hc).2]; decide), splitGo]
    simp
  unfold textLines
  dsimp only
  rw [e2, if_pos (by simp), List.dropLast_concat]
theorem rep_void (n : Nat) (hn : 0 < n) : void (rep n) = true := by
  obtain ⟨k, rfl⟩ : ∃ k, n = k + 1 := ⟨n - 1, by omega⟩
  have : rep (k + 1) = 35 :: rep k := rfl
  unfold void trimL
  rw [this, List.dropWhile_cons_of_neg (by decide)]
  rfl
theorem rep_scan (n : Nat) (hn : 0 < n) : Sp.scan (rep n) = none := by
  obtain ⟨k, rfl⟩ : ∃ k, n = k + 1 := ⟨n - 1, by omega⟩
  have : rep (k + 1) = 35 :: rep k := rfl
  rw [this, Sp.scan, scanGo]
  rfl
theorem t1_read (n : Nat) (hn : 0 < n) (h : 73 + n ≤ 65536) : Sp.read m0 (t1 n) = (⟨sF.name, sF.width, sF.decls⟩, 0, 0) := by
  rw [sp_read (by rw [t1_len]; exact h) (t1_lines n)]
  have hl : lines m0 ⟨[], 0, [], 0, 0⟩ (smallL ++ [rep n]) 0 = .ok sF := by
    rw [lines_app]
    have hs : lines m0 ⟨[], 0, [], 0, 0⟩ smallL 0 = .ok sF := small_lines
    rw [hs]
    simp only
    unfold Sp.line
    rw [rep_void n hn]
    rfl
  rw [hl]
  simp only
  rw [if_neg (by rw [sF_last]; decide)]
theorem t1_read_long (n : Nat) (h : 65536 < 73 + n) : Sp.read m0 (t1 n) = (noMd, 0, 2) := by
  unfold Sp.read
  rw [if_pos (by rw [t1_len]; exact h)]
theorem t1_scanC (n : Nat) (hn : n ≤ 70000) : ∀ l ∈ textLines (t1 n), ScanC l := fun l hl => by
  rw [t1_lines] at hl
  rcases List.mem_append.1 hl with hl | hl
  · have h1 := List.all_eq_true.1 small_ascii l hl
    have hb : smallL.all (fun l => decide (l.length ≤ 100)) = true := by kernel_rfl
    have h2 := List.all_eq_true.1 hb l hl
    simp only [decide_eq_true_eq] at h2
    exact scanC_ascii h1 (by omega)
  · obtain rfl : l = rep n := by simpa using hl
    refine scanC_ascii (List.all_eq_true.2 fun c hc => ?_) (by simp [rep]; omega)
    rw [(List.mem_replicate.1 hc).2]; decide
theorem t1_late (n : Nat) (hn : 0 < n) : ∀ l ∈ textLines (t1 n), ∀ ts, Sp.scan l = some ts → LateNums m0 ts := fun l hl => by
  rw [t1_lines] at hl
  rcases List.mem_append.1 hl with hl | hl
  · exact line_late (List.all_eq_true.1 small_late l hl)
  · obtain rfl : l = rep n := by simpa using hl
    intro ts hs
    rw [rep_scan n hn] at hs
    cases hs
/-! ### The deep text -/
def xs : Nat → Bs
  | 0 => [120]
  | d + 1 => [45, 40] ++ xs d ++ [41]
def tX : Tok := ⟨110, [120]⟩
def tMinus : Tok := ⟨45, [45]⟩
def tOpen : Tok := ⟨40, [40]⟩
def tShut : Tok := ⟨41, [41]⟩
def toks : Nat → List Tok
  | 0 => [tX]
  | d + 1 => tMinus :: tOpen :: (toks d ++ [tShut])
theorem scan_xs : ∀ (d : Nat) (rest : Bs) (kd : UInt8) (out : List Tok), scanGo (xs d ++ 41 :: rest) [] kd out = scanGo rest [] 110 (out ++ toks d ++ [tShut])
  | 0, rest, kd, out => by
    show scanGo (120 :: 41 :: rest) [] kd out = _
    rw [scanGo]
    show scanGo (41 :: rest) [120] 110 out = _
    rw [scanGo]
    show scanGo rest [] 110 (close [120] 110 out ++ [⟨41, [41]⟩]) = _
    rfl
  | d + 1, rest, kd, out => by
    have e : xs (d + 1) ++ 41 :: rest = 45 :: 40 :: (xs d ++ 41 :: (41 :: rest)) := by simp [xs]
    rw [e, scanGo]
    show scanGo (40 :: (xs d ++ 41 :: (41 :: rest))) [] kd (close [] kd out ++ [tMinus]) = _
    rw [scanGo]
    show scanGo (xs d ++ 41 :: (41 :: rest)) [] kd (close [] kd (close [] kd out ++ [tMinus]) ++ [tOpen]) = _
    rw [scan_xs d, scanGo]
    show scanGo rest [] 110 (close [] 110 (close [] kd (close [] kd out ++ [tMinus]) ++ [tOpen] ++ toks d ++ [tShut]) ++ [tShut]) = _
    have c0 : ∀ (k : UInt8) (o : List Tok), close [] k o = o := fun _ _ => rfl
    rw [c0, c0, c0]
    simp [toks]
def eX : Nat → Ex
  | 0 => .mk 2 0 [120] []
  | d + 1 => Sp.call [110, 101, 103] [eX d]
theorem eX_deep : ∀ d : Nat, deep (eX d) = d
  | 0 => by rw [eX, deep, if_neg (by decide)]; rfl
  | d + 1 => by
    rw [eX, deep_call]
    simp only [deepAll]
    rw [eX_deep d]
    omega
theorem exprOf_shut {f : RS → Option (Ex × RS)} {r : RS} {x : Ex} {ts : List Tok} {st : Int} (h : f r = some (x, ⟨tShut :: ts, st⟩)) : exprOf f r = some (x, ⟨tShut :: ts, st⟩) := by
  have h1 : chain [42, 47, 64] f r = some (x, ⟨tShut :: ts, st⟩) := by
    rw [chain, h]
    rfl
  rw [exprOf, chain, h1]
  rfl
theorem exprOf_end {f : RS → Option (Ex × RS)} {r : RS} {x : Ex} {st : Int} (h : f r = some (x, ⟨[], st⟩)) : exprOf f r = some (x, ⟨[], st⟩) := by
  have h1 : chain [42, 47, 64] f r = some (x, ⟨[], st⟩) := by
    rw [chain, h]
    rfl
  rw [exprOf, chain, h1]
  rfl
theorem factor_open {m : Nums} {w : Int} {n : Nat} {ts rest : List Tok} {x : Ex} {st : Int} (h : Sp.factor m w n ⟨ts, st⟩ = some (x, ⟨tShut :: rest, st⟩)) : Sp.factor m w (n + 1) ⟨tOpen :: ts, st⟩ = some (x, ⟨rest, st⟩) := by
  rw [Sp.factor, factorStep]
  show (match exprOf (Sp.factor m w n) ⟨ts, st⟩ with | none => none | some (x, r'') => match Sp.next 41 r'' with | none => none | some (_, r3) => some (x, r3)) = _
  rw [exprOf_shut h]
  rfl
theorem factor_x {m : Nums} {w : Int} : ∀ (d n : Nat) (rest : List Tok) (st : Int), 2 * d + 1 ≤ n → Sp.factor m w n ⟨toks d ++ rest, st⟩ = some (eX d, ⟨rest, st⟩)
  | 0, n, rest, st, hn => by
    obtain ⟨k, rfl⟩ : ∃ k, n = k + 1 := ⟨n - 1, by omega⟩
    rw [Sp.factor, factorStep]
    rfl
  | d + 1, n, rest, st, hn => by
    obtain ⟨k, rfl⟩ : ∃ k, n = k + 1 + 1 := ⟨n - 2, by omega⟩
    have ih := factor_x (m := m) (w := w) d k (tShut :: rest) st (by omega)
    have e : toks (d + 1) ++ rest = tMinus :: tOpen :: (toks d ++ tShut :: rest) := by simp [toks]
    rw [e, Sp.factor, factorStep]
    show (match Sp.factor m w (k + 1) ⟨tOpen :: (toks d ++ tShut :: rest), st⟩ with | none => none | some (x, r'') => some (Sp.call [110, 101, 103] [x], r'')) = _
    rw [factor_open ih]
    rfl
theorem toks_len : ∀ d : Nat, (toks d).length = 3 * d + 1
  | 0 => rfl
  | d + 1 => by simp [toks, toks_len d]; omega
theorem toks_kind : ∀ (d : Nat), (toks d).all (·.kind != 100) = true
  | 0 => rfl
  | d + 1 => by
    rw [toks, List.all_cons, List.all_cons, List.all_append, toks_kind d]
    rfl
/-- The deep line's words. -/
def ts4 (d : Nat) : List Tok := [⟨110, [108, 101, 116]⟩, ⟨110, [97]⟩, ⟨61, [61]⟩, tOpen, tOpen] ++ toks d ++ [tShut, tShut]
def l4 (d : Nat) : Bs := [108, 101, 116, 32, 97, 32, 61, 32, 40, 40] ++ xs d ++ [41, 41]
theorem l4_scan (d : Nat) : Sp.scan (l4 d) = some (ts4 d) := by
  have e : l4 d = 108 :: 101 :: 116 :: 32 :: 97 :: 32 :: 61 :: 32 :: 40 :: 40 :: (xs d ++ 41 :: [41]) := by simp [l4]
  rw [Sp.scan, e]
  show scanGo (xs d ++ 41 :: [41]) [] 110 [⟨110, [108, 101, 116]⟩, ⟨110, [97]⟩, ⟨61, [61]⟩, tOpen, tOpen] = _
  rw [scan_xs, scanGo]
  show scanGo [] [] 110 (([⟨110, [108, 101, 116]⟩, ⟨110, [97]⟩, ⟨61, [61]⟩, tOpen, tOpen] ++ toks d ++ [tShut]) ++ [tShut]) = _
  rw [scanGo]
  show some (([⟨110, [108, 101, 116]⟩, ⟨110, [97]⟩, ⟨61, [61]⟩, tOpen, tOpen] ++ toks d ++ [tShut]) ++ [tShut]) = _
  rw [List.append_assoc]
  rfl
theorem expr_4 (d : Nat) : Sp.expr m0 32 ⟨tOpen :: tOpen :: (toks d ++ [tShut, tShut]), 0⟩ = some (eX d, ⟨[], 0⟩) := by
  unfold Sp.expr
  refine exprOf_end ?_
  have hl : (tOpen :: tOpen :: (toks d ++ [tShut, tShut])).length + 1 = (3 * d + 4) + 1 + 1 := by simp [toks_len]
  show Sp.factor m0 32 ((tOpen :: tOpen :: (toks d ++ [tShut, tShut])).length + 1) _ = _
  rw [hl]
  exact factor_open (factor_open (factor_x d (3 * d + 4) [tShut, tShut] 0 (by omega)))
def d4 (d : Nat) : Dc := ⟨4, 0, [97], 0, 0, 0, 0, 0, eX d⟩
theorem dec4 (d : Nat) : Sp.decl m0 32 1 ⟨ts4 d, 0⟩ = if (64 : Int) < d then .error 2 else .ok (d4 d, ⟨[], 0⟩) := by
  have e : ts4 d = ⟨110, [108, 101, 116]⟩ :: ⟨110, [97]⟩ :: ⟨61, [61]⟩ :: tOpen :: tOpen :: (toks d ++ [tShut, tShut]) := by simp [ts4]
  have hr : Sp.rest m0 32 4 [97] ⟨⟨61, [61]⟩ :: tOpen :: tOpen :: (toks d ++ [tShut, tShut]), 0⟩ = some (d4 d, ⟨[], 0⟩) := by
    unfold Sp.rest
    rw [if_neg (by decide), if_pos rfl]
    show (match Sp.expr m0 32 ⟨tOpen :: tOpen :: (toks d ++ [tShut, tShut]), 0⟩ with | none => none | some (x, r2) => some ((⟨4, 0, [97], 0, 0, 0, 0, 0, x⟩ : Dc), r2)) = _
    rw [expr_4]
    rfl
  rw [e]
  unfold Sp.decl
  show (if kindOf [108, 101, 116] = 0 ∨ behind (kindOf [108, 101, 116]) 1 = false then Except.error 70 else match Sp.rest m0 32 4 [97] ⟨⟨61, [61]⟩ :: tOpen :: tOpen :: (toks d ++ [tShut, tShut]), 0⟩ with
      | none => Except.error 70
      | some (d, r3) => if r3.ts ≠ [] then Except.error 70 else if 64 < deep d.expr then Except.error 2 else if r3.stop ≠ 0 then Except.error r3.stop else Except.ok (d, r3)) = _
  rw [if_neg (by decide), hr]
  simp only
  rw [if_neg (by simp)]
  show (if 64 < deep (eX d) then _ else _) = _
  rw [eX_deep]
  split
  · rfl
  · rw [if_neg (by simp)]
def pre3 : List Bs := [[109, 111, 100, 101, 108, 32, 109], [119, 105, 100, 116, 104, 32, 51, 50], [105, 110, 112, 117, 116, 32, 120, 32, 49, 32, 49]]
def l5 : Bs := [111, 117, 116, 32, 97]
def headB : Bs := [109, 111, 100, 101, 108, 32, 109, 10, 119, 105, 100, 116, 104, 32, 51, 50, 10, 105, 110, 112, 117, 116, 32, 120, 32, 49, 32, 49, 10, 108, 101, 116, 32, 97, 32, 61, 32, 40, 40]
def tailB : Bs := [41, 41, 10, 111, 117, 116, 32, 97, 10]
def t2 (d : Nat) : Bs := headB ++ xs d ++ tailB
theorem xs_len : ∀ d : Nat, (xs d).length = 3 * d + 1
  | 0 => rfl
  | d + 1 => by simp [xs, xs_len d]; omega
theorem xs_bytes : ∀ (d : Nat), (xs d).all (fun c => decide (c.toNat < 128) && c != 10) = true
  | 0 => rfl
  | d + 1 => by
    rw [xs, List.all_append, List.all_append, xs_bytes d]
    rfl
theorem t2_len (d : Nat) : (t2 d).length = 3 * d + 49 := by
  have h1 : headB.length = 39 := by kernel_rfl
  have h2 : tailB.length = 9 := by kernel_rfl
  simp [t2, xs_len, h1, h2]; omega
theorem t2_lines (d : Nat) : textLines (t2 d) = pre3 ++ [l4 d] ++ [l5] := by
  have hh : headB = [109, 111, 100, 101, 108, 32, 109, 10, 119, 105, 100, 116, 104, 32, 51, 50, 10, 105, 110, 112, 117, 116, 32, 120, 32, 49, 32, 49] ++ 10 :: [108, 101, 116, 32, 97, 32, 61, 32, 40, 40] := by kernel_rfl
  have e : t2 d = [109, 111, 100, 101, 108, 32, 109, 10, 119, 105, 100, 116, 104, 32, 51, 50, 10, 105, 110, 112, 117, 116, 32, 120, 32, 49, 32, 49] ++ 10 :: (l4 d ++ 10 :: (l5 ++ 10 :: [])) := by
    unfold t2
    rw [hh]
    simp [l4, l5, tailB]
  have h3 : splitGo [109, 111, 100, 101, 108, 32, 109, 10, 119, 105, 100, 116, 104, 32, 51, 50, 10, 105, 110, 112, 117, 116, 32, 120, 32, 49, 32, 49] [] = pre3 := by kernel_rfl
  have hno : ∀ c ∈ l4 d, c ≠ 10 := fun c hc => by
    unfold l4 at hc
    rcases List.mem_append.1 hc with hc | hc
    · rcases List.mem_append.1 hc with hc | hc
      · intro e; subst e; revert hc; decide
      · have := List.all_eq_true.1 (xs_bytes d) c hc
        simp at this
        exact this.2
    · intro e; subst e; revert hc; decide
  have e2 : splitGo (t2 d) [] = pre3 ++ [l4 d] ++ [l5] ++ [[]] := by
    rw [e, splitGo_app, h3, splitGo_app, splitGo_no (l4 d) [] hno, splitGo_app]
    simp [splitGo, l5]
  unfold textLines
  dsimp only
  rw [e2, if_pos (by simp), List.dropLast_concat]
def s3 : St := okSt (lines m0 s00 pre3 0)
theorem s3_ok : isOk (lines m0 s00 pre3 0) = true := by kernel_rfl
theorem s3_lines : lines m0 s00 pre3 0 = .ok s3 := by
  have h := s3_ok
  unfold s3
  cases hl : lines m0 s00 pre3 0 with
  | ok s => rfl
  | error e => rw [hl] at h; cases h
theorem s3_seen : s3.seen = 3 := by kernel_rfl
theorem s3_width : s3.width = 32 := by kernel_rfl
theorem s3_last : s3.last = 1 := by kernel_rfl
theorem s3_len : s3.decls.length = 1 := by kernel_rfl
theorem l4_void (d : Nat) : void (l4 d) = false := by
  have e : l4 d = 108 :: ([101, 116, 32, 97, 32, 61, 32, 40, 40] ++ xs d ++ [41, 41]) := rfl
  unfold void trimL
  rw [e, List.dropWhile_cons_of_neg (by decide)]
  rfl
theorem line_4 (d : Nat) (i : Int) : Sp.line m0 s3 (l4 d) i = if (64 : Int) < d then .error 2 else .ok { s3 with seen := s3.seen + 1, last := 4, decls := s3.decls ++ [{ d4 d with line := i }] } := by
  unfold Sp.line
  rw [l4_void, l4_scan]
  show lineToks m0 s3 (ts4 d) i = _
  rw [lineToks_3 m0 s3 (ts4 d) i (by rw [s3_seen]; decide), s3_width, s3_last, dec4]
  by_cases h : (64 : Int) < d
  · rw [if_pos h, if_pos h]
  · rw [if_neg h, if_neg h]
    simp [d4, s3_width]
def ts5 : List Tok := [⟨110, [111, 117, 116]⟩, ⟨110, [97]⟩]
theorem l5_scan : Sp.scan l5 = some ts5 := rfl
def d5 : Dc := ⟨5, 0, [97], 0, 0, 0, 0, 0, Sp.nil⟩
theorem dec5 : Sp.decl m0 32 4 ⟨ts5, 0⟩ = .ok (d5, ⟨[], 0⟩) := by
  have hr : Sp.rest m0 32 5 [97] ⟨[], 0⟩ = some (d5, ⟨[], 0⟩) := rfl
  unfold Sp.decl
  show (if kindOf [111, 117, 116] = 0 ∨ behind (kindOf [111, 117, 116]) 4 = false then Except.error 70 else match Sp.rest m0 32 5 [97] ⟨[], 0⟩ with
      | none => Except.error 70
      | some (d, r3) => if r3.ts ≠ [] then Except.error 70 else if 64 < deep d.expr then Except.error 2 else if r3.stop ≠ 0 then Except.error r3.stop else Except.ok (d, r3)) = _
  have hd : deep d5.expr = 0 := by show deep Sp.nil = 0; rw [Sp.nil, deep, if_neg (by decide)]; rfl
  rw [if_neg (by decide), hr]
  simp only
  rw [if_neg (by simp), hd, if_neg (by decide), if_neg (by simp)]
theorem line_5 (s : St) (h1 : s.width = 32) (h2 : s.last = 4) (h3 : 2 ≤ s.seen) (i : Int) : Sp.line m0 s l5 i = .ok { s with seen := s.seen + 1, last := 5, decls := s.decls ++ [{ d5 with line := i }] } := by
  unfold Sp.line
  have hv : void l5 = false := rfl
  rw [hv, l5_scan]
  show lineToks m0 s ts5 i = _
  rw [lineToks_3 m0 s ts5 i h3, h1, h2, dec5]
  rfl
/-- Too deep. -/
theorem t2_read_deep (d : Nat) (hd : 64 < d) (hd2 : d ≤ 200) : Sp.read m0 (t2 d) = (noMd, 4, 2) := by
  rw [sp_read (by rw [t2_len]; omega) (t2_lines d)]
  have hl : lines m0 ⟨[], 0, [], 0, 0⟩ (pre3 ++ [l4 d] ++ [l5]) 0 = .error (2, 4) := by
    rw [lines_app, lines_app]
    have hs : lines m0 ⟨[], 0, [], 0, 0⟩ pre3 0 = .ok s3 := s3_lines
    rw [hs]
    simp only
    rw [line_4, if_pos (by omega)]
    rfl
  rw [hl]
/-- Deep enough. -/
theorem t2_read_ok (d : Nat) (hd : d ≤ 64) : ∃ md, Sp.read m0 (t2 d) = (md, 0, 0) ∧ md.decls.length = 3 := by
  rw [sp_read (by rw [t2_len]; omega) (t2_lines d)]
  have hl : ∃ s, lines m0 ⟨[], 0, [], 0, 0⟩ (pre3 ++ [l4 d] ++ [l5]) 0 = .ok s ∧ s.last = 5 ∧ s.decls.length = 3 := by
    rw [lines_app, lines_app]
    have hs : lines m0 ⟨[], 0, [], 0, 0⟩ pre3 0 = .ok s3 := s3_lines
    rw [hs]
    simp only
    rw [line_4, if_neg (by omega)]
    simp only
    rw [line_5 _ (by exact s3_width) rfl (by show 2 ≤ s3.seen + 1; rw [s3_seen]; decide)]
    exact ⟨_, rfl, rfl, by simp [s3_len]⟩
  obtain ⟨s, hs, h5, hn⟩ := hl
  rw [hs]
  simp only
  rw [if_neg (by omega)]
  exact ⟨_, rfl, hn⟩
theorem l4_ascii (d : Nat) : ascii (l4 d) = true := by
  unfold ascii l4
  rw [List.all_append, List.all_append]
  have : (xs d).all (fun c => decide (c.toNat < 128)) = true := List.all_eq_true.2 fun c hc => by
    have := List.all_eq_true.1 (xs_bytes d) c hc
    simp at this
    simpa using this.1
  rw [this]
  rfl
theorem t2_mem {d : Nat} {l : Bs} (h : l ∈ textLines (t2 d)) : l ∈ pre3 ∨ l = l4 d ∨ l = l5 := by
  rw [t2_lines] at h
  rcases List.mem_append.1 h with h | h
  · rcases List.mem_append.1 h with h | h
    · exact .inl h
    · exact .inr (.inl (by simpa using h))
  · exact .inr (.inr (by simpa using h))
theorem t2_scanC (d : Nat) (hd : d ≤ 200) : ∀ l ∈ textLines (t2 d), ScanC l := fun l hl => by
  have hlen := textLines_mem hl
  rw [t2_len] at hlen
  rcases t2_mem hl with h | rfl | rfl
  · have h3 : pre3.all ascii = true := by kernel_rfl
    exact scanC_ascii (List.all_eq_true.1 h3 l h) (by omega)
  · exact scanC_ascii (l4_ascii d) (by omega)
  · exact scanC_ascii rfl (by decide)
theorem t2_late (d : Nat) : ∀ l ∈ textLines (t2 d), ∀ ts, Sp.scan l = some ts → LateNums m0 ts := fun l hl => by
  rcases t2_mem hl with h | rfl | rfl
  · have h3 : pre3.all lineLate = true := by kernel_rfl
    exact line_late (List.all_eq_true.1 h3 l h)
  · intro ts hs
    rw [l4_scan] at hs
    injection hs with hs
    subst hs
    refine late_ok ?_
    have e : ts4 d = ⟨110, [108, 101, 116]⟩ :: ⟨110, [97]⟩ :: ⟨61, [61]⟩ :: tOpen :: tOpen :: (toks d ++ [tShut, tShut]) := by simp [ts4]
    rw [e]
    show ((kindOf [108, 101, 116] != 4 || (tOpen :: tOpen :: (toks d ++ [tShut, tShut])).all (·.kind != 100)) && (kindOf [108, 101, 116] != 3 || _)) = true
    rw [List.all_cons, List.all_cons, List.all_append, toks_kind d]
    rfl
  · exact line_late (by kernel_rfl)
end Go.Proofs.YtdkhedefcmjjgaaGreatDoor
