/- The plain law of LangBlank: blanks more between words, lines that mean nothing, a last line without its end: what Read tells is the same, but for lines' numbers.
Conditions: none; plain Lean. -/
import Derived.Test.YtdkhedefcmjjgaaGreatDoorMSpec
import Derived.Test.YtdkhedefcmjjgaaGreatDoorMNb
import Derived.Test.YtdkhedefcmjjgaaGreatDoorMRn
import Derived.Test.YtdkhedefcmjjgaaGreatDoorMSame0
namespace Go.Proofs.YtdkhedefcmjjgaaGreatDoor
open Sp
set_option linter.unusedVariables false
set_option linter.unusedSimpArgs false
/-- A text with more blanks. -/
def widen : Bs → Bs
  | [] => []
  | c :: l => (if c = 32 then [32, 9, 32] else [c]) ++ widen l
/-- What stands ahead of it. -/
def headW : Bs := [35, 32, 119, 111, 114, 100, 115, 10, 10, 32, 9, 10]
theorem widen_app : ∀ a b : Bs, widen (a ++ b) = widen a ++ widen b
  | [], b => rfl
  | c :: a, b => by rw [List.cons_append, widen, widen_app a b, widen, List.append_assoc]
theorem widen_len : ∀ l : Bs, (widen l).length ≤ 3 * l.length
  | [] => by simp [widen]
  | c :: l => by
    have := widen_len l
    rw [widen, List.length_append, List.length_cons]
    split <;> simp <;> omega
theorem close_nil (k : UInt8) (out : List Tok) : close [] k out = out := rfl
theorem scanGo_wide : ∀ (l cur : Bs) (k : UInt8) (out : List Tok), scanGo (widen l) cur k out = scanGo l cur k out
  | [], cur, k, out => rfl
  | c :: l, cur, k, out => by
    by_cases h : c = 32
    · subst h
      rw [widen, if_pos rfl]
      have e : ∀ (r cur : Bs) (out : List Tok), scanGo (32 :: r) cur k out = scanGo r [] k (close cur k out) := fun r cur out => by
        rw [scanGo, if_neg (by decide)]
        simp
      have e9 : ∀ (r cur : Bs) (out : List Tok), scanGo (9 :: r) cur k out = scanGo r [] k (close cur k out) := fun r cur out => by
        rw [scanGo, if_neg (by decide)]
        simp
      show scanGo (32 :: 9 :: 32 :: widen l) cur k out = _
      rw [e, e9, e, e, close_nil, close_nil, scanGo_wide l]
    · rw [widen, if_neg h]
      show scanGo (c :: widen l) cur k out = _
      rw [scanGo, scanGo]
      simp only [scanGo_wide l]
theorem scan_wide (l : Bs) : scan (widen l) = scan l := scanGo_wide l [] 0 []
theorem trimL_wide : ∀ l : Bs, trimL (widen l) = widen (trimL l)
  | [] => rfl
  | c :: l => by
    by_cases h : c = 32
    · subst h
      rw [widen, if_pos rfl]
      show trimL (32 :: 9 :: 32 :: widen l) = widen (trimL (32 :: l))
      have e : ∀ r : Bs, trimL (32 :: r) = trimL r := fun r => by unfold trimL; rw [List.dropWhile_cons, if_pos (by decide)]
      have e9 : ∀ r : Bs, trimL (9 :: r) = trimL r := fun r => by unfold trimL; rw [List.dropWhile_cons, if_pos (by decide)]
      rw [e, e9, e, e, trimL_wide l]
    · rw [widen, if_neg h]
      show trimL (c :: widen l) = widen (trimL (c :: l))
      unfold trimL
      rw [List.dropWhile_cons, List.dropWhile_cons]
      split
      · exact trimL_wide l
      · rw [widen, if_neg h]; rfl
theorem trimL_head : ∀ (l : Bs) (c : UInt8) (r : Bs), trimL l = c :: r → c ≠ 32
  | [], c, r, h => by cases h
  | d :: l, c, r, h => by
    unfold trimL at h
    rw [List.dropWhile_cons] at h
    split at h
    · exact trimL_head l c r h
    · rename_i hd
      cases h
      intro e
      subst e
      exact hd rfl
theorem void_wide (l : Bs) : void (widen l) = void l := by
  unfold void
  rw [trimL_wide]
  cases h : trimL l with
  | nil => rfl
  | cons c r =>
    rw [widen, if_neg (trimL_head l c r h)]
    rfl
theorem splitGo_wide : ∀ l cur : Bs, splitGo (widen l) (widen cur) = (splitGo l cur).map widen
  | [], cur => rfl
  | c :: l, cur => by
    by_cases h : c = 32
    · subst h
      rw [widen, if_pos rfl]
      show splitGo (32 :: 9 :: 32 :: widen l) (widen cur) = _
      have e := splitGo_wide l (cur ++ [32])
      rw [widen_app] at e
      simp only [splitGo]
      rw [if_neg (by decide), if_neg (by decide), if_neg (by decide), if_neg (by decide), ← e]
      simp [widen]
    · rw [widen, if_neg h]
      show splitGo (c :: widen l) (widen cur) = _
      simp only [splitGo]
      split
      · rw [List.map_cons]
        have e := splitGo_wide l []
        rw [show widen [] = [] from rfl] at e
        rw [e]
      · have e := splitGo_wide l (cur ++ [c])
        rw [widen_app, show widen [c] = [c] by simp [widen, h]] at e
        exact e
theorem splitGo_ne : ∀ l cur : Bs, splitGo l cur ≠ []
  | [], cur => by simp [splitGo]
  | c :: l, cur => by
    rw [splitGo]
    split
    · simp
    · exact splitGo_ne l _
theorem widen_nil {l : Bs} (h : widen l = []) : l = [] := by
  cases l with
  | nil => rfl
  | cons c l =>
    rw [widen] at h
    split at h <;> simp at h
theorem textLines_wide (t : Bs) : textLines (widen t) = (textLines t).map widen := by
  unfold textLines
  have e := splitGo_wide t []
  rw [show widen [] = [] from rfl] at e
  rw [e]
  dsimp only
  rw [List.getLast?_map]
  by_cases h : (splitGo t []).getLast? = some []
  · rw [if_pos h, if_pos (by rw [h]; rfl), List.map_dropLast]
  · rw [if_neg h, if_neg]
    intro hh
    obtain ⟨x, hx, hx2⟩ := Option.map_eq_some_iff.1 hh
    exact h (by rw [hx, widen_nil hx2])
theorem splitGo_at : ∀ (a b cur : Bs), splitGo (a ++ 10 :: b) cur = splitGo a cur ++ splitGo b []
  | [], b, cur => by simp [splitGo]
  | c :: a, b, cur => by
    rw [List.cons_append, splitGo, splitGo]
    split
    · rw [splitGo_at a b []]; rfl
    · exact splitGo_at a b _
def headL : List Bs := [[35, 32, 119, 111, 114, 100, 115], [], [32, 9]]
theorem textLines_head (t : Bs) : textLines (headW ++ t) = headL ++ textLines t := by
  have e : splitGo (headW ++ t) [] = headL ++ splitGo t [] := by
    show splitGo ([35, 32, 119, 111, 114, 100, 115] ++ 10 :: ([] ++ 10 :: ([32, 9] ++ 10 :: t))) [] = _
    rw [splitGo_at, splitGo_at, splitGo_at]
    rfl
  have hn := splitGo_ne t []
  unfold textLines
  rw [e]
  dsimp only
  have hg : (headL ++ splitGo t []).getLast? = (splitGo t []).getLast? := by
    rw [List.getLast?_append]
    cases hz : (splitGo t []).getLast? with
    | none => exact absurd (List.getLast?_eq_none_iff.1 hz) hn
    | some x => rfl
  rw [hg, List.dropLast_append_of_ne_nil hn]
  split <;> rfl
/-- A declaration without its line. -/
def noLine (d : Dc) : Dc := { d with line := 0 }
/-- Two texts on their way, the same but for lines. -/
structure SimSt (s s' : St) : Prop where
  name : s'.name = s.name
  width : s'.width = s.width
  seen : s'.seen = s.seen
  last : s'.last = s.last
  decls : s'.decls.map noLine = s.decls.map noLine
theorem SimSt.refl (s : St) : SimSt s s := ⟨rfl, rfl, rfl, rfl, rfl⟩
/-- The same error, or the same but for lines. -/
def SimR : Except Int St → Except Int St → Prop
  | .error e, .error e' => e' = e
  | .ok s, .ok s' => SimSt s s'
  | _, _ => False
theorem lineToks_sim (m : Nums) {s s' : St} (h : SimSt s s') (ts : List Tok) (n n' : Int) : SimR (lineToks m s ts n) (lineToks m s' ts n') := by
  unfold lineToks
  rw [h.seen, h.width, h.last]
  split
  · split
    · exact rfl
    · split
      · exact rfl
      · split
        · exact rfl
        · split
          · exact rfl
          · exact ⟨rfl, rfl, rfl, rfl, h.decls⟩
  · split
    · split
      · exact rfl
      · split
        · exact rfl
        · split
          · exact rfl
          · split
            · exact rfl
            · split
              · exact rfl
              · exact ⟨h.name, rfl, rfl, rfl, h.decls⟩
    · split
      · exact rfl
      · refine ⟨h.name, rfl, rfl, rfl, ?_⟩
        simp only [List.map_append, h.decls]
        rfl
theorem line_sim (m : Nums) {s s' : St} (h : SimSt s s') (l : Bs) (n n' : Int) : SimR (line m s l n) (line m s' (widen l) n') := by
  unfold line
  rw [void_wide, scan_wide]
  split
  · exact h
  · split
    · exact rfl
    · exact lineToks_sim m h _ n n'
/-- The same error, whatever the line, or the same but for lines. -/
def SimL : Except (Int × Int) St → Except (Int × Int) St → Prop
  | .error e, .error e' => e'.1 = e.1
  | .ok s, .ok s' => SimSt s s'
  | _, _ => False
theorem lines_sim (m : Nums) : ∀ (L : List Bs) {s s' : St} (h : SimSt s s') (i i' : Nat), SimL (lines m s L i) (lines m s' (L.map widen) i')
  | [], s, s', h, i, i' => h
  | l :: L, s, s', h, i, i' => by
    have hl := line_sim m h l ((i : Int) + 1) ((i' : Int) + 1)
    rw [List.map_cons, lines, lines]
    cases h1 : line m s l ((i : Int) + 1) with
    | error e =>
      rw [h1] at hl
      cases h2 : line m s' (widen l) ((i' : Int) + 1) with
      | error e' => rw [h2] at hl; exact hl
      | ok t' => rw [h2] at hl; exact hl.elim
    | ok t =>
      rw [h1] at hl
      cases h2 : line m s' (widen l) ((i' : Int) + 1) with
      | error e' => rw [h2] at hl; exact hl.elim
      | ok t' =>
        rw [h2] at hl
        exact lines_sim m L hl (i + 1) (i' + 1)
theorem lines_headL (m : Nums) (L : List Bs) (s : St) (i : Nat) : lines m s (headL ++ L) i = lines m s L (i + 3) := by
  have v : ∀ (l : Bs) (r : List Bs) (i : Nat), void l = true → lines m s (l :: r) i = lines m s r (i + 1) := fun l r i h => by
    rw [lines, line, if_pos h]
  show lines m s ([35, 32, 119, 111, 114, 100, 115] :: [] :: [32, 9] :: L) i = _
  rw [v _ _ _ (by decide), v _ _ _ (by decide), v _ _ _ (by decide)]
/-- Two models, the same but for lines. -/
structure SimMd (a b : Md) : Prop where
  name : b.name = a.name
  width : b.width = a.width
  decls : b.decls.map noLine = a.decls.map noLine
theorem SimMd.refl (a : Md) : SimMd a a := ⟨rfl, rfl, rfl⟩
theorem head_len : headW.length = 12 := rfl
theorem read_wide (m : Nums) (t : Bs) (ht : t.length ≤ 3000) : (Sp.read m (headW ++ widen t)).2.2 = (Sp.read m t).2.2 ∧ SimMd (Sp.read m t).1 (Sp.read m (headW ++ widen t)).1 := by
  have hw := widen_len t
  unfold Sp.read
  have hl : (headW ++ widen t).length ≤ 65536 := by rw [List.length_append, head_len]; omega
  rw [if_neg (Nat.not_lt.2 hl), if_neg (show ¬ 65536 < t.length by omega), textLines_head, textLines_wide]
  have hs := lines_sim m (textLines t) (SimSt.refl ⟨[], 0, [], 0, 0⟩) 0 (0 + 3)
  rw [lines_headL]
  cases h1 : lines m ⟨[], 0, [], 0, 0⟩ (textLines t) 0 with
  | error e =>
    rw [h1] at hs
    cases h2 : lines m ⟨[], 0, [], 0, 0⟩ ((textLines t).map widen) (0 + 3) with
    | error e' => rw [h2] at hs; exact ⟨hs, SimMd.refl _⟩
    | ok s' => rw [h2] at hs; exact hs.elim
  | ok s =>
    rw [h1] at hs
    cases h2 : lines m ⟨[], 0, [], 0, 0⟩ ((textLines t).map widen) (0 + 3) with
    | error e' => rw [h2] at hs; exact hs.elim
    | ok s' =>
      rw [h2] at hs
      have hs' : SimSt s s' := hs
      dsimp only
      rw [hs'.last]
      split
      · exact ⟨rfl, SimMd.refl _⟩
      · exact ⟨rfl, ⟨hs'.name, hs'.width, hs'.decls⟩⟩
theorem splitGo_last : ∀ (u : Bs) (c : UInt8) (cur : Bs), c ≠ 10 → (splitGo (u ++ [c]) cur).getLast? ≠ some []
  | [], c, cur, h => by
    rw [List.nil_append, splitGo, if_neg h, splitGo]
    simp
  | d :: u, c, cur, h => by
    rw [List.cons_append, splitGo]
    split
    · have hn := splitGo_ne (u ++ [c]) []
      have := splitGo_last u c [] h
      cases hz : splitGo (u ++ [c]) [] with
      | nil => exact absurd hz hn
      | cons x y =>
        rw [hz] at this
        rw [List.getLast?_cons_cons]
        exact this
    · exact splitGo_last u c _ h
/-- A last line's end may be left off. -/
theorem textLines_end (u : Bs) (c : UInt8) (h : c ≠ 10) : textLines (u ++ [c] ++ [10]) = textLines (u ++ [c]) := by
  unfold textLines
  rw [splitGo_at, show splitGo [] [] = [[]] from rfl]
  dsimp only
  rw [if_pos (by simp), if_neg (splitGo_last u c [] h)]
  simp
theorem read_end' (m : Nums) (u : Bs) (c : UInt8) (h : c ≠ 10) (hl : u.length ≤ 3000) : Sp.read m (u ++ [c] ++ [10]) = Sp.read m (u ++ [c]) := by
  unfold Sp.read
  rw [if_neg (by simp; omega), if_neg (by simp; omega), textLines_end u c h]
end Go.Proofs.YtdkhedefcmjjgaaGreatDoor
/- Read at any text of LangBlank's; two models that are the same but for lines.
Conditions: the text is short. -/
namespace Go.Proofs.YtdkhedefcmjjgaaGreatDoor
open Go.RowKit Sp
set_option linter.unusedVariables false
set_option linter.unusedSimpArgs false
theorem scanC_all {l : Bs} (hl : l.length ≤ 1000000) : ScanC l := by
  intro W hW
  have := scan_all (bstr l) (by rw [bstr_size]; exact hl) W
  rw [bstr_data] at this
  exact this
theorem read_bl {m : Nums} (hw : ∀ s, m.whole s = wholeF s) (hn : ∀ s : Bs, ascii s = true → s.length ≤ 70000 → NumAt m s) (t : Bs) (ht : t.length ≤ 65536) (W : World) (hE : Env W) : Calls Tryz.prog 6 #[.string (bstr t)] W (ReadPost m t W) :=
  read_short m hw t W ht hE (fun l hl => scanC_all (by have := textLines_mem hl; omega)) (fun l hl ts hts => late_all hn (by have := textLines_mem hl; omega) hts)
theorem sim_same {a b : Md} (h : SimMd a b) : b.decls.length = a.decls.length ∧ ∀ (i : Nat) (d d' : Dc), a.decls[i]? = some d → b.decls[i]? = some d' → SameD false d d' := by
  have hl : b.decls.length = a.decls.length := by
    have := congrArg List.length h.decls
    simpa using this
  refine ⟨hl, fun i d d' h1 h2 => ⟨?_, fun e => by cases e⟩⟩
  have e1 : (a.decls.map noLine)[i]? = some (noLine d) := by rw [List.getElem?_map, h1]; rfl
  have e2 : (b.decls.map noLine)[i]? = some (noLine d') := by rw [List.getElem?_map, h2]; rfl
  rw [h.decls, e1] at e2
  have e3 : noLine d = noLine d' := Option.some.inj e2
  cases d
  cases d'
  simp only [noLine, Dc.mk.injEq] at e3
  obtain ⟨rfl, _, rfl, rfl, rfl, rfl, rfl, rfl, rfl⟩ := e3
  rfl
theorem same_same (a : Md) : ∀ (i : Nat) (d d' : Dc), a.decls[i]? = some d → a.decls[i]? = some d' → SameD true d d' := fun i d d' h1 h2 => by
  rw [h1] at h2
  cases h2
  exact ⟨rfl, fun _ => rfl⟩
end Go.Proofs.YtdkhedefcmjjgaaGreatDoor
