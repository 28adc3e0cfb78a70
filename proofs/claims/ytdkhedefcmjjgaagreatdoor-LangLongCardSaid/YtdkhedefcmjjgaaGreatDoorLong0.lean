/- What Read tells of LangLong's texts, in plain words.
Conditions: none. -/
import Derived.Test.YtdkhedefcmjjgaaGreatDoorRead
import Derived.KernelRfl
namespace Go.Proofs.YtdkhedefcmjjgaaGreatDoor
open Go.RowKit Sp
set_option linter.unusedVariables false
set_option linter.unusedSimpArgs false
def m0 : Nums := ⟨wholeF, fun _ _ => (0, false), fun _ _ => 0, fun _ => 0⟩
def smallB : Bs := [109, 111, 100, 101, 108, 32, 109, 10, 119, 105, 100, 116, 104, 32, 54, 52, 10, 105, 110, 112, 117, 116, 32, 120, 32, 49, 32, 50, 10, 112, 97, 114, 97, 109, 32, 119, 32, 50, 32, 49, 32, 122, 101, 114, 111, 10, 108, 101, 116, 32, 104, 32, 61, 32, 116, 97, 110, 104, 40, 120, 32, 64, 32, 119, 41, 10, 111, 117, 116, 32, 104, 10]
def smallL : List Bs := [[109, 111, 100, 101, 108, 32, 109], [119, 105, 100, 116, 104, 32, 54, 52], [105, 110, 112, 117, 116, 32, 120, 32, 49, 32, 50], [112, 97, 114, 97, 109, 32, 119, 32, 50, 32, 49, 32, 122, 101, 114, 111], [108, 101, 116, 32, 104, 32, 61, 32, 116, 97, 110, 104, 40, 120, 32, 64, 32, 119, 41], [111, 117, 116, 32, 104]]
theorem small_len : smallB.length = 72 := by kernel_rfl
theorem small_split : splitGo smallB [] = smallL ++ [[]] := by kernel_rfl
/-- No numbers among the words whose numbers a line reads late. -/
def lateOk (ts : List Tok) : Bool := match ts with
  | [] => true
  | t :: _ => (kindOf t.text != 4 || (ts.drop 3).all (·.kind != 100)) && (kindOf t.text != 3 || (ts.drop 4).all (·.kind != 100))
theorem nums_none {m : Nums} {ts : List Tok} (h : ts.all (·.kind != 100) = true) : NumsAt m ts := fun t ht hk => by
  have := List.all_eq_true.1 h t ht
  rw [hk] at this
  cases this
theorem late_ok {m : Nums} {ts : List Tok} (h : lateOk ts = true) : LateNums m ts := by
  intro t l e
  subst e
  simp only [lateOk, Bool.and_eq_true, Bool.or_eq_true, bne_iff_ne] at h
  exact ⟨fun hk => nums_none (h.1.resolve_left (fun f => f hk)), fun hk => nums_none (h.2.resolve_left (fun f => f hk))⟩
def lineLate (l : Bs) : Bool := match Sp.scan l with | none => true | some ts => lateOk ts
theorem line_late {m : Nums} {l : Bs} (h : lineLate l = true) : ∀ ts, Sp.scan l = some ts → LateNums m ts := fun ts hs => by
  unfold lineLate at h
  rw [hs] at h
  exact late_ok h
def ascii (l : Bs) : Bool := l.all fun c => decide (c.toNat < 128)
theorem scanC_ascii {l : Bs} (h : ascii l = true) (hl : l.length ≤ 1000000) : ScanC l := by
  intro W hW
  have := scan_any (bstr l) (by rw [bstr_size]; exact hl) W (fun i hi => by
    have hm := List.all_eq_true.1 h ((bstr l)[i]) (by
      have : (bstr l)[i] = l[i]'(by rw [bstr_size] at hi; exact hi) := rfl
      rw [this]; exact List.getElem_mem _)
    simpa using hm)
  rw [bstr_data] at this
  exact this
theorem small_late : smallL.all lineLate = true := by kernel_rfl
theorem small_ascii : smallL.all ascii = true := by kernel_rfl
def s00 : St := ⟨[], 0, [], 0, 0⟩
def okSt : Except (Int × Int) St → St
  | .ok s => s
  | .error _ => s00
def sF : St := okSt (lines m0 s00 smallL 0)
def isOk : Except (Int × Int) St → Bool
  | .ok _ => true
  | .error _ => false
theorem small_ok : isOk (lines m0 s00 smallL 0) = true := by kernel_rfl
theorem small_lines : lines m0 s00 smallL 0 = .ok sF := by
  have h := small_ok
  unfold sF
  cases hl : lines m0 s00 smallL 0 with
  | ok s => rfl
  | error e => rw [hl] at h; cases h
theorem sF_last : sF.last = 5 := by kernel_rfl
theorem sF_len : sF.decls.length = 4 := by kernel_rfl
theorem sF_name : sF.name = [109] := by kernel_rfl
theorem sF_width : sF.width = 64 := by kernel_rfl
def exName : Ex → Bs
  | .mk _ _ n _ => n
theorem sF_tanh : (sF.decls.map (fun d => exName d.expr))[2]? = some [116, 97, 110, 104] := by kernel_rfl
theorem small_text : textLines smallB = smallL := by kernel_rfl
theorem small_read : Sp.read m0 smallB = (⟨sF.name, sF.width, sF.decls⟩, 0, 0) := by
  rw [sp_read (by rw [small_len]; decide) small_text]
  show (match lines m0 s00 smallL 0 with | .error (e, n) => (noMd, n, e) | .ok s => if s.last < 5 then (noMd, (smallL.length : Int) + 1, 70) else (⟨s.name, s.width, s.decls⟩, 0, 0)) = _
  rw [small_lines]
  simp only
  rw [if_neg (by rw [sF_last]; decide)]
end Go.Proofs.YtdkhedefcmjjgaaGreatDoor
