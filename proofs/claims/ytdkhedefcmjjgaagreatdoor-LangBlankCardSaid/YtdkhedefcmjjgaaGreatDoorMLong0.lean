/- What Read tells of LangLong's texts, in plain words.
Conditions: none. -/
import Derived.Test.YtdkhedefcmjjgaaGreatDoorMRead
import Derived.KernelRfl
import Derived.Test.YtdkhedefcmjjgaaGreatDoorMNumE
namespace Go.Proofs.YtdkhedefcmjjgaaGreatDoor
open Go.RowKit Sp
set_option linter.unusedVariables false
set_option linter.unusedSimpArgs false
def m0 : Nums := ⟨wholeF, fun _ _ => (0, false), fun _ _ => 0, fun _ => 0⟩
def smallB : Bs := [109, 111, 100, 101, 108, 32, 109, 10, 119, 105, 100, 116, 104, 32, 54, 52, 10, 105, 110, 112, 117, 116, 32, 120, 32, 49, 32, 50, 10, 112, 97, 114, 97, 109, 32, 119, 32, 50, 32, 49, 32, 122, 101, 114, 111, 10, 108, 101, 116, 32, 104, 32, 61, 32, 116, 97, 110, 104, 40, 120, 32, 64, 32, 119, 41, 10, 111, 117, 116, 32, 104, 10]
def smallL : List Bs := [[109, 111, 100, 101, 108, 32, 109], [119, 105, 100, 116, 104, 32, 54, 52], [105, 110, 112, 117, 116, 32, 120, 32, 49, 32, 50], [112, 97, 114, 97, 109, 32, 119, 32, 50, 32, 49, 32, 122, 101, 114, 111], [108, 101, 116, 32, 104, 32, 61, 32, 116, 97, 110, 104, 40, 120, 32, 64, 32, 119, 41], [111, 117, 116, 32, 104]]
theorem small_len : smallB.length = 72 := by kernel_rfl
theorem small_split : splitGo smallB [] = smallL ++ [[]] := by kernel_rfl
/-- No numbers among the words whose numbers a line reads late. -/
def lateOk (ts : List Tok) : Bool := match ts with
  | [] => true
  | t :: _ => (kindOf t.text != 4 || (ts.drop 3).all (·.kind != 100)) && (kindOf t.text != 3 || (ts.drop 4).all (·.kind != 100))
theorem nums_none {m : Nums} {ts : List Tok} (h : ts.all (·.kind != 100) = true) : NumsAt m ts := fun t ht hk => by
  have := List.all_eq_true.1 h t ht
  rw [hk] at this
  cases this
theorem late_ok {m : Nums} {ts : List Tok} (h : lateOk ts = true) : LateNums m ts := by
  intro t l e
  subst e
  simp only [lateOk, Bool.and_eq_true, Bool.or_eq_true, bne_iff_ne] at h
  exact ⟨fun hk => nums_none (h.1.resolve_left (fun f => f hk)), fun hk => nums_none (h.2.resolve_left (fun f => f hk))⟩
def lineLate (l : Bs) : Bool := match Sp.scan l with | none => true | some ts => lateOk ts
theorem line_late {m : Nums} {l : Bs} (h : lineLate l = true) : ∀ ts, Sp.scan l = some ts → LateNums m ts := fun ts hs => by
  unfold lineLate at h
  rw [hs] at h
  exact late_ok h
def ascii (l : Bs) : Bool := l.all fun c => decide (c.toNat < 128)
theorem scanC_ascii {l : Bs} (h : ascii l = true) (hl : l.length ≤ 1000000) : ScanC l := by
  intro W hW
  have := scan_any (bstr l) (by rw [bstr_size]; exact hl) W (fun i hi => by
    have hm := List.all_eq_true.1 h ((bstr l)[i]) (by
      have : (bstr l)[i] = l[i]'(by rw [bstr_size] at hi; exact hi) := rfl
      rw [this]; exact List.getElem_mem _)
    simpa using hm)
  rw [bstr_data] at this
  exact this
theorem small_late : smallL.all lineLate = true := by kernel_rfl
theorem small_ascii : smallL.all ascii = true := by kernel_rfl
def s00 : St := ⟨[], 0, [], 0, 0⟩
def okSt : Except (Int × Int) St → St
  | .ok s => s
  | .error _ => s00
def sF : St := okSt (lines m0 s00 smallL 0)
def isOk : Except (Int × Int) St → Bool
  | .ok _ => true
  | .error _ => false
theorem small_ok : isOk (lines m0 s00 smallL 0) = true := by kernel_rfl
theorem small_lines : lines m0 s00 smallL 0 = .ok sF := by
  have h := small_ok
  unfold sF
  cases hl : lines m0 s00 smallL 0 with
  | ok s => rfl
  | error e => rw [hl] at h; cases h
theorem sF_last : sF.last = 5 := by kernel_rfl
theorem sF_len : sF.decls.length = 4 := by kernel_rfl
theorem sF_name : sF.name = [109] := by kernel_rfl
theorem sF_width : sF.width = 64 := by kernel_rfl
def exName : Ex → Bs
  | .mk _ _ n _ => n
theorem sF_tanh : (sF.decls.map (fun d => exName d.expr))[2]? = some [116, 97, 110, 104] := by kernel_rfl
theorem small_text : textLines smallB = smallL := by kernel_rfl
theorem small_read : Sp.read m0 smallB = (⟨sF.name, sF.width, sF.decls⟩, 0, 0) := by
  rw [sp_read (by rw [small_len]; decide) small_text]
  show (match lines m0 s00 smallL 0 with | .error (e, n) => (noMd, n, e) | .ok s => if s.last < 5 then (noMd, (smallL.length : Int) + 1, 70) else (⟨s.name, s.width, s.decls⟩, 0, 0)) = _
  rw [small_lines]
  simp only
  rw [if_neg (by rw [sF_last]; decide)]
end Go.Proofs.YtdkhedefcmjjgaaGreatDoor
/- alive, walked: an answer that the document fixes.
Conditions: what the library's variables hold. -/
namespace Go.Proofs.YtdkhedefcmjjgaaGreatDoor
open Go.RowKit Sp
set_option linter.unusedVariables false
set_option linter.unusedSimpArgs false
theorem exAt_name {w : World} {ok : Nat → Prop} {x : Ex} {k b : Int} {en : ByteArray} {sl : Value} (h : ExAt w ok x [.int .i64 k, .int .i64 b, .string en, sl]) : en = bstr (exName x) := by
  cases h
  rfl
theorem dcs_len (kind line : Int) (name : ByteArray) (rows cols i a b k bits : Int) (en : ByteArray) (sl : Value) : (dcs kind line name rows cols i a b k bits en sl).toList.length = 12 := rfl
theorem DRows.get {w : World} {ok : Nat → Prop} : ∀ {l : List Dc} {cs : List Value} {i : Nat} {d : Dc}, DRows w ok l cs → l[i]? = some d → cs[12 * i + 10]? = some (.string (bstr (exName d.expr)))
  | [], _, _, _, _, h => by simp at h
  | d0 :: l, cs, i, d, ⟨k, b, en, A, n, c, r, e, hx, hl⟩, h => by
    subst e
    cases i with
    | zero =>
      have e0 : d0 = d := by simpa using h
      subst e0
      rw [List.getElem?_append_left (by rw [dcs_len]; omega), exAt_name hx]
      rfl
    | succ i =>
      rw [List.getElem?_append_right (by rw [dcs_len]; omega), dcs_len, show 12 * (i + 1) + 10 - 12 = 12 * i + 10 by omega]
      exact DRows.get hl (by simpa using h)
/-- What Read tells of the text that the document fixes. -/
def SmallPost (W : World) (e : Ending) (w' : World) : Prop := ∃ g cv, e = .returned (.tuple #[.agg #[.string (bstr [109]), .int .i64 64, .slice (some ⟨g, 0, none⟩) 4 cv], .int .i64 0, .int .i64 0]) ∧ 4 ≤ cv ∧ w'.cell? ⟨g, 34, none⟩ = some (.string (bstr [116, 97, 110, 104])) ∧ Below W.heap.size W w'
theorem sF_post {t : Bs} {W : World} {e : Ending} {w' : World} (hr : Sp.read m0 t = (⟨sF.name, sF.width, sF.decls⟩, 0, 0)) (h : ReadPost m0 t W e w') : SmallPost W e w' := by
  obtain ⟨hb, v, he, cs, ho, hd⟩ := h
  rw [hr] at he ho hd
  simp only at he ho hd
  rw [sF_len] at ho
  obtain ⟨g, cap, rfl, _, _⟩ := ho.form (by decide)
  rw [sF_name, sF_width] at he
  have h3 := sF_tanh
  rw [List.getElem?_map] at h3
  obtain ⟨d, hd2, hn⟩ := Option.map_eq_some_iff.1 h3
  have hc := hd.get hd2
  have := ho.cells (g := g) rfl _ _ hc
  rw [add_plain', hn] at this
  have hcap : 4 ≤ cap := by
    rcases ho.2 with ⟨h0, _⟩ | ⟨g', cap', cur, e', _, _, hn, _⟩
    · cases h0
    · simp only [Value.slice.injEq] at e'
      omega
  exact ⟨g, cap, he, hcap, by simpa using this, hb⟩
theorem read_small (W : World) (hE : Env W) : Calls Tryz.prog 6 #[.string (bstr smallB)] W (SmallPost W) := by
  refine (read_any m0 (fun _ => rfl) smallB W (by rw [small_len]; decide) hE (fun _ l hl => ?_) (fun _ l hl => ?_)).mono (fun e w' h => sF_post small_read h)
  · rw [small_text] at hl
    have h1 := List.all_eq_true.1 small_ascii l hl
    have hb : smallL.all (fun l => decide (l.length ≤ 100)) = true := by kernel_rfl
    have h2 := List.all_eq_true.1 hb l hl
    simp only [decide_eq_true_eq] at h2
    exact scanC_ascii h1 (by omega)
  · rw [small_text] at hl
    exact line_late (List.all_eq_true.1 small_late l hl)
set_option maxRecDepth 100000 in
set_option maxHeartbeats 4000000 in
theorem alive_any (w : World) (hE : Env w) : Calls Tryz.prog 5 #[] w fun e w' => e = .returned (.bool true) ∧ Below w.heap.size w w' := by
  have H6 := Lib.hid (read_small w hE)
  have H7 := Lib.hid (num_any 0)
  go_enter Tryz.func5, Tryz.ntmps5
  go_wp2_with fail
  refine H6.out.mono ?_
  rintro e w1 ⟨g, cv, rfl, hcv, hc, hb⟩
  have hc' := fun o => cell_old ((Below.refl w1.heap.size w1).alloc (Nat.le_refl _) o) hc
  have q1 : ((bstr [109]).toList == [109]) = true := by rw [bstr_toList]; rfl
  have q2 : ((bstr [116, 97, 110, 104]).toList == [116, 97, 110, 104]) = true := by rw [bstr_toList]; rfl
  have HB := Lib.hid hb
  clear hb
  go_wp2_with fail
  refine (H7.out _).mono ?_
  rintro e w2 ⟨rfl, rfl⟩
  go_wp2_with fail
  go_ret
  exact ⟨rfl, HB.out.alloc HB.out.size _⟩
end Go.Proofs.YtdkhedefcmjjgaaGreatDoor
