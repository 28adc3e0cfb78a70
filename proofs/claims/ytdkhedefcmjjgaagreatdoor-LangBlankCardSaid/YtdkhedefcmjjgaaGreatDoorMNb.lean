/- What is told of numbers' texts, chosen: for every text whose bytes are ASCII. The words of a line are such texts.
Conditions: none. -/
import Derived.Test.YtdkhedefcmjjgaaGreatDoorMHx
import Derived.Test.YtdkhedefcmjjgaaGreatDoorMFpK
import Derived.Test.YtdkhedefcmjjgaaGreatDoorMLong0
namespace Go.Proofs.YtdkhedefcmjjgaaGreatDoor
open Go.RowKit Sp
set_option linter.unusedSimpArgs false
set_option linter.unusedVariables false
theorem nums_ex : ∃ m : Nums, (∀ s, m.whole s = wholeF s) ∧ ∀ s : Bs, ascii s = true → s.length ≤ 70000 → NumAt m s := by
  have h1 : ∀ x : Bs × Int, ∃ p : Int × Bool, ascii x.1 = true → x.1.length ≤ 70000 → x.2 = 32 ∨ x.2 = 64 → ∀ W, Env W → Calls Tryz.prog 91 #[.string (bstr x.1), .int .i64 x.2] W fun e w' => e = .returned (.tuple #[.int .i64 p.1, .bool p.2]) ∧ Below W.heap.size W w' := fun x => by
    obtain ⟨s, wd⟩ := x
    by_cases h : ascii s = true ∧ s.length ≤ 70000 ∧ (wd = 32 ∨ wd = 64)
    · obtain ⟨ha, hl, hw⟩ := h
      have hA : ∀ (j : Nat) (b : UInt8), (bstr s).data.toList[j]? = some b → b.toNat < 128 := fun j b hb => by
        rw [bstr_data] at hb
        have := List.all_eq_true.1 ha b (List.mem_of_getElem? hb)
        simpa using this
      have hS : (bstr s).size ≤ 100000 := by rw [bstr_size]; omega
      rcases hw with rfl | rfl
      · obtain ⟨n, ok, hc⟩ := number_32 (bstr s) hA hS
        exact ⟨(n, ok), fun _ _ _ => hc⟩
      · obtain ⟨n, ok, hc⟩ := number_64 (bstr s) hA hS
        exact ⟨(n, ok), fun _ _ _ => hc⟩
    · exact ⟨(0, false), fun a b c => absurd ⟨a, b, c⟩ h⟩
  have h2 : ∀ x : Int × Int, ∃ v : Int, x.2 = 32 ∨ x.2 = 64 → ∀ W, Calls Tryz.prog 92 #[.int .i64 x.1, .int .i64 x.2] W fun e w' => e = .returned (.int .i64 v) ∧ Below W.heap.size W w' := fun x => by
    obtain ⟨b, wd⟩ := x
    by_cases h : wd = 32 ∨ wd = 64
    · rcases h with rfl | rfl
      · obtain ⟨v, hc⟩ := class32 b
        exact ⟨v, fun _ => hc⟩
      · obtain ⟨v, hc⟩ := class64 b
        exact ⟨v, fun _ => hc⟩
    · exact ⟨0, fun a => absurd a h⟩
  obtain ⟨f, hf⟩ := Classical.axiomOfChoice h1
  obtain ⟨g, hg⟩ := Classical.axiomOfChoice h2
  obtain ⟨k, hk⟩ := Classical.axiomOfChoice neg64
  refine ⟨⟨wholeF, fun s wd => f (s, wd), fun b wd => g (b, wd), k⟩, fun _ => rfl, fun s ha hl wd hw => ⟨hf (s, wd) ha hl hw, hg _ hw, fun h W => ?_⟩⟩
  subst h
  exact hk _ W
theorem small_lt {c : UInt8} (h : wordByte c = true) : c.toNat < 128 := by
  unfold wordByte small ten upper at h
  simp only [Bool.or_eq_true, Bool.and_eq_true, decide_eq_true_eq, beq_iff_eq, UInt8.le_iff_toNat_le] at h
  rcases h with (((⟨_, h⟩ | ⟨_, h⟩) | ⟨_, h⟩) | h) | h
  · exact Nat.lt_of_le_of_lt h (by decide)
  · exact Nat.lt_of_le_of_lt h (by decide)
  · exact Nat.lt_of_le_of_lt h (by decide)
  · rw [h]; decide
  · rw [h]; decide
/-- The words of a line: ASCII, none longer than what is there. -/
theorem scanGo_toks : ∀ (l cur : Bs) (k : UInt8) (out ts : List Tok), scanGo l cur k out = some ts → ascii cur = true → (∀ t ∈ out, ascii t.text = true) → ∀ N, l.length + cur.length ≤ N → (∀ t ∈ out, t.text.length ≤ N) → 1 ≤ N → ∀ t ∈ ts, ascii t.text = true ∧ t.text.length ≤ N
  | [], cur, k, out, ts, h, hc, ho, N, hN, hoN, h1 => by
    simp only [scanGo, Option.some.injEq] at h
    subst h
    intro t ht
    unfold close at ht
    split at ht
    · exact ⟨ho t ht, hoN t ht⟩
    · rcases List.mem_append.1 ht with ht | ht
      · exact ⟨ho t ht, hoN t ht⟩
      · rw [List.mem_singleton.1 ht]
        exact ⟨hc, by simp at hN; omega⟩
  | c :: l, cur, k, out, ts, h, hc, ho, N, hN, hoN, h1 => by
    have hN' : l.length + 1 + cur.length ≤ N := by simpa using hN
    have app : ∀ d : UInt8, d.toNat < 128 → ascii (cur ++ [d]) = true := fun d hd => by
      unfold ascii at hc ⊢
      rw [List.all_append, hc]
      simp [hd]
    have hcl : (∀ t ∈ close cur k out, ascii t.text = true) ∧ (∀ t ∈ close cur k out, t.text.length ≤ N) := by
      unfold close
      split
      · exact ⟨ho, hoN⟩
      · refine ⟨fun t ht => ?_, fun t ht => ?_⟩
        · rcases List.mem_append.1 ht with ht | ht
          · exact ho t ht
          · rw [List.mem_singleton.1 ht]; exact hc
        · rcases List.mem_append.1 ht with ht | ht
          · exact hoN t ht
          · rw [List.mem_singleton.1 ht]; show cur.length ≤ N; omega
    rw [scanGo] at h
    split at h
    · rename_i hw
      have hlt := small_lt hw
      split at h
      · exact scanGo_toks l [c] _ out ts h (by simp [ascii, hlt]) ho N (by simp; omega) hoN h1
      · exact scanGo_toks l (cur ++ [c]) k out ts h (app c hlt) ho N (by simp; omega) hoN h1
    · split at h
      · rename_i hm
        have hc45 : c = 45 := by
          simp only [Bool.and_eq_true, beq_iff_eq] at hm
          exact hm.1
        exact scanGo_toks l (cur ++ [c]) k out ts h (app c (by rw [hc45]; decide)) ho N (by simp; omega) hoN h1
      · split at h
        · exact scanGo_toks l [] k (close cur k out) ts h rfl hcl.1 N (by simp; omega) hcl.2 h1
        · split at h
          · rename_i hs
            have hlt : c.toNat < 128 := by
              unfold isSign at hs
              simp at hs
              rcases hs with h | h | h | h | h | h | h | h | h <;> (rw [h]; decide)
            refine scanGo_toks l [] k _ ts h rfl (fun t ht => ?_) N (by simp; omega) (fun t ht => ?_) h1
            · rcases List.mem_append.1 ht with ht | ht
              · exact hcl.1 t ht
              · rw [List.mem_singleton.1 ht]; simp [ascii, hlt]
            · rcases List.mem_append.1 ht with ht | ht
              · exact hcl.2 t ht
              · rw [List.mem_singleton.1 ht]; exact h1
          · cases h
theorem late_all {m : Nums} (hm : ∀ s : Bs, ascii s = true → s.length ≤ 70000 → NumAt m s) {l : Bs} (hl : l.length ≤ 69999) {ts : List Tok} (h : Sp.scan l = some ts) : LateNums m ts := by
  have hT := scanGo_toks l [] 0 [] ts h rfl (by simp) 70000 (by simp; omega) (by simp) (by omega)
  have hall : ∀ (k : List Tok), (∀ t ∈ k, t ∈ ts) → NumsAt m k := fun k hk t ht _ => hm _ (hT t (hk t ht)).1 (hT t (hk t ht)).2
  intro t r e
  subst e
  exact ⟨fun _ => hall _ (fun x hx => List.mem_of_mem_drop hx), fun _ => hall _ (fun x hx => List.mem_of_mem_drop hx)⟩
end Go.Proofs.YtdkhedefcmjjgaaGreatDoor
