/- decl: joined from its kinds.
Conditions: the numbers' contracts at the words of numbers that the line reads. -/
import Derived.Test.YtdkhedefcmjjgaaGreatDoorDeclA
import Derived.Test.YtdkhedefcmjjgaaGreatDoorDeclB
import Derived.Test.YtdkhedefcmjjgaaGreatDoorDeclC
import Derived.Test.YtdkhedefcmjjgaaGreatDoorDeclD
namespace Go.Proofs.YtdkhedefcmjjgaaGreatDoor
open Go.RowKit Sp
set_option linter.unusedSimpArgs false
set_option linter.unusedVariables false
theorem name_mem {s : Bs} {r r' : RS} (h : Sp.name r = some (s, r')) : ∃ t, r.ts = t :: r'.ts := by
  unfold Sp.name at h
  split at h
  · cases h
  · rename_i s1 r1 h1
    split at h
    · simp only [Option.some.injEq, Prod.mk.injEq] at h
      obtain ⟨_, rfl⟩ := h
      obtain ⟨t, e, _⟩ := next_mem h1
      exact ⟨t, e⟩
    · cases h
theorem wholeR_mem {m : Nums} {n : Int} {r r' : RS} (h : Sp.wholeR m r = some (n, r')) : ∃ t, r.ts = t :: r'.ts := by
  unfold Sp.wholeR at h
  split at h
  · cases h
  · rename_i s1 r1 h1
    split at h
    · simp only [Option.some.injEq, Prod.mk.injEq] at h
      obtain ⟨_, rfl⟩ := h
      obtain ⟨t, e, _⟩ := next_mem h1
      exact ⟨t, e⟩
    · cases h
theorem kindOf_range (s : Bs) : kindOf s = 0 ∨ kindOf s = 1 ∨ kindOf s = 2 ∨ kindOf s = 3 ∨ kindOf s = 4 ∨ kindOf s = 5 ∨ kindOf s = 6 := by
  unfold kindOf
  split
  · exact .inl rfl
  · rename_i i h
    have hl : i < 6 := by
      have := List.findIdx?_eq_some_iff_getElem.1 h
      obtain ⟨hi, _⟩ := this
      simpa [kindWords] using hi
    omega
/-- The words whose numbers a line that declares may read: those behind 'let NAME =', those behind 'param NAME ROWS COLS'. -/
def LateNums (m : Nums) (ts : List Tok) : Prop := ∀ t l, ts = t :: l → (kindOf t.text = 4 → NumsAt m (ts.drop 3)) ∧ (kindOf t.text = 3 → NumsAt m (ts.drop 4))
theorem decl_any (m : Nums) (hm : ∀ s, m.whole s = wholeF s) (w0 : World) (R T : Nat) (wd last : Int) (hwd : wd = 32 ∨ wd = 64) (w : World) (r : RS) (hr : Rd w0 w R T wd r) (hN : LateNums m r.ts) :
    Calls Tryz.prog 20 #[.pointer (some ⟨R, 0, none⟩), .int .i64 last] w (DeclPost w0 R T wd w (Sp.decl m wd last r)) := by
  cases h1 : Sp.next 110 r with
  | none => exact decl_no m hm w0 R T wd last hwd w r hr h1
  | some p =>
    obtain ⟨s0, r1⟩ := p
    obtain ⟨t0, e0, et0, _⟩ := next_mem h1
    have hN0 := hN t0 r1.ts e0
    rw [et0] at hN0
    by_cases hk0 : kindOf s0 = 0
    · exact decl_kind0 m hm w0 R T wd last hwd w r hr s0 r1 h1 hk0
    · cases hbh : behind (kindOf s0) last with
      | false => exact decl_behind m hm w0 R T wd last hwd w r hr s0 r1 h1 _ rfl hk0 hbh
      | true =>
        cases h2 : Sp.name r1 with
        | none => exact decl_name m hm w0 R T wd last hwd w r hr s0 r1 h1 _ rfl hk0 hbh h2
        | some p =>
          obtain ⟨s, r2⟩ := p
          obtain ⟨t1, e1⟩ := name_mem h2
          have whole2 : ∀ k : Int, kindOf s0 = k → (Sp.wholeR m r2 = none → Calls Tryz.prog 20 #[.pointer (some ⟨R, 0, none⟩), .int .i64 last] w (DeclPost w0 R T wd w (Sp.decl m wd last r))) → (∀ rows r3, Sp.wholeR m r2 = some (rows, r3) → Sp.wholeR m r3 = none → Calls Tryz.prog 20 #[.pointer (some ⟨R, 0, none⟩), .int .i64 last] w (DeclPost w0 R T wd w (Sp.decl m wd last r))) → (∀ rows r3 cols r4, Sp.wholeR m r2 = some (rows, r3) → Sp.wholeR m r3 = some (cols, r4) → Calls Tryz.prog 20 #[.pointer (some ⟨R, 0, none⟩), .int .i64 last] w (DeclPost w0 R T wd w (Sp.decl m wd last r))) → Calls Tryz.prog 20 #[.pointer (some ⟨R, 0, none⟩), .int .i64 last] w (DeclPost w0 R T wd w (Sp.decl m wd last r)) := fun k _ f1 f2 f3 => by
            cases h3 : Sp.wholeR m r2 with
            | none => exact f1 h3
            | some p => cases h4 : Sp.wholeR m p.2 with
              | none => exact f2 p.1 p.2 h3 h4
              | some q => exact f3 p.1 p.2 q.1 q.2 h3 h4
          rcases kindOf_range s0 with hk | hk | hk | hk | hk | hk | hk
          · exact absurd hk hk0
          · rw [hk] at hbh
            exact whole2 1 hk (fun h3 => decl_1_rows m hm w0 R T wd last hwd w r hr s0 r1 h1 hk hbh s r2 h2 h3) (fun rows r3 h3 h4 => decl_1_cols m hm w0 R T wd last hwd w r hr s0 r1 h1 hk hbh s r2 h2 rows r3 h3 h4) (fun rows r3 cols r4 h3 h4 => decl_1 m hm w0 R T wd last hwd w r hr s0 r1 h1 hk hbh s r2 h2 rows r3 h3 cols r4 h4)
          · rw [hk] at hbh
            exact whole2 2 hk (fun h3 => decl_2_rows m hm w0 R T wd last hwd w r hr s0 r1 h1 hk hbh s r2 h2 h3) (fun rows r3 h3 h4 => decl_2_cols m hm w0 R T wd last hwd w r hr s0 r1 h1 hk hbh s r2 h2 rows r3 h3 h4) (fun rows r3 cols r4 h3 h4 => decl_2 m hm w0 R T wd last hwd w r hr s0 r1 h1 hk hbh s r2 h2 rows r3 h3 cols r4 h4)
          · rw [hk] at hbh
            exact whole2 3 hk (fun h3 => decl_3_rows m hm w0 R T wd last hwd w r hr s0 r1 h1 hk hbh s r2 h2 h3) (fun rows r3 h3 h4 => decl_3_cols m hm w0 R T wd last hwd w r hr s0 r1 h1 hk hbh s r2 h2 rows r3 h3 h4) (fun rows r3 cols r4 h3 h4 => decl_3 m hm w0 R T wd last hwd w r hr s0 r1 h1 hk hbh s r2 h2 rows r3 h3 cols r4 h4 (by
              obtain ⟨t2, e2⟩ := wholeR_mem h3
              obtain ⟨t3, e3⟩ := wholeR_mem h4
              have := hN0.2 hk
              rw [e0, e1, e2, e3] at this
              exact this))
          · rw [hk] at hbh
            cases h3 : Sp.next 61 r2 with
            | none => exact decl_4_is m hm w0 R T wd last hwd w r hr s0 r1 h1 hk hbh s r2 h2 h3
            | some p =>
              obtain ⟨t2, e2, _⟩ := next_mem h3
              refine decl_4 m hm w0 R T wd last hwd w r hr s0 r1 h1 hk hbh s r2 h2 p.1 p.2 h3 ?_ ?_
              · have := hr.ok.1
                rw [e0, e1, e2] at this
                simp at this; omega
              · have := hN0.1 hk
                rw [e0, e1, e2] at this
                exact this
          · rw [hk] at hbh
            exact decl_5 m hm w0 R T wd last hwd w r hr s0 r1 h1 hk hbh s r2 h2
          · rw [hk] at hbh
            exact decl_6 m hm w0 R T wd last hwd w r hr s0 r1 h1 hk hbh s r2 h2
end Go.Proofs.YtdkhedefcmjjgaaGreatDoor
