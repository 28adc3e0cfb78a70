/- factor and expr, whole: by induction on the words that are left.
Conditions: none. -/
import Derived.Test.YtdkhedefcmjjgaaGreatDoorFac3
namespace Go.Proofs.YtdkhedefcmjjgaaGreatDoor
open Go.RowKit Sp
set_option linter.unusedSimpArgs false
set_option linter.unusedVariables false
theorem name_suffix {s : Bs} {r r' : RS} (h : Sp.name r = some (s, r')) : r'.ts <:+ r.ts := by
  unfold Sp.name at h
  split at h
  · cases h
  · rename_i s1 r1 h1
    split at h
    · simp only [Option.some.injEq, Prod.mk.injEq] at h
      obtain ⟨_, rfl⟩ := h
      exact next_suffix h1
    · cases h
theorem argsGo_ends {m : Nums} {wd : Int} {spec : RS → Option (Ex × RS)} (hE : Ends spec) {f : FnS} : ∀ (k : Nat) (l : List Ex) (r : RS) (l' : List Ex) (r' : RS), argsGo m wd spec f k l r = some (l', r') → r'.ts <:+ r.ts
  | 0, _, _, _, _, h => by simp [argsGo] at h
  | k + 1, l, r, l', r', h => by
    rw [argsGo] at h
    split at h
    · cases h
    · rename_i y r1 h1
      split at h
      · simp only [Option.some.injEq, Prod.mk.injEq] at h
        obtain ⟨_, rfl⟩ := h
        exact arg_suffix hE h1
      · rename_i s r2 h2
        exact (argsGo_ends hE k _ _ _ _ h).trans ((sign_suffix h2).trans (arg_suffix hE h1))
theorem function_ends {m : Nums} {wd : Int} {spec : RS → Option (Ex × RS)} (hE : Ends spec) {s : Bs} {f : FnS} {r r' : RS} {x : Ex} (h : Sp.function m wd spec s f r = some (x, r')) : r'.ts <:+ r.ts := by
  unfold Sp.function at h
  split at h
  · cases h
  · rename_i s1 r1 h1
    split at h
    · cases h
    · rename_i l r2 h2
      split at h
      · cases h
      · rename_i s3 r3 h3
        split at h
        · cases h
        · simp only [Option.some.injEq, Prod.mk.injEq] at h
          obtain ⟨_, rfl⟩ := h
          exact (next_suffix h3).trans ((argsGo_ends hE _ _ _ _ _ h2).trans (next_suffix h1))
theorem exprOf_ends {spec : RS → Option (Ex × RS)} (hE : Ends spec) : Ends (exprOf spec) := chain_ends (term_ends hE)
theorem factorStep_ends {m : Nums} {wd : Int} {spec : RS → Option (Ex × RS)} (hE : Ends spec) : Ends (factorStep m wd spec) := by
  intro r x r' h
  unfold factorStep at h
  split at h
  · rename_i s1 r1 h1
    split at h
    · cases h
    · rename_i y r2 h2
      simp only [Option.some.injEq, Prod.mk.injEq] at h
      obtain ⟨_, rfl⟩ := h
      exact (hE _ _ _ h2).trans (sign_suffix h1)
  · split at h
    · rename_i s1 r1 h1
      split at h
      · cases h
      · rename_i y r2 h2
        split at h
        · cases h
        · rename_i s3 r3 h3
          simp only [Option.some.injEq, Prod.mk.injEq] at h
          obtain ⟨_, rfl⟩ := h
          exact (next_suffix h3).trans ((exprOf_ends hE _ _ _ h2).trans (sign_suffix h1))
    · split at h
      · cases h
      · split at h
        · split at h
          · cases h
          · rename_i b r1 h1
            simp only [Option.some.injEq, Prod.mk.injEq] at h
            obtain ⟨_, rfl⟩ := h
            exact numberR_suffix h1
        · split at h
          · split at h
            · cases h
            · rename_i s1 r1 h1
              exact (function_ends (exprOf_ends hE) h).trans (next_suffix h1)
          · split at h
            · cases h
            · rename_i s1 r1 h1
              simp only [Option.some.injEq, Prod.mk.injEq] at h
              obtain ⟨_, rfl⟩ := h
              exact name_suffix h1
theorem factor_ends (m : Nums) (wd : Int) : ∀ k, Ends (Sp.factor m wd k)
  | 0 => fun _ _ _ h => by simp [Sp.factor] at h
  | k + 1 => factorStep_ends (factor_ends m wd k)
theorem factor_one (m : Nums) (hm : ∀ s, m.whole s = wholeF s) (w0 : World) (R T : Nat) (wd : Int) (hwd : wd = 32 ∨ wd = 64) (n : Nat) (spec : RS → Option (Ex × RS)) (hE : Ends spec) (hP : PartC m w0 R T wd 79 n spec) : PartC m w0 R T wd 79 (n + 1) (factorStep m wd spec) := by
  intro w r hn hr hN
  cases h0 : Sp.sign [45] r with
  | some p => exact factor_minus m w0 R T wd n spec hP w r hn hr hN p.1 p.2 h0
  | none =>
    cases h1 : Sp.sign [40] r with
    | some p => exact factor_paren m w0 R T wd n spec hE hP w r hn hr hN h0 p.1 p.2 h1
    | none =>
      cases he : r.ts with
      | nil => exact factor_empty m w0 R T wd spec w r hr he
      | cons t l =>
        by_cases hk : t.kind = 100
        · exact factor_num m w0 R T wd hwd spec w r hr hN h0 h1 t l he hk
        · cases hkn : Sp.known t.text with
          | none => exact factor_name m w0 R T wd spec w r hr h0 h1 t l he hk hkn
          | some f => exact factor_fun m hm w0 R T wd hwd n spec hE hP w r hn hr hN h0 h1 t l he hk f hkn
theorem factor_any (m : Nums) (hm : ∀ s, m.whole s = wholeF s) (w0 : World) (R T : Nat) (wd : Int) (hwd : wd = 32 ∨ wd = 64) : ∀ n, PartC m w0 R T wd 79 n (Sp.factor m wd (n + 1))
  | 0 => by
    intro w r hn hr hN
    exact factor_empty m w0 R T wd _ w r hr (List.eq_nil_of_length_eq_zero (by omega))
  | n + 1 => factor_one m hm w0 R T wd hwd n _ (factor_ends m wd (n + 1)) (factor_any m hm w0 R T wd hwd n)
/-- expr tells what the specification tells. -/
theorem expr_all (m : Nums) (hm : ∀ s, m.whole s = wholeF s) (w0 : World) (R T : Nat) (wd : Int) (hwd : wd = 32 ∨ wd = 64) (w : World) (r : RS) (hr : Rd w0 w R T wd r) (hN : NumsAt m r.ts) :
    Calls Tryz.prog 41 #[.pointer (some ⟨R, 0, none⟩)] w (ExPost w0 R T wd w (Sp.expr m wd r)) :=
  expr_any m w0 R T wd r.ts.length _ (factor_ends m wd _) (factor_any m hm w0 R T wd hwd r.ts.length) w r (Nat.le_refl _) hr hN
theorem expr_ends (m : Nums) (wd : Int) : Ends (Sp.expr m wd) := fun r x r' h => exprOf_ends (factor_ends m wd _) r x r' h
end Go.Proofs.YtdkhedefcmjjgaaGreatDoor
