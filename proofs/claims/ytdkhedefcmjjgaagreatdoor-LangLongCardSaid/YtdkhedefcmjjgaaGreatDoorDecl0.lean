/- What decl's walk needs: twelve cells stored; how deep an expression can be by its words.
Conditions: none. -/
import Derived.Test.YtdkhedefcmjjgaaGreatDoorHow
import Derived.Test.YtdkhedefcmjjgaaGreatDoorExpr
import Derived.Test.YtdkhedefcmjjgaaGreatDoorDeep
import Derived.Test.YtdkhedefcmjjgaaGreatDoorKind
import Derived.Laws.CopyOwn
import Derived.Laws.Tables
import Derived.Laws.Rows
namespace Go.Proofs.YtdkhedefcmjjgaaGreatDoor
open Go.RowKit Sp
set_option linter.unusedSimpArgs false
set_option linter.unusedVariables false
theorem und38 : Tryz.prog.underlying 38 = some (.struct (match Tryz.prog.underlying 38 with | some (.struct f) => f | _ => #[])) := by kernel_rfl
theorem info38s : (Tryz.prog.info? 38).map (·.size) = some 12 := by kernel_rfl
theorem results38 {fn : Func} {p : Tmp} (h : fn.results = #[.cell p 38]) (tmps : Array Value) (W : World) (Y : Nat) (kind line : Int) (name : ByteArray) (rows cols i a b k bits : Int) (en : ByteArray) (sl : Value)
    (hp : tmps.getD p undef = .pointer (some ⟨Y, 0, none⟩)) (hY : W.heap[Y]? = some (.cells (dcs kind line name rows cols i a b k bits en sl) 38 (0, 0))) : (results fn tmps).run Tryz.prog W = .ok (.agg (dcs kind line name rows cols i a b k bits en sl)) W :=
  results_cell_row h tmps W Y 38 (dcs kind line name rows cols i a b k bits en sl) (0, 0) _ hp hY und38 rfl info38s
theorem row_step {w0 w w8 : World} {R T : Nat} {wd : Int} {rt : RS} {x : Ex} {ok : Nat → Prop} {Y : Nat} (cs : Array Value) {A : Option Addr} {n c : Nat} {q1 q2 : Int} {q3 : ByteArray}
    (hYw : w.heap.size ≤ Y) (hR : R < w.heap.size) (hT : T < w.heap.size) (hB : w0.heap.size ≤ w.heap.size)
    (hg : w.grownBy w8 (some R)) (hx : ExAt w8 ok x [.int .i64 q1, .int .i64 q2, .string q3, .slice A n c]) (hok : ∀ g, ok g → w.heap.size ≤ g) (hnY : ¬ ok Y) (hr : Rd w0 w8 R T wd rt) :
    w.grownBy (w8.setRow Y cs) (some R) ∧ ExAt (w8.setRow Y cs) (Since w.heap.size) x [.int .i64 q1, .int .i64 q2, .string q3, .slice A n c] ∧ Rd w0 (w8.setRow Y cs) R T wd rt := by
  refine ⟨⟨hg.os, hg.tape, hg.output, by rw [size_setRow]; exact hg.size, fun k hk h1 => ?_⟩, ?_, ?_⟩
  · rw [setRow_other _ _ _ _ (by omega)]; exact hg.block k hk h1
  · exact (hx.keep (by rw [size_setRow]; exact Nat.le_refl _) fun k hk _ => setRow_other _ _ _ _ (fun e => hnY (by rw [← e]; exact hk))).mono fun g hg _ => hok g hg
  · obtain ⟨v, dp, h1, h2⟩ := hr.at_
    exact ⟨hr.env, below_setRow hr.below (by omega) _, hr.hR, hr.hT, hr.ok, hr.ne, by rw [size_setRow]; exact hr.ltT, v, dp, (setRow_other _ _ _ _ (by omega)).trans h1, h2.keep (setRow_other _ _ _ _ (by omega))⟩
/-- How deep: no deeper than words were read. -/
def Shallow (spec : RS → Option (Ex × RS)) : Prop := ∀ r x r', spec r = some (x, r') → deep x + r'.ts.length ≤ r.ts.length
theorem deep_call (s : Bs) (l : List Ex) : deep (Sp.call s l) = deepAll l 0 + 1 := by unfold Sp.call; rw [deep, if_pos rfl]
theorem deep_nn0 : ∀ x : Ex, 0 ≤ deep x := fun x => by
  cases x with
  | mk k b s l => exact Int.le_trans (deepAll_ge l 0) (deep_nn k b s l).1
theorem chainGo_shallow {signs : Bs} {spec : RS → Option (Ex × RS)} (hS : Shallow spec) (L : Int) : ∀ (k : Nat) (x : Ex) (r : RS) (y : Ex) (r' : RS), chainGo signs spec k x r = some (y, r') → deep x + r.ts.length ≤ L → deep y + r'.ts.length ≤ L
  | 0, _, _, _, _, h, _ => by simp [chainGo] at h
  | k + 1, x, r, y, r', h, hL => by
    rw [chainGo] at h
    split at h
    · simp only [Option.some.injEq, Prod.mk.injEq] at h
      obtain ⟨rfl, rfl⟩ := h
      exact hL
    · rename_i s r1 h1
      split at h
      · cases h
      · rename_i z r2 h2
        have h3 := hS _ _ _ h2
        have h4 := sign_len h1
        have h5 := deep_nn0 x
        refine chainGo_shallow hS L k _ _ _ _ h ?_
        rw [deep_call]
        simp only [deepAll]
        have h6 := deep_nn0 z
        rw [show max 0 (deep x) = deep x from Int.max_eq_right h5]
        omega
theorem chain_shallow {signs : Bs} {spec : RS → Option (Ex × RS)} (hS : Shallow spec) : Shallow (chain signs spec) := by
  intro r x r' h
  rw [chain] at h
  split at h
  · cases h
  · rename_i y r1 h1
    exact chainGo_shallow hS r.ts.length _ _ _ _ _ h (hS _ _ _ h1)
theorem wholeR_len {m : Nums} {n : Int} {r r' : RS} (h : Sp.wholeR m r = some (n, r')) : r'.ts.length ≤ r.ts.length := (wholeR_suffix h).length_le
theorem arg_shallow {m : Nums} {wd : Int} {spec : RS → Option (Ex × RS)} (hS : Shallow spec) {f : FnS} {n : Nat} {r r' : RS} {y : Ex} (h : Sp.arg m wd spec f n r = some (y, r')) : deep y + r'.ts.length ≤ r.ts.length := by
  have leaf : ∀ (k b : Int), k ≠ 3 → deep (.mk k b [] []) = 0 := fun k b hk => by rw [deep, if_neg hk]; rfl
  unfold Sp.arg at h
  split at h
  · split at h
    · cases h
    · rename_i b r1 h1
      simp only [Option.some.injEq, Prod.mk.injEq] at h
      obtain ⟨rfl, rfl⟩ := h
      rw [leaf 4 b (by decide)]
      have := (wholeR_suffix h1).length_le; omega
  · split at h
    · split at h
      · cases h
      · rename_i b r1 h1
        simp only [Option.some.injEq, Prod.mk.injEq] at h
        obtain ⟨rfl, rfl⟩ := h
        rw [leaf 1 b (by decide)]
        have := (numberR_suffix h1).length_le; omega
    · exact hS _ _ _ h
theorem argsGo_shallow {m : Nums} {wd : Int} {spec : RS → Option (Ex × RS)} (hS : Shallow spec) {f : FnS} (L : Int) : ∀ (k : Nat) (l : List Ex) (r : RS) (l' : List Ex) (r' : RS), argsGo m wd spec f k l r = some (l', r') → deepAll l 0 + r.ts.length ≤ L → deepAll l' 0 + r'.ts.length ≤ L
  | 0, _, _, _, _, h, _ => by simp [argsGo] at h
  | k + 1, l, r, l', r', h, hL => by
    rw [argsGo] at h
    split at h
    · cases h
    · rename_i y r1 h1
      have h3 := arg_shallow hS h1
      have h5 := deepAll_ge l 0
      have h6 := deep_nn0 y
      split at h
      · simp only [Option.some.injEq, Prod.mk.injEq] at h
        obtain ⟨rfl, rfl⟩ := h
        rw [deepAll_snoc]
        omega
      · rename_i s r2 h2
        have h4 := sign_len h2
        refine argsGo_shallow hS L k _ _ _ _ h ?_
        rw [deepAll_snoc]
        omega
theorem function_shallow {m : Nums} {wd : Int} {spec : RS → Option (Ex × RS)} (hS : Shallow spec) {s : Bs} {f : FnS} {r r' : RS} {x : Ex} (h : Sp.function m wd spec s f r = some (x, r')) : deep x + r'.ts.length ≤ r.ts.length := by
  unfold Sp.function at h
  split at h
  · cases h
  · rename_i s1 r1 h1
    split at h
    · cases h
    · rename_i l r2 h2
      split at h
      · cases h
      · rename_i s3 r3 h3
        split at h
        · cases h
        · simp only [Option.some.injEq, Prod.mk.injEq] at h
          obtain ⟨rfl, rfl⟩ := h
          rw [deep_call]
          have := argsGo_shallow hS r1.ts.length _ _ _ _ _ h2 (by simp [deepAll])
          have := next_len h1
          have := next_len h3
          omega
theorem factorStep_shallow {m : Nums} {wd : Int} {spec : RS → Option (Ex × RS)} (hS : Shallow spec) : Shallow (factorStep m wd spec) := by
  intro r x r' h
  unfold factorStep at h
  split at h
  · rename_i s1 r1 h1
    split at h
    · cases h
    · rename_i y r2 h2
      simp only [Option.some.injEq, Prod.mk.injEq] at h
      obtain ⟨rfl, rfl⟩ := h
      rw [deep_call]
      have := hS _ _ _ h2
      have := sign_len h1
      have := deep_nn0 y
      simp only [deepAll]
      omega
  · split at h
    · rename_i s1 r1 h1
      split at h
      · cases h
      · rename_i y r2 h2
        split at h
        · cases h
        · rename_i s3 r3 h3
          simp only [Option.some.injEq, Prod.mk.injEq] at h
          obtain ⟨rfl, rfl⟩ := h
          have := chain_shallow (chain_shallow hS) _ _ _ h2
          have := sign_len h1
          have := next_len h3
          omega
    · split at h
      · cases h
      · split at h
        · split at h
          · cases h
          · rename_i b r1 h1
            simp only [Option.some.injEq, Prod.mk.injEq] at h
            obtain ⟨rfl, rfl⟩ := h
            have := (numberR_suffix h1).length_le
            rw [deep, if_neg (by decide)]
            simp only [deepAll]; omega
        · split at h
          · split at h
            · cases h
            · rename_i s1 r1 h1
              have := function_shallow (chain_shallow (chain_shallow hS)) h
              have := next_len h1
              omega
          · split at h
            · cases h
            · rename_i s1 r1 h1
              simp only [Option.some.injEq, Prod.mk.injEq] at h
              obtain ⟨rfl, rfl⟩ := h
              have := (name_suffix h1).length_le
              rw [deep, if_neg (by decide)]
              simp only [deepAll]; omega
theorem factor_shallow (m : Nums) (wd : Int) : ∀ k, Shallow (Sp.factor m wd k)
  | 0 => fun _ _ _ h => by simp [Sp.factor] at h
  | k + 1 => factorStep_shallow (factor_shallow m wd k)
theorem expr_shallow (m : Nums) (wd : Int) : Shallow (Sp.expr m wd) := fun r x r' h => chain_shallow (chain_shallow (factor_shallow m wd _)) r x r' h
/-- How decl ends. -/
def DeclPost (w0 : World) (R T : Nat) (wd : Int) (w : World) (o : Except Int (Dc × RS)) (e : Ending) (w' : World) : Prop :=
  w.grownBy w' (some R) ∧ ((∃ n, o = .error n ∧ e = .panicked (giv n)) ∨ ∃ d r' k bits en A n c, o = .ok (d, r') ∧ e = .returned (.agg (dcs d.kind d.line (bstr d.name) d.rows d.cols d.init d.a d.b k bits en (.slice A n c))) ∧ ExAt w' (Since w.heap.size) d.expr [.int .i64 k, .int .i64 bits, .string en, .slice A n c] ∧ Rd w0 w' R T wd r')
end Go.Proofs.YtdkhedefcmjjgaaGreatDoor
