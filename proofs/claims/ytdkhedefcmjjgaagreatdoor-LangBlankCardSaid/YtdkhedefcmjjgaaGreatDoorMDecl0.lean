/- What decl's walk needs: twelve cells stored; how deep an expression can be by its words.
Conditions: none. -/
import Derived.Test.YtdkhedefcmjjgaaGreatDoorMKind
import Derived.Test.YtdkhedefcmjjgaaGreatDoorMFac3
import Derived.Laws.CopyOwn
import Derived.Laws.Tables
import Derived.Laws.Rows
namespace Go.Proofs.YtdkhedefcmjjgaaGreatDoor
open Go.RowKit Sp
set_option linter.unusedSimpArgs false
set_option linter.unusedVariables false
theorem und38 : Tryz.prog.underlying 38 = some (.struct (match Tryz.prog.underlying 38 with | some (.struct f) => f | _ => #[])) := by kernel_rfl
theorem info38s : (Tryz.prog.info? 38).map (·.size) = some 12 := by kernel_rfl
theorem results38 {fn : Func} {p : Tmp} (h : fn.results = #[.cell p 38]) (tmps : Array Value) (W : World) (Y : Nat) (kind line : Int) (name : ByteArray) (rows cols i a b k bits : Int) (en : ByteArray) (sl : Value)
    (hp : tmps.getD p undef = .pointer (some ⟨Y, 0, none⟩)) (hY : W.heap[Y]? = some (.cells (dcs kind line name rows cols i a b k bits en sl) 38 (0, 0))) : (results fn tmps).run Tryz.prog W = .ok (.agg (dcs kind line name rows cols i a b k bits en sl)) W :=
  results_cell_row h tmps W Y 38 (dcs kind line name rows cols i a b k bits en sl) (0, 0) _ hp hY und38 rfl info38s
theorem row_step {w0 w w8 : World} {R T : Nat} {wd : Int} {rt : RS} {x : Ex} {ok : Nat → Prop} {Y : Nat} (cs : Array Value) {A : Option Addr} {n c : Nat} {q1 q2 : Int} {q3 : ByteArray}
    (hYw : w.heap.size ≤ Y) (hR : R < w.heap.size) (hT : T < w.heap.size) (hB : w0.heap.size ≤ w.heap.size)
    (hg : w.grownBy w8 (some R)) (hx : ExAt w8 ok x [.int .i64 q1, .int .i64 q2, .string q3, .slice A n c]) (hok : ∀ g, ok g → w.heap.size ≤ g) (hnY : ¬ ok Y) (hr : Rd w0 w8 R T wd rt) :
    w.grownBy (w8.setRow Y cs) (some R) ∧ ExAt (w8.setRow Y cs) (Since w.heap.size) x [.int .i64 q1, .int .i64 q2, .string q3, .slice A n c] ∧ Rd w0 (w8.setRow Y cs) R T wd rt := by
  refine ⟨⟨hg.os, hg.tape, hg.output, by rw [size_setRow]; exact hg.size, fun k hk h1 => ?_⟩, ?_, ?_⟩
  · rw [setRow_other _ _ _ _ (by omega)]; exact hg.block k hk h1
  · exact (hx.keep (by rw [size_setRow]; exact Nat.le_refl _) fun k hk _ => setRow_other _ _ _ _ (fun e => hnY (by rw [← e]; exact hk))).mono fun g hg _ => hok g hg
  · obtain ⟨v, dp, h1, h2⟩ := hr.at_
    exact ⟨hr.env, below_setRow hr.below (by omega) _, hr.hR, hr.hT, hr.ok, hr.ne, by rw [size_setRow]; exact hr.ltT, v, dp, (setRow_other _ _ _ _ (by omega)).trans h1, h2.keep (setRow_other _ _ _ _ (by omega))⟩
/-- How deep: no deeper than words were read. -/
def Shallow (spec : RS → Option (Ex × RS)) : Prop := ∀ r x r', spec r = some (x, r') → deep x + r'.ts.length ≤ r.ts.length
theorem deep_call (s : Bs) (l : List Ex) : deep (Sp.call s l) = deepAll l 0 + 1 := by unfold Sp.call; rw [deep, if_pos rfl]
theorem deep_nn0 : ∀ x : Ex, 0 ≤ deep x := fun x => by
  cases x with
  | mk k b s l => exact Int.le_trans (deepAll_ge l 0) (deep_nn k b s l).1
theorem chainGo_shallow {signs : Bs} {spec : RS → Option (Ex × RS)} (hS : Shallow spec) (L : Int) : ∀ (k : Nat) (x : Ex) (r : RS) (y : Ex) (r' : RS), chainGo signs spec k x r = some (y, r') → deep x + r.ts.length ≤ L → deep y + r'.ts.length ≤ L
  | 0, _, _, _, _, h, _ => by simp [chainGo] at h
  | k + 1, x, r, y, r', h, hL => by
    rw [chainGo] at h
    split at h
    · simp only [Option.some.injEq, Prod.mk.injEq] at h
      obtain ⟨rfl, rfl⟩ := h
      exact hL
    · rename_i s r1 h1
      split at h
      · cases h
      · rename_i z r2 h2
        have h3 := hS _ _ _ h2
        have h4 := sign_len h1
        have h5 := deep_nn0 x
        refine chainGo_shallow hS L k _ _ _ _ h ?_
        rw [deep_call]
        simp only [deepAll]
        have h6 := deep_nn0 z
        rw [show max 0 (deep x) = deep x from Int.max_eq_right h5]
        omega
theorem chain_shallow {signs : Bs} {spec : RS → Option (Ex × RS)} (hS : Shallow spec) : Shallow (chain signs spec) := by
  intro r x r' h
  rw [chain] at h
  split at h
  · cases h
  · rename_i y r1 h1
    exact chainGo_shallow hS r.ts.length _ _ _ _ _ h (hS _ _ _ h1)
theorem wholeR_len {m : Nums} {n : Int} {r r' : RS} (h : Sp.wholeR m r = some (n, r')) : r'.ts.length ≤ r.ts.length := (wholeR_suffix h).length_le
theorem arg_shallow {m : Nums} {wd : Int} {spec : RS → Option (Ex × RS)} (hS : Shallow spec) {f : FnS} {n : Nat} {r r' : RS} {y : Ex} (h : Sp.arg m wd spec f n r = some (y, r')) : deep y + r'.ts.length ≤ r.ts.length := by
  have leaf : ∀ (k b : Int), k ≠ 3 → deep (.mk k b [] []) = 0 := fun k b hk => by rw [deep, if_neg hk]; rfl
  unfold Sp.arg at h
  split at h
  · split at h
    · cases h
    · rename_i b r1 h1
      simp only [Option.some.injEq, Prod.mk.injEq] at h
      obtain ⟨rfl, rfl⟩ := h
      rw [leaf 4 b (by decide)]
      have := (wholeR_suffix h1).length_le; omega
  · split at h
    · split at h
      · cases h
      · rename_i b r1 h1
        simp only [Option.some.injEq, Prod.mk.injEq] at h
        obtain ⟨rfl, rfl⟩ := h
        rw [leaf 1 b (by decide)]
        have := (numberR_suffix h1).length_le; omega
    · exact hS _ _ _ h
theorem argsGo_shallow {m : Nums} {wd : Int} {spec : RS → Option (Ex × RS)} (hS : Shallow spec) {f : FnS} (L : Int) : ∀ (k : Nat) (l : List Ex) (r : RS) (l' : List Ex) (r' : RS), argsGo m wd spec f k l r = some (l', r') → deepAll l 0 + r.ts.length ≤ L → deepAll l' 0 + r'.ts.length ≤ L
  | 0, _, _, _, _, h, _ => by simp [argsGo] at h
  | k + 1, l, r, l', r', h, hL => by
    rw [argsGo] at h
    split at h
    · cases h
    · rename_i y r1 h1
      have h3 := arg_shallow hS h1
      have h5 := deepAll_ge l 0
      have h6 := deep_nn0 y
      split at h
      · simp only [Option.some.injEq, Prod.mk.injEq] at h
        obtain ⟨rfl, rfl⟩ := h
        rw [deepAll_snoc]
        omega
      · rename_i s r2 h2
        have h4 := sign_len h2
        refine argsGo_shallow hS L k _ _ _ _ h ?_
        rw [deepAll_snoc]
        omega
theorem function_shallow {m : Nums} {wd : Int} {spec : RS → Option (Ex × RS)} (hS : Shallow spec) {s : Bs} {f : FnS} {r r' : RS} {x : Ex} (h : Sp.function m wd spec s f r = some (x, r')) : deep x + r'.ts.length ≤ r.ts.length := by
  unfold Sp.function at h
  split at h
  · cases h
  · rename_i s1 r1 h1
    split at h
    · cases h
    · rename_i l r2 h2
      split at h
      · cases h
      · rename_i s3 r3 h3
        split at h
        · cases h
        · simp only [Option.some.injEq, Prod.mk.injEq] at h
          obtain ⟨rfl, rfl⟩ := h
          rw [deep_call]
          have := argsGo_shallow hS r1.ts.length _ _ _ _ _ h2 (by simp [deepAll])
          have := next_len h1
          have := next_len h3
          omega
theorem factorStep_shallow {m : Nums} {wd : Int} {spec : RS → Option (Ex × RS)} (hS : Shallow spec) : Shallow (factorStep m wd spec) := by
  intro r x r' h
  unfold factorStep at h
  split at h
  · rename_i s1 r1 h1
    split at h
    · cases h
    · rename_i y r2 h2
      simp only [Option.some.injEq, Prod.mk.injEq] at h
      obtain ⟨rfl, rfl⟩ := h
      rw [deep_call]
      have := hS _ _ _ h2
      have := sign_len h1
      have := deep_nn0 y
      simp only [deepAll]
      omega
  · split at h
    · rename_i s1 r1 h1
      split at h
      · cases h
      · rename_i y r2 h2
        split at h
        · cases h
        · rename_i s3 r3 h3
          simp only [Option.some.injEq, Prod.mk.injEq] at h
          obtain ⟨rfl, rfl⟩ := h
          have := chain_shallow (chain_shallow hS) _ _ _ h2
          have := sign_len h1
          have := next_len h3
          omega
    · split at h
      · cases h
      · split at h
        · split at h
          · cases h
          · rename_i b r1 h1
            simp only [Option.some.injEq, Prod.mk.injEq] at h
            obtain ⟨rfl, rfl⟩ := h
            have := (numberR_suffix h1).length_le
            rw [deep, if_neg (by decide)]
            simp only [deepAll]; omega
        · split at h
          · split at h
            · cases h
            · rename_i s1 r1 h1
              have := function_shallow (chain_shallow (chain_shallow hS)) h
              have := next_len h1
              omega
          · split at h
            · cases h
            · rename_i s1 r1 h1
              simp only [Option.some.injEq, Prod.mk.injEq] at h
              obtain ⟨rfl, rfl⟩ := h
              have := (name_suffix h1).length_le
              rw [deep, if_neg (by decide)]
              simp only [deepAll]; omega
theorem factor_shallow (m : Nums) (wd : Int) : ∀ k, Shallow (Sp.factor m wd k)
  | 0 => fun _ _ _ h => by simp [Sp.factor] at h
  | k + 1 => factorStep_shallow (factor_shallow m wd k)
theorem expr_shallow (m : Nums) (wd : Int) : Shallow (Sp.expr m wd) := fun r x r' h => chain_shallow (chain_shallow (factor_shallow m wd _)) r x r' h
/-- How decl ends. -/
def DeclPost (w0 : World) (R T : Nat) (wd : Int) (w : World) (o : Except Int (Dc × RS)) (e : Ending) (w' : World) : Prop :=
  w.grownBy w' (some R) ∧ ((∃ n, o = .error n ∧ e = .panicked (giv n)) ∨ ∃ d r' k bits en A n c, o = .ok (d, r') ∧ e = .returned (.agg (dcs d.kind d.line (bstr d.name) d.rows d.cols d.init d.a d.b k bits en (.slice A n c))) ∧ ExAt w' (Since w.heap.size) d.expr [.int .i64 k, .int .i64 bits, .string en, .slice A n c] ∧ Rd w0 w' R T wd r')
end Go.Proofs.YtdkhedefcmjjgaaGreatDoor
/- decl, walked: a line that declares. (Printed by gen_decl.py.)
Conditions: the numbers' contracts at the words of numbers that the line reads ('NumsAt'). -/
namespace Go.Proofs.YtdkhedefcmjjgaaGreatDoor
open Go.RowKit Sp
set_option linter.unusedSimpArgs false
set_option linter.unusedVariables false
set_option maxHeartbeats 4000000 in
theorem decl_no (m : Nums) (hm : ∀ s, m.whole s = wholeF s) (w0 : World) (R T : Nat) (wd last : Int) (hwd : wd = 32 ∨ wd = 64) (w : World) (r : RS) (hr : Rd w0 w R T wd r) (h1 : Sp.next 110 r = none) :
    Calls Tryz.prog 20 #[.pointer (some ⟨R, 0, none⟩), .int .i64 last] w (DeclPost w0 R T wd w (Sp.decl m wd last r)) := by
  have hr0 := hr.keep ((Below.refl w.heap.size w).alloc (Nat.le_refl _) (.cells #[.int .i64 0, .int .i64 0, .string ⟨#[]⟩, .int .i64 0, .int .i64 0, .int .i64 0, .int .i64 0, .int .i64 0, .int .i64 0, .int .i64 0, .string ⟨#[]⟩, .slice none 0 0] 38))
  have hg0 : w.grownBy (w.alloc (.cells #[.int .i64 0, .int .i64 0, .string ⟨#[]⟩, .int .i64 0, .int .i64 0, .int .i64 0, .int .i64 0, .int .i64 0, .int .i64 0, .int .i64 0, .string ⟨#[]⟩, .slice none 0 0] 38)) (some R) := gr_alloc _ _ _
  have hRw := hr.lt
  have hTw := hr.ltT
  have hBw := hr.below.size
  have y0 : (w.alloc (.cells #[.int .i64 0, .int .i64 0, .string ⟨#[]⟩, .int .i64 0, .int .i64 0, .int .i64 0, .int .i64 0, .int .i64 0, .int .i64 0, .int .i64 0, .string ⟨#[]⟩, .slice none 0 0] 38)).heap[w.heap.size]? = some (.cells (dcs 0 0 ⟨#[]⟩ 0 0 0 0 0 0 0 ⟨#[]⟩ (.slice none 0 0)) 38 (0, 0)) := heap_alloc_new _ _
  have y0' := Lib.hid y0
  clear y0
  have H16 := Lib.hid (next_no (k := 110) (kk := 110) hr0 rfl h1)
  have hfin : Hid (Sp.decl m wd last r = .error 70) := Lib.hid (by unfold Sp.decl; rw [h1])
  clear h1
  go_enter Tryz.func20, Tryz.ntmps20
  go_wp2_with fail
  refine H16.out.mono ?_
  rintro e w1 ⟨rfl, rfl⟩
  go_wp2_with fail
  exact ⟨rfl, hg0, .inl ⟨70, hfin.out, rfl⟩⟩
set_option maxHeartbeats 4000000 in
theorem decl_kind0 (m : Nums) (hm : ∀ s, m.whole s = wholeF s) (w0 : World) (R T : Nat) (wd last : Int) (hwd : wd = 32 ∨ wd = 64) (w : World) (r : RS) (hr : Rd w0 w R T wd r) (s0 : Bs) (r1 : RS) (h1 : Sp.next 110 r = some (s0, r1)) (hk : kindOf s0 = 0) :
    Calls Tryz.prog 20 #[.pointer (some ⟨R, 0, none⟩), .int .i64 last] w (DeclPost w0 R T wd w (Sp.decl m wd last r)) := by
  have hr0 := hr.keep ((Below.refl w.heap.size w).alloc (Nat.le_refl _) (.cells #[.int .i64 0, .int .i64 0, .string ⟨#[]⟩, .int .i64 0, .int .i64 0, .int .i64 0, .int .i64 0, .int .i64 0, .int .i64 0, .int .i64 0, .string ⟨#[]⟩, .slice none 0 0] 38))
  have hg0 : w.grownBy (w.alloc (.cells #[.int .i64 0, .int .i64 0, .string ⟨#[]⟩, .int .i64 0, .int .i64 0, .int .i64 0, .int .i64 0, .int .i64 0, .int .i64 0, .int .i64 0, .string ⟨#[]⟩, .slice none 0 0] 38)) (some R) := gr_alloc _ _ _
  have hRw := hr.lt
  have hTw := hr.ltT
  have hBw := hr.below.size
  have y0 : (w.alloc (.cells #[.int .i64 0, .int .i64 0, .string ⟨#[]⟩, .int .i64 0, .int .i64 0, .int .i64 0, .int .i64 0, .int .i64 0, .int .i64 0, .int .i64 0, .string ⟨#[]⟩, .slice none 0 0] 38)).heap[w.heap.size]? = some (.cells (dcs 0 0 ⟨#[]⟩ 0 0 0 0 0 0 0 ⟨#[]⟩ (.slice none 0 0)) 38 (0, 0)) := heap_alloc_new _ _
  have y0' := Lib.hid y0
  clear y0
  have H16 := Lib.hid (next_ok (k := 110) (kk := 110) hr0 rfl h1)
  have hb0 : (bstr s0).data.toList = s0 := by simp [bstr]
  have H37 : Hid (∀ W, Env W → Calls Tryz.prog 37 #[.string (bstr s0)] W fun e w' => e = .returned (.int .i64 0) ∧ Below W.heap.size W w') := Lib.hid (fun W hW => by
    have := kindOf_any (bstr s0) W hW.space
    rw [hb0, hk] at this
    exact this)
  have hfin : Hid (Sp.decl m wd last r = .error 70) := Lib.hid (by unfold Sp.decl; rw [h1]; dsimp only; rw [if_pos (Or.inl hk)])
  clear h1 hk hb0
  go_enter Tryz.func20, Tryz.ntmps20
  go_wp2_with fail
  refine H16.out.mono ?_
  rintro e w1 ⟨rfl, hg1, hr1⟩
  go_wp2_with fail
  refine (H37.out _ hr1.now).mono ?_
  rintro e w2 ⟨rfl, hb2⟩
  have hs1 := hg1.size
  have hs2 := hb2.size
  simp only [World.size_alloc] at hs1
  have hrD := (hr1.keep hb2).keep ((Below.refl _ _).alloc (Nat.le_refl _) (.cells #[.int .i64 0, .int .i64 0, .string ⟨#[]⟩, .int .i64 0, .int .i64 0, .int .i64 0, .int .i64 0, .int .i64 0, .int .i64 0, .int .i64 0, .string ⟨#[]⟩, .slice none 0 0] 38))
  have hgD : w.grownBy (w2.alloc (.cells #[.int .i64 0, .int .i64 0, .string ⟨#[]⟩, .int .i64 0, .int .i64 0, .int .i64 0, .int .i64 0, .int .i64 0, .int .i64 0, .int .i64 0, .string ⟨#[]⟩, .slice none 0 0] 38)) (some R) := gr_app (gr_trans (gr_trans hg0 hg1) (gr_below hb2 _)) _
  have mD : (w2.alloc (.cells #[.int .i64 0, .int .i64 0, .string ⟨#[]⟩, .int .i64 0, .int .i64 0, .int .i64 0, .int .i64 0, .int .i64 0, .int .i64 0, .int .i64 0, .string ⟨#[]⟩, .slice none 0 0] 38)).heap[w2.heap.size]? = some (.cells (dcs 0 0 ⟨#[]⟩ 0 0 0 0 0 0 0 ⟨#[]⟩ (.slice none 0 0)) 38 (0, 0)) := heap_alloc_new _ _
  have mD' := Lib.hid mD
  have mY : (w2.alloc (.cells #[.int .i64 0, .int .i64 0, .string ⟨#[]⟩, .int .i64 0, .int .i64 0, .int .i64 0, .int .i64 0, .int .i64 0, .int .i64 0, .int .i64 0, .string ⟨#[]⟩, .slice none 0 0] 38)).heap[w.heap.size]? = some (.cells (dcs 0 0 ⟨#[]⟩ 0 0 0 0 0 0 0 ⟨#[]⟩ (.slice none 0 0)) 38 (0, 0)) := (Below.heap_alloc _ _ _ (by omega)).trans ((hb2.block _ (by omega)).trans ((hg1.block _ (by simp) (by simp; omega)).trans y0'.out))
  have mY' := Lib.hid mY
  clear mD mY y0'
  go_wp2_with fail
  refine (syntax_any _ _).mono ?_
  rintro e w3 ⟨rfl, rfl⟩
  go_wp2_with fail
  exact ⟨rfl, hgD, .inl ⟨70, hfin.out, rfl⟩⟩
set_option maxHeartbeats 4000000 in
theorem decl_behind (m : Nums) (hm : ∀ s, m.whole s = wholeF s) (w0 : World) (R T : Nat) (wd last : Int) (hwd : wd = 32 ∨ wd = 64) (w : World) (r : RS) (hr : Rd w0 w R T wd r) (s0 : Bs) (r1 : RS) (h1 : Sp.next 110 r = some (s0, r1)) (kd : Int) (hk : kindOf s0 = kd) (hk0 : kd ≠ 0) (hbh : behind kd last = false) :
    Calls Tryz.prog 20 #[.pointer (some ⟨R, 0, none⟩), .int .i64 last] w (DeclPost w0 R T wd w (Sp.decl m wd last r)) := by
  have hr0 := hr.keep ((Below.refl w.heap.size w).alloc (Nat.le_refl _) (.cells #[.int .i64 0, .int .i64 0, .string ⟨#[]⟩, .int .i64 0, .int .i64 0, .int .i64 0, .int .i64 0, .int .i64 0, .int .i64 0, .int .i64 0, .string ⟨#[]⟩, .slice none 0 0] 38))
  have hg0 : w.grownBy (w.alloc (.cells #[.int .i64 0, .int .i64 0, .string ⟨#[]⟩, .int .i64 0, .int .i64 0, .int .i64 0, .int .i64 0, .int .i64 0, .int .i64 0, .int .i64 0, .string ⟨#[]⟩, .slice none 0 0] 38)) (some R) := gr_alloc _ _ _
  have hRw := hr.lt
  have hTw := hr.ltT
  have hBw := hr.below.size
  have y0 : (w.alloc (.cells #[.int .i64 0, .int .i64 0, .string ⟨#[]⟩, .int .i64 0, .int .i64 0, .int .i64 0, .int .i64 0, .int .i64 0, .int .i64 0, .int .i64 0, .string ⟨#[]⟩, .slice none 0 0] 38)).heap[w.heap.size]? = some (.cells (dcs 0 0 ⟨#[]⟩ 0 0 0 0 0 0 0 ⟨#[]⟩ (.slice none 0 0)) 38 (0, 0)) := heap_alloc_new _ _
  have y0' := Lib.hid y0
  clear y0
  have H16 := Lib.hid (next_ok (k := 110) (kk := 110) hr0 rfl h1)
  have hb0 : (bstr s0).data.toList = s0 := by simp [bstr]
  have H37 : Hid (∀ W, Env W → Calls Tryz.prog 37 #[.string (bstr s0)] W fun e w' => e = .returned (.int .i64 kd) ∧ Below W.heap.size W w') := Lib.hid (fun W hW => by
    have := kindOf_any (bstr s0) W hW.space
    rw [hb0, hk] at this
    exact this)
  have hfin : Hid (Sp.decl m wd last r = .error 70) := Lib.hid (by unfold Sp.decl; rw [h1]; dsimp only; rw [if_pos (Or.inr (by rw [hk]; exact hbh))])
  have hz : (kd == 0) = false := beq_eq_false_iff_ne.2 hk0
  have H38 : Hid (∀ W, Calls Tryz.prog 38 #[.int .i64 kd, .int .i64 last] W fun e w' => e = .returned (.bool false) ∧ W = w') := Lib.hid (fun W => by rw [← hbh]; exact behind_any kd last W)
  clear h1 hk hb0 hbh hk0
  go_enter Tryz.func20, Tryz.ntmps20
  go_wp2_with fail
  refine H16.out.mono ?_
  rintro e w1 ⟨rfl, hg1, hr1⟩
  go_wp2_with fail
  refine (H37.out _ hr1.now).mono ?_
  rintro e w2 ⟨rfl, hb2⟩
  have hs1 := hg1.size
  have hs2 := hb2.size
  simp only [World.size_alloc] at hs1
  have hrD := (hr1.keep hb2).keep ((Below.refl _ _).alloc (Nat.le_refl _) (.cells #[.int .i64 kd, .int .i64 0, .string ⟨#[]⟩, .int .i64 0, .int .i64 0, .int .i64 0, .int .i64 0, .int .i64 0, .int .i64 0, .int .i64 0, .string ⟨#[]⟩, .slice none 0 0] 38))
  have hgD : w.grownBy (w2.alloc (.cells #[.int .i64 kd, .int .i64 0, .string ⟨#[]⟩, .int .i64 0, .int .i64 0, .int .i64 0, .int .i64 0, .int .i64 0, .int .i64 0, .int .i64 0, .string ⟨#[]⟩, .slice none 0 0] 38)) (some R) := gr_app (gr_trans (gr_trans hg0 hg1) (gr_below hb2 _)) _
  have mD : (w2.alloc (.cells #[.int .i64 kd, .int .i64 0, .string ⟨#[]⟩, .int .i64 0, .int .i64 0, .int .i64 0, .int .i64 0, .int .i64 0, .int .i64 0, .int .i64 0, .string ⟨#[]⟩, .slice none 0 0] 38)).heap[w2.heap.size]? = some (.cells (dcs kd 0 ⟨#[]⟩ 0 0 0 0 0 0 0 ⟨#[]⟩ (.slice none 0 0)) 38 (0, 0)) := heap_alloc_new _ _
  have mD' := Lib.hid mD
  have mY : (w2.alloc (.cells #[.int .i64 kd, .int .i64 0, .string ⟨#[]⟩, .int .i64 0, .int .i64 0, .int .i64 0, .int .i64 0, .int .i64 0, .int .i64 0, .int .i64 0, .string ⟨#[]⟩, .slice none 0 0] 38)).heap[w.heap.size]? = some (.cells (dcs 0 0 ⟨#[]⟩ 0 0 0 0 0 0 0 ⟨#[]⟩ (.slice none 0 0)) 38 (0, 0)) := (Below.heap_alloc _ _ _ (by omega)).trans ((hb2.block _ (by omega)).trans ((hg1.block _ (by simp) (by simp; omega)).trans y0'.out))
  have mY' := Lib.hid mY
  clear mD mY y0'
  go_wp2_with fail
  refine (H38.out _).mono ?_
  rintro e w3 ⟨rfl, rfl⟩
  go_wp2_with fail
  refine (syntax_any _ _).mono ?_
  rintro e w3 ⟨rfl, rfl⟩
  go_wp2_with fail
  exact ⟨rfl, hgD, .inl ⟨70, hfin.out, rfl⟩⟩
set_option maxHeartbeats 4000000 in
theorem decl_name (m : Nums) (hm : ∀ s, m.whole s = wholeF s) (w0 : World) (R T : Nat) (wd last : Int) (hwd : wd = 32 ∨ wd = 64) (w : World) (r : RS) (hr : Rd w0 w R T wd r) (s0 : Bs) (r1 : RS) (h1 : Sp.next 110 r = some (s0, r1)) (kd : Int) (hk : kindOf s0 = kd) (hk0 : kd ≠ 0) (hbh : behind kd last = true) (h2 : Sp.name r1 = none) :
    Calls Tryz.prog 20 #[.pointer (some ⟨R, 0, none⟩), .int .i64 last] w (DeclPost w0 R T wd w (Sp.decl m wd last r)) := by
  have hr0 := hr.keep ((Below.refl w.heap.size w).alloc (Nat.le_refl _) (.cells #[.int .i64 0, .int .i64 0, .string ⟨#[]⟩, .int .i64 0, .int .i64 0, .int .i64 0, .int .i64 0, .int .i64 0, .int .i64 0, .int .i64 0, .string ⟨#[]⟩, .slice none 0 0] 38))
  have hg0 : w.grownBy (w.alloc (.cells #[.int .i64 0, .int .i64 0, .string ⟨#[]⟩, .int .i64 0, .int .i64 0, .int .i64 0, .int .i64 0, .int .i64 0, .int .i64 0, .int .i64 0, .string ⟨#[]⟩, .slice none 0 0] 38)) (some R) := gr_alloc _ _ _
  have hRw := hr.lt
  have hTw := hr.ltT
  have hBw := hr.below.size
  have y0 : (w.alloc (.cells #[.int .i64 0, .int .i64 0, .string ⟨#[]⟩, .int .i64 0, .int .i64 0, .int .i64 0, .int .i64 0, .int .i64 0, .int .i64 0, .int .i64 0, .string ⟨#[]⟩, .slice none 0 0] 38)).heap[w.heap.size]? = some (.cells (dcs 0 0 ⟨#[]⟩ 0 0 0 0 0 0 0 ⟨#[]⟩ (.slice none 0 0)) 38 (0, 0)) := heap_alloc_new _ _
  have y0' := Lib.hid y0
  clear y0
  have H16 := Lib.hid (next_ok (k := 110) (kk := 110) hr0 rfl h1)
  have hb0 : (bstr s0).data.toList = s0 := by simp [bstr]
  have H37 : Hid (∀ W, Env W → Calls Tryz.prog 37 #[.string (bstr s0)] W fun e w' => e = .returned (.int .i64 kd) ∧ Below W.heap.size W w') := Lib.hid (fun W hW => by
    have := kindOf_any (bstr s0) W hW.space
    rw [hb0, hk] at this
    exact this)
  have hfin : Hid (Sp.decl m wd last r = .error 70) := Lib.hid (by unfold Sp.decl; rw [h1]; dsimp only; rw [if_neg (by rw [hk, hbh]; simpa using hk0), h2])
  have hz : (kd == 0) = false := beq_eq_false_iff_ne.2 hk0
  have H38 : Hid (∀ W, Calls Tryz.prog 38 #[.int .i64 kd, .int .i64 last] W fun e w' => e = .returned (.bool true) ∧ W = w') := Lib.hid (fun W => by rw [← hbh]; exact behind_any kd last W)
  have H18 : Hid (∀ W, Rd w0 W R T wd r1 → Calls Tryz.prog 18 #[.pointer (some ⟨R, 0, none⟩)] W fun e w' => e = .panicked (giv 70) ∧ W.grownBy w' (some R)) := Lib.hid (fun W hW => name_no hW h2)
  clear h1 hk hb0 hbh hk0 h2
  go_enter Tryz.func20, Tryz.ntmps20
  go_wp2_with fail
  refine H16.out.mono ?_
  rintro e w1 ⟨rfl, hg1, hr1⟩
  go_wp2_with fail
  refine (H37.out _ hr1.now).mono ?_
  rintro e w2 ⟨rfl, hb2⟩
  have hs1 := hg1.size
  have hs2 := hb2.size
  simp only [World.size_alloc] at hs1
  have hrD := (hr1.keep hb2).keep ((Below.refl _ _).alloc (Nat.le_refl _) (.cells #[.int .i64 kd, .int .i64 0, .string ⟨#[]⟩, .int .i64 0, .int .i64 0, .int .i64 0, .int .i64 0, .int .i64 0, .int .i64 0, .int .i64 0, .string ⟨#[]⟩, .slice none 0 0] 38))
  have hgD : w.grownBy (w2.alloc (.cells #[.int .i64 kd, .int .i64 0, .string ⟨#[]⟩, .int .i64 0, .int .i64 0, .int .i64 0, .int .i64 0, .int .i64 0, .int .i64 0, .int .i64 0, .string ⟨#[]⟩, .slice none 0 0] 38)) (some R) := gr_app (gr_trans (gr_trans hg0 hg1) (gr_below hb2 _)) _
  have mD : (w2.alloc (.cells #[.int .i64 kd, .int .i64 0, .string ⟨#[]⟩, .int .i64 0, .int .i64 0, .int .i64 0, .int .i64 0, .int .i64 0, .int .i64 0, .int .i64 0, .string ⟨#[]⟩, .slice none 0 0] 38)).heap[w2.heap.size]? = some (.cells (dcs kd 0 ⟨#[]⟩ 0 0 0 0 0 0 0 ⟨#[]⟩ (.slice none 0 0)) 38 (0, 0)) := heap_alloc_new _ _
  have mD' := Lib.hid mD
  have mY : (w2.alloc (.cells #[.int .i64 kd, .int .i64 0, .string ⟨#[]⟩, .int .i64 0, .int .i64 0, .int .i64 0, .int .i64 0, .int .i64 0, .int .i64 0, .int .i64 0, .string ⟨#[]⟩, .slice none 0 0] 38)).heap[w.heap.size]? = some (.cells (dcs 0 0 ⟨#[]⟩ 0 0 0 0 0 0 0 ⟨#[]⟩ (.slice none 0 0)) 38 (0, 0)) := (Below.heap_alloc _ _ _ (by omega)).trans ((hb2.block _ (by omega)).trans ((hg1.block _ (by simp) (by simp; omega)).trans y0'.out))
  have mY' := Lib.hid mY
  clear mD mY y0'
  go_wp2_with fail
  refine (H38.out _).mono ?_
  rintro e w3 ⟨rfl, rfl⟩
  go_wp2_with fail
  refine (H18.out _ hrD).mono ?_
  rintro e w3 ⟨rfl, hg3⟩
  go_wp2_with fail
  exact ⟨rfl, gr_trans hgD hg3, .inl ⟨70, hfin.out, rfl⟩⟩
set_option maxHeartbeats 4000000 in
theorem decl_5 (m : Nums) (hm : ∀ s, m.whole s = wholeF s) (w0 : World) (R T : Nat) (wd last : Int) (hwd : wd = 32 ∨ wd = 64) (w : World) (r : RS) (hr : Rd w0 w R T wd r) (s0 : Bs) (r1 : RS) (h1 : Sp.next 110 r = some (s0, r1)) (hk : kindOf s0 = 5) (hbh : behind 5 last = true) (s : Bs) (r2 : RS) (h2 : Sp.name r1 = some (s, r2)) :
    Calls Tryz.prog 20 #[.pointer (some ⟨R, 0, none⟩), .int .i64 last] w (DeclPost w0 R T wd w (Sp.decl m wd last r)) := by
  have hr0 := hr.keep ((Below.refl w.heap.size w).alloc (Nat.le_refl _) (.cells #[.int .i64 0, .int .i64 0, .string ⟨#[]⟩, .int .i64 0, .int .i64 0, .int .i64 0, .int .i64 0, .int .i64 0, .int .i64 0, .int .i64 0, .string ⟨#[]⟩, .slice none 0 0] 38))
  have hg0 : w.grownBy (w.alloc (.cells #[.int .i64 0, .int .i64 0, .string ⟨#[]⟩, .int .i64 0, .int .i64 0, .int .i64 0, .int .i64 0, .int .i64 0, .int .i64 0, .int .i64 0, .string ⟨#[]⟩, .slice none 0 0] 38)) (some R) := gr_alloc _ _ _
  have hRw := hr.lt
  have hTw := hr.ltT
  have hBw := hr.below.size
  have y0 : (w.alloc (.cells #[.int .i64 0, .int .i64 0, .string ⟨#[]⟩, .int .i64 0, .int .i64 0, .int .i64 0, .int .i64 0, .int .i64 0, .int .i64 0, .int .i64 0, .string ⟨#[]⟩, .slice none 0 0] 38)).heap[w.heap.size]? = some (.cells (dcs 0 0 ⟨#[]⟩ 0 0 0 0 0 0 0 ⟨#[]⟩ (.slice none 0 0)) 38 (0, 0)) := heap_alloc_new _ _
  have y0' := Lib.hid y0
  clear y0
  have H16 := Lib.hid (next_ok (k := 110) (kk := 110) hr0 rfl h1)
  have hb0 : (bstr s0).data.toList = s0 := by simp [bstr]
  have H37 : Hid (∀ W, Env W → Calls Tryz.prog 37 #[.string (bstr s0)] W fun e w' => e = .returned (.int .i64 5) ∧ Below W.heap.size W w') := Lib.hid (fun W hW => by
    have := kindOf_any (bstr s0) W hW.space
    rw [hb0, hk] at this
    exact this)
  have hspec : Hid (Sp.decl m wd last r = if r2.ts ≠ [] then .error 70 else if 64 < deep Sp.nil then .error 2 else if r2.stop ≠ 0 then .error r2.stop else .ok (⟨5, 0, s, 0, 0, 0, 0, 0, Sp.nil⟩, r2)) := Lib.hid (by
    unfold Sp.decl; rw [h1]; dsimp only; rw [if_neg (by rw [hk, hbh]; decide), h2]; dsimp only; rw [hk]; rfl)
  have H38 : Hid (∀ W, Calls Tryz.prog 38 #[.int .i64 5, .int .i64 last] W fun e w' => e = .returned (.bool true) ∧ W = w') := Lib.hid (fun W => by rw [← hbh]; exact behind_any 5 last W)
  have H18 : Hid (∀ W, Rd w0 W R T wd r1 → Calls Tryz.prog 18 #[.pointer (some ⟨R, 0, none⟩)] W fun e w' => e = .returned (.string (bstr s)) ∧ W.grownBy w' (some R) ∧ Rd w0 w' R T wd r2) := Lib.hid (fun W hW => name_ok hW h2)
  have hdx : deep Sp.nil ≤ 1000000 := by decide
  clear h1 hk hb0 hbh h2
  go_enter Tryz.func20, Tryz.ntmps20
  go_wp2_with fail
  refine H16.out.mono ?_
  rintro e w1 ⟨rfl, hg1, hr1⟩
  go_wp2_with fail
  refine (H37.out _ hr1.now).mono ?_
  rintro e w2 ⟨rfl, hb2⟩
  have hs1 := hg1.size
  have hs2 := hb2.size
  simp only [World.size_alloc] at hs1
  have hrD := (hr1.keep hb2).keep ((Below.refl _ _).alloc (Nat.le_refl _) (.cells #[.int .i64 5, .int .i64 0, .string ⟨#[]⟩, .int .i64 0, .int .i64 0, .int .i64 0, .int .i64 0, .int .i64 0, .int .i64 0, .int .i64 0, .string ⟨#[]⟩, .slice none 0 0] 38))
  have hgD : w.grownBy (w2.alloc (.cells #[.int .i64 5, .int .i64 0, .string ⟨#[]⟩, .int .i64 0, .int .i64 0, .int .i64 0, .int .i64 0, .int .i64 0, .int .i64 0, .int .i64 0, .string ⟨#[]⟩, .slice none 0 0] 38)) (some R) := gr_app (gr_trans (gr_trans hg0 hg1) (gr_below hb2 _)) _
  have mD : (w2.alloc (.cells #[.int .i64 5, .int .i64 0, .string ⟨#[]⟩, .int .i64 0, .int .i64 0, .int .i64 0, .int .i64 0, .int .i64 0, .int .i64 0, .int .i64 0, .string ⟨#[]⟩, .slice none 0 0] 38)).heap[w2.heap.size]? = some (.cells (dcs 5 0 ⟨#[]⟩ 0 0 0 0 0 0 0 ⟨#[]⟩ (.slice none 0 0)) 38 (0, 0)) := heap_alloc_new _ _
  have mD' := Lib.hid mD
  have mY : (w2.alloc (.cells #[.int .i64 5, .int .i64 0, .string ⟨#[]⟩, .int .i64 0, .int .i64 0, .int .i64 0, .int .i64 0, .int .i64 0, .int .i64 0, .int .i64 0, .string ⟨#[]⟩, .slice none 0 0] 38)).heap[w.heap.size]? = some (.cells (dcs 0 0 ⟨#[]⟩ 0 0 0 0 0 0 0 ⟨#[]⟩ (.slice none 0 0)) 38 (0, 0)) := (Below.heap_alloc _ _ _ (by omega)).trans ((hb2.block _ (by omega)).trans ((hg1.block _ (by simp) (by simp; omega)).trans y0'.out))
  have mY' := Lib.hid mY
  clear mD mY y0'
  go_wp2_with fail
  refine (H38.out _).mono ?_
  rintro e w3 ⟨rfl, rfl⟩
  go_wp2_with fail
  refine (H18.out _ hrD).mono ?_
  rintro e w3 ⟨rfl, hg3, hr3⟩
  have hs3 := hg3.size
  simp only [World.size_alloc] at hs3
  have hDR : w2.heap.size ≠ R := by omega
  have hDT : w2.heap.size ≠ T := by omega
  have hDB : w0.heap.size ≤ w2.heap.size := by omega
  have hDw : w.heap.size ≤ w2.heap.size := by omega
  have hDY : w2.heap.size ≠ w.heap.size := by omega
  have hYR : w.heap.size ≠ R := by omega
  have mD3 := Lib.hid ((hg3.block w2.heap.size (by simp) (by simpa using hDR)).trans mD'.out)
  have mY3 := Lib.hid ((hg3.block w.heap.size (by simp; omega) (by simpa using hYR)).trans mY'.out)
  have hgw3 := gr_trans hgD hg3
  generalize hDD : w2.heap.size = D at *
  have c0 : w3.cell? ⟨D, 0, none⟩ = some (.int .i64 5) := cell_heap mD3.out 0
  have c1 : w3.cell? ⟨D, 1, none⟩ = some (.int .i64 0) := cell_heap mD3.out 1
  have c2 : w3.cell? ⟨D, 2, none⟩ = some (.string ⟨#[]⟩) := cell_heap mD3.out 2
  have c3 : w3.cell? ⟨D, 3, none⟩ = some (.int .i64 0) := cell_heap mD3.out 3
  have c4 : w3.cell? ⟨D, 4, none⟩ = some (.int .i64 0) := cell_heap mD3.out 4
  have c5 : w3.cell? ⟨D, 5, none⟩ = some (.int .i64 0) := cell_heap mD3.out 5
  have c6 : w3.cell? ⟨D, 6, none⟩ = some (.int .i64 0) := cell_heap mD3.out 6
  have c7 : w3.cell? ⟨D, 7, none⟩ = some (.int .i64 0) := cell_heap mD3.out 7
  have c8 : w3.cell? ⟨D, 8, none⟩ = some (.int .i64 0) := cell_heap mD3.out 8
  have c9 : w3.cell? ⟨D, 9, none⟩ = some (.int .i64 0) := cell_heap mD3.out 9
  have c10 : w3.cell? ⟨D, 10, none⟩ = some (.string ⟨#[]⟩) := cell_heap mD3.out 10
  have c11 : w3.cell? ⟨D, 11, none⟩ = some (.slice none 0 0) := cell_heap mD3.out 11
  have df3 : ∀ i, w3.frozen? ⟨D, i, none⟩ = false := fun i => free_heap mD3.out i
  have hmD : Hid ((w3.setCell ⟨D, 2, none⟩ (.string (bstr s))).heap[D]? = some (.cells (dcs 5 0 (bstr s) 0 0 0 0 0 0 0 ⟨#[]⟩ (.slice none 0 0)) 38 (0, 0))) := Lib.hid (set_heap mD3.out 2 (.string (bstr s)))
  have hmY := Lib.hid ((Below.heap_setCell w3 ⟨D, 2, none⟩ (.string (bstr s)) _ (Ne.symm hDY)).trans mY3.out)
  have hrt := Lib.hid (hr3.other hDR hDT hDB 2 (.string (bstr s)))
  have hgt := Lib.hid (gr_new hgw3 (show w.heap.size ≤ D by omega) (p := ⟨D, 2, none⟩) (.string (bstr s)))
  have hxt := Lib.hid (ExAt.leaf (w3.setCell ⟨D, 2, none⟩ (.string (bstr s))) (fun g => w.heap.size ≤ g ∧ g ≠ w.heap.size) 0 0)
  obtain ⟨Aw, cw, hcw, _⟩ := hrt.out.words
  have hst := (hrt.out.stop).1
  have a0 : (w3.setCell ⟨D, 2, none⟩ (.string (bstr s))).cell? ⟨D, 0, none⟩ = some (.int .i64 5) := cell_heap hmD.out 0
  have a1 : (w3.setCell ⟨D, 2, none⟩ (.string (bstr s))).cell? ⟨D, 1, none⟩ = some (.int .i64 0) := cell_heap hmD.out 1
  have a2 : (w3.setCell ⟨D, 2, none⟩ (.string (bstr s))).cell? ⟨D, 2, none⟩ = some (.string (bstr s)) := cell_heap hmD.out 2
  have a3 : (w3.setCell ⟨D, 2, none⟩ (.string (bstr s))).cell? ⟨D, 3, none⟩ = some (.int .i64 0) := cell_heap hmD.out 3
  have a4 : (w3.setCell ⟨D, 2, none⟩ (.string (bstr s))).cell? ⟨D, 4, none⟩ = some (.int .i64 0) := cell_heap hmD.out 4
  have a5 : (w3.setCell ⟨D, 2, none⟩ (.string (bstr s))).cell? ⟨D, 5, none⟩ = some (.int .i64 0) := cell_heap hmD.out 5
  have a6 : (w3.setCell ⟨D, 2, none⟩ (.string (bstr s))).cell? ⟨D, 6, none⟩ = some (.int .i64 0) := cell_heap hmD.out 6
  have a7 : (w3.setCell ⟨D, 2, none⟩ (.string (bstr s))).cell? ⟨D, 7, none⟩ = some (.int .i64 0) := cell_heap hmD.out 7
  have a8 : (w3.setCell ⟨D, 2, none⟩ (.string (bstr s))).cell? ⟨D, 8, none⟩ = some (.int .i64 0) := cell_heap hmD.out 8
  have a9 : (w3.setCell ⟨D, 2, none⟩ (.string (bstr s))).cell? ⟨D, 9, none⟩ = some (.int .i64 0) := cell_heap hmD.out 9
  have a10 : (w3.setCell ⟨D, 2, none⟩ (.string (bstr s))).cell? ⟨D, 10, none⟩ = some (.string ⟨#[]⟩) := cell_heap hmD.out 10
  have a11 : (w3.setCell ⟨D, 2, none⟩ (.string (bstr s))).cell? ⟨D, 11, none⟩ = some (.slice none 0 0) := cell_heap hmD.out 11
  by_cases hts : r2.ts = []
  · have hl0 : r2.ts.length = 0 := by rw [hts]; rfl
    rw [hl0] at hcw
    have hd6 : deep Sp.nil ≤ 1000000 := hdx
    have H42 := Lib.hid (deep_any (SizeOf.sizeOf Sp.nil) Sp.nil (Nat.le_refl _) _ _ _ _ _ _ _ _ hxt.out hd6)
    go_wp2_with fail
    refine H42.out.mono ?_
    rintro e w8 ⟨rfl, hb8⟩
    have st8 := cell_old hb8 hst
    have hm8 := Lib.hid ((hb8.block D (heap_lt hmD.out)).trans hmD.out)
    have hy8 := Lib.hid ((hb8.block w.heap.size (heap_lt hmY.out)).trans hmY.out)
    clear a0 a1 a2 a3 a4 a5 a6 a7 a8 a9 a10 a11 hcw hst
    by_cases hd : 64 < deep Sp.nil
    · have hfin : Hid (Sp.decl m wd last r = .error 2) := Lib.hid (by rw [hspec.out, if_neg (by simpa using hts), if_pos hd])
      go_wp2_with fail
      exact ⟨rfl, gr_trans hgt.out (gr_below hb8 _), .inl ⟨2, hfin.out, rfl⟩⟩
    · have hdle : deep Sp.nil ≤ 64 := by omega
      have hd' := Lib.hid hd
      clear hd
      by_cases hs0 : r2.stop = 0
      · have hfin : Hid (Sp.decl m wd last r = .ok (⟨5, 0, s, 0, 0, 0, 0, 0, Sp.nil⟩, r2)) := Lib.hid (by rw [hspec.out, if_neg (by simpa using hts), if_neg hd'.out, if_neg (by simpa using hs0)])
        have hput := Lib.hid (row_step (x := Sp.nil) (ok := (fun g => w.heap.size ≤ g ∧ g ≠ w.heap.size)) (q1 := 0) (q2 := 0) (q3 := ⟨#[]⟩) (Y := w.heap.size) (dcs 5 0 (bstr s) 0 0 0 0 0 0 0 ⟨#[]⟩ (.slice none 0 0)) (Nat.le_refl _) hRw hTw hBw (gr_trans hgt.out (gr_below hb8 _)) (hxt.out.old hb8) (fun g hg => hg.1) (fun h => h.2 rfl) (hrt.out.keep hb8))
        have hp12 := Lib.hid (setRow_heap w8 w.heap.size _ (dcs 5 0 (bstr s) 0 0 0 0 0 0 0 ⟨#[]⟩ (.slice none 0 0)) 38 (0, 0) hy8.out)
        rw [hs0] at st8
        go_wp2_with (first | (refine wpList_load_row rfl 38 _ rfl D rfl 38 _ (0, 0) _ hm8.out und38 rfl info38s ?_) | (refine wpList_store_row rfl 38 _ _ rfl w.heap.size (dcs 5 0 (bstr s) 0 0 0 0 0 0 0 ⟨#[]⟩ (.slice none 0 0)) rfl rfl 38 _ hy8.out info38s rfl (by simp [dcs, Value.oneCell']) ?_))
        exact bodyPost_ret (results38 (p := 4) rfl _ _ w.heap.size 5 0 (bstr s) 0 0 0 0 0 0 0 ⟨#[]⟩ _ rfl hp12.out) rfl ⟨hput.out.1, .inr ⟨_, r2, _, _, _, _, _, _, hfin.out, rfl, hput.out.2.1, hput.out.2.2⟩⟩
      · have hfin : Hid (Sp.decl m wd last r = .error r2.stop) := Lib.hid (by rw [hspec.out, if_neg (by simpa using hts), if_neg hd'.out, if_pos hs0])
        have hs1 : (r2.stop == 0) = false := beq_eq_false_iff_ne.2 hs0
        have hs2 : (r2.stop != 0) = true := bne_iff_ne.2 hs0
        clear hs0
        go_wp2_with fail
        exact ⟨rfl, gr_trans hgt.out (gr_below hb8 _), .inl ⟨_, hfin.out, rfl⟩⟩
  · have hfin : Hid (Sp.decl m wd last r = .error 70) := Lib.hid (by rw [hspec.out, if_pos hts])
    have hl0 : 0 < r2.ts.length := List.length_pos_iff.2 hts
    clear hts
    go_wp2_with fail
    refine (syntax_any _ _).mono ?_
    rintro e w8 ⟨rfl, rfl⟩
    go_wp2_with fail
    exact ⟨rfl, hgt.out, .inl ⟨70, hfin.out, rfl⟩⟩
set_option maxHeartbeats 4000000 in
theorem decl_6 (m : Nums) (hm : ∀ s, m.whole s = wholeF s) (w0 : World) (R T : Nat) (wd last : Int) (hwd : wd = 32 ∨ wd = 64) (w : World) (r : RS) (hr : Rd w0 w R T wd r) (s0 : Bs) (r1 : RS) (h1 : Sp.next 110 r = some (s0, r1)) (hk : kindOf s0 = 6) (hbh : behind 6 last = true) (s : Bs) (r2 : RS) (h2 : Sp.name r1 = some (s, r2)) :
    Calls Tryz.prog 20 #[.pointer (some ⟨R, 0, none⟩), .int .i64 last] w (DeclPost w0 R T wd w (Sp.decl m wd last r)) := by
  have hr0 := hr.keep ((Below.refl w.heap.size w).alloc (Nat.le_refl _) (.cells #[.int .i64 0, .int .i64 0, .string ⟨#[]⟩, .int .i64 0, .int .i64 0, .int .i64 0, .int .i64 0, .int .i64 0, .int .i64 0, .int .i64 0, .string ⟨#[]⟩, .slice none 0 0] 38))
  have hg0 : w.grownBy (w.alloc (.cells #[.int .i64 0, .int .i64 0, .string ⟨#[]⟩, .int .i64 0, .int .i64 0, .int .i64 0, .int .i64 0, .int .i64 0, .int .i64 0, .int .i64 0, .string ⟨#[]⟩, .slice none 0 0] 38)) (some R) := gr_alloc _ _ _
  have hRw := hr.lt
  have hTw := hr.ltT
  have hBw := hr.below.size
  have y0 : (w.alloc (.cells #[.int .i64 0, .int .i64 0, .string ⟨#[]⟩, .int .i64 0, .int .i64 0, .int .i64 0, .int .i64 0, .int .i64 0, .int .i64 0, .int .i64 0, .string ⟨#[]⟩, .slice none 0 0] 38)).heap[w.heap.size]? = some (.cells (dcs 0 0 ⟨#[]⟩ 0 0 0 0 0 0 0 ⟨#[]⟩ (.slice none 0 0)) 38 (0, 0)) := heap_alloc_new _ _
  have y0' := Lib.hid y0
  clear y0
  have H16 := Lib.hid (next_ok (k := 110) (kk := 110) hr0 rfl h1)
  have hb0 : (bstr s0).data.toList = s0 := by simp [bstr]
  have H37 : Hid (∀ W, Env W → Calls Tryz.prog 37 #[.string (bstr s0)] W fun e w' => e = .returned (.int .i64 6) ∧ Below W.heap.size W w') := Lib.hid (fun W hW => by
    have := kindOf_any (bstr s0) W hW.space
    rw [hb0, hk] at this
    exact this)
  have hspec : Hid (Sp.decl m wd last r = if r2.ts ≠ [] then .error 70 else if 64 < deep Sp.nil then .error 2 else if r2.stop ≠ 0 then .error r2.stop else .ok (⟨6, 0, s, 0, 0, 0, 0, 0, Sp.nil⟩, r2)) := Lib.hid (by
    unfold Sp.decl; rw [h1]; dsimp only; rw [if_neg (by rw [hk, hbh]; decide), h2]; dsimp only; rw [hk]; rfl)
  have H38 : Hid (∀ W, Calls Tryz.prog 38 #[.int .i64 6, .int .i64 last] W fun e w' => e = .returned (.bool true) ∧ W = w') := Lib.hid (fun W => by rw [← hbh]; exact behind_any 6 last W)
  have H18 : Hid (∀ W, Rd w0 W R T wd r1 → Calls Tryz.prog 18 #[.pointer (some ⟨R, 0, none⟩)] W fun e w' => e = .returned (.string (bstr s)) ∧ W.grownBy w' (some R) ∧ Rd w0 w' R T wd r2) := Lib.hid (fun W hW => name_ok hW h2)
  have hdx : deep Sp.nil ≤ 1000000 := by decide
  clear h1 hk hb0 hbh h2
  go_enter Tryz.func20, Tryz.ntmps20
  go_wp2_with fail
  refine H16.out.mono ?_
  rintro e w1 ⟨rfl, hg1, hr1⟩
  go_wp2_with fail
  refine (H37.out _ hr1.now).mono ?_
  rintro e w2 ⟨rfl, hb2⟩
  have hs1 := hg1.size
  have hs2 := hb2.size
  simp only [World.size_alloc] at hs1
  have hrD := (hr1.keep hb2).keep ((Below.refl _ _).alloc (Nat.le_refl _) (.cells #[.int .i64 6, .int .i64 0, .string ⟨#[]⟩, .int .i64 0, .int .i64 0, .int .i64 0, .int .i64 0, .int .i64 0, .int .i64 0, .int .i64 0, .string ⟨#[]⟩, .slice none 0 0] 38))
  have hgD : w.grownBy (w2.alloc (.cells #[.int .i64 6, .int .i64 0, .string ⟨#[]⟩, .int .i64 0, .int .i64 0, .int .i64 0, .int .i64 0, .int .i64 0, .int .i64 0, .int .i64 0, .string ⟨#[]⟩, .slice none 0 0] 38)) (some R) := gr_app (gr_trans (gr_trans hg0 hg1) (gr_below hb2 _)) _
  have mD : (w2.alloc (.cells #[.int .i64 6, .int .i64 0, .string ⟨#[]⟩, .int .i64 0, .int .i64 0, .int .i64 0, .int .i64 0, .int .i64 0, .int .i64 0, .int .i64 0, .string ⟨#[]⟩, .slice none 0 0] 38)).heap[w2.heap.size]? = some (.cells (dcs 6 0 ⟨#[]⟩ 0 0 0 0 0 0 0 ⟨#[]⟩ (.slice none 0 0)) 38 (0, 0)) := heap_alloc_new _ _
  have mD' := Lib.hid mD
  have mY : (w2.alloc (.cells #[.int .i64 6, .int .i64 0, .string ⟨#[]⟩, .int .i64 0, .int .i64 0, .int .i64 0, .int .i64 0, .int .i64 0, .int .i64 0, .int .i64 0, .string ⟨#[]⟩, .slice none 0 0] 38)).heap[w.heap.size]? = some (.cells (dcs 0 0 ⟨#[]⟩ 0 0 0 0 0 0 0 ⟨#[]⟩ (.slice none 0 0)) 38 (0, 0)) := (Below.heap_alloc _ _ _ (by omega)).trans ((hb2.block _ (by omega)).trans ((hg1.block _ (by simp) (by simp; omega)).trans y0'.out))
  have mY' := Lib.hid mY
  clear mD mY y0'
  go_wp2_with fail
  refine (H38.out _).mono ?_
  rintro e w3 ⟨rfl, rfl⟩
  go_wp2_with fail
  refine (H18.out _ hrD).mono ?_
  rintro e w3 ⟨rfl, hg3, hr3⟩
  have hs3 := hg3.size
  simp only [World.size_alloc] at hs3
  have hDR : w2.heap.size ≠ R := by omega
  have hDT : w2.heap.size ≠ T := by omega
  have hDB : w0.heap.size ≤ w2.heap.size := by omega
  have hDw : w.heap.size ≤ w2.heap.size := by omega
  have hDY : w2.heap.size ≠ w.heap.size := by omega
  have hYR : w.heap.size ≠ R := by omega
  have mD3 := Lib.hid ((hg3.block w2.heap.size (by simp) (by simpa using hDR)).trans mD'.out)
  have mY3 := Lib.hid ((hg3.block w.heap.size (by simp; omega) (by simpa using hYR)).trans mY'.out)
  have hgw3 := gr_trans hgD hg3
  generalize hDD : w2.heap.size = D at *
  have c0 : w3.cell? ⟨D, 0, none⟩ = some (.int .i64 6) := cell_heap mD3.out 0
  have c1 : w3.cell? ⟨D, 1, none⟩ = some (.int .i64 0) := cell_heap mD3.out 1
  have c2 : w3.cell? ⟨D, 2, none⟩ = some (.string ⟨#[]⟩) := cell_heap mD3.out 2
  have c3 : w3.cell? ⟨D, 3, none⟩ = some (.int .i64 0) := cell_heap mD3.out 3
  have c4 : w3.cell? ⟨D, 4, none⟩ = some (.int .i64 0) := cell_heap mD3.out 4
  have c5 : w3.cell? ⟨D, 5, none⟩ = some (.int .i64 0) := cell_heap mD3.out 5
  have c6 : w3.cell? ⟨D, 6, none⟩ = some (.int .i64 0) := cell_heap mD3.out 6
  have c7 : w3.cell? ⟨D, 7, none⟩ = some (.int .i64 0) := cell_heap mD3.out 7
  have c8 : w3.cell? ⟨D, 8, none⟩ = some (.int .i64 0) := cell_heap mD3.out 8
  have c9 : w3.cell? ⟨D, 9, none⟩ = some (.int .i64 0) := cell_heap mD3.out 9
  have c10 : w3.cell? ⟨D, 10, none⟩ = some (.string ⟨#[]⟩) := cell_heap mD3.out 10
  have c11 : w3.cell? ⟨D, 11, none⟩ = some (.slice none 0 0) := cell_heap mD3.out 11
  have df3 : ∀ i, w3.frozen? ⟨D, i, none⟩ = false := fun i => free_heap mD3.out i
  have hmD : Hid ((w3.setCell ⟨D, 2, none⟩ (.string (bstr s))).heap[D]? = some (.cells (dcs 6 0 (bstr s) 0 0 0 0 0 0 0 ⟨#[]⟩ (.slice none 0 0)) 38 (0, 0))) := Lib.hid (set_heap mD3.out 2 (.string (bstr s)))
  have hmY := Lib.hid ((Below.heap_setCell w3 ⟨D, 2, none⟩ (.string (bstr s)) _ (Ne.symm hDY)).trans mY3.out)
  have hrt := Lib.hid (hr3.other hDR hDT hDB 2 (.string (bstr s)))
  have hgt := Lib.hid (gr_new hgw3 (show w.heap.size ≤ D by omega) (p := ⟨D, 2, none⟩) (.string (bstr s)))
  have hxt := Lib.hid (ExAt.leaf (w3.setCell ⟨D, 2, none⟩ (.string (bstr s))) (fun g => w.heap.size ≤ g ∧ g ≠ w.heap.size) 0 0)
  obtain ⟨Aw, cw, hcw, _⟩ := hrt.out.words
  have hst := (hrt.out.stop).1
  have a0 : (w3.setCell ⟨D, 2, none⟩ (.string (bstr s))).cell? ⟨D, 0, none⟩ = some (.int .i64 6) := cell_heap hmD.out 0
  have a1 : (w3.setCell ⟨D, 2, none⟩ (.string (bstr s))).cell? ⟨D, 1, none⟩ = some (.int .i64 0) := cell_heap hmD.out 1
  have a2 : (w3.setCell ⟨D, 2, none⟩ (.string (bstr s))).cell? ⟨D, 2, none⟩ = some (.string (bstr s)) := cell_heap hmD.out 2
  have a3 : (w3.setCell ⟨D, 2, none⟩ (.string (bstr s))).cell? ⟨D, 3, none⟩ = some (.int .i64 0) := cell_heap hmD.out 3
  have a4 : (w3.setCell ⟨D, 2, none⟩ (.string (bstr s))).cell? ⟨D, 4, none⟩ = some (.int .i64 0) := cell_heap hmD.out 4
  have a5 : (w3.setCell ⟨D, 2, none⟩ (.string (bstr s))).cell? ⟨D, 5, none⟩ = some (.int .i64 0) := cell_heap hmD.out 5
  have a6 : (w3.setCell ⟨D, 2, none⟩ (.string (bstr s))).cell? ⟨D, 6, none⟩ = some (.int .i64 0) := cell_heap hmD.out 6
  have a7 : (w3.setCell ⟨D, 2, none⟩ (.string (bstr s))).cell? ⟨D, 7, none⟩ = some (.int .i64 0) := cell_heap hmD.out 7
  have a8 : (w3.setCell ⟨D, 2, none⟩ (.string (bstr s))).cell? ⟨D, 8, none⟩ = some (.int .i64 0) := cell_heap hmD.out 8
  have a9 : (w3.setCell ⟨D, 2, none⟩ (.string (bstr s))).cell? ⟨D, 9, none⟩ = some (.int .i64 0) := cell_heap hmD.out 9
  have a10 : (w3.setCell ⟨D, 2, none⟩ (.string (bstr s))).cell? ⟨D, 10, none⟩ = some (.string ⟨#[]⟩) := cell_heap hmD.out 10
  have a11 : (w3.setCell ⟨D, 2, none⟩ (.string (bstr s))).cell? ⟨D, 11, none⟩ = some (.slice none 0 0) := cell_heap hmD.out 11
  by_cases hts : r2.ts = []
  · have hl0 : r2.ts.length = 0 := by rw [hts]; rfl
    rw [hl0] at hcw
    have hd6 : deep Sp.nil ≤ 1000000 := hdx
    have H42 := Lib.hid (deep_any (SizeOf.sizeOf Sp.nil) Sp.nil (Nat.le_refl _) _ _ _ _ _ _ _ _ hxt.out hd6)
    go_wp2_with fail
    refine H42.out.mono ?_
    rintro e w8 ⟨rfl, hb8⟩
    have st8 := cell_old hb8 hst
    have hm8 := Lib.hid ((hb8.block D (heap_lt hmD.out)).trans hmD.out)
    have hy8 := Lib.hid ((hb8.block w.heap.size (heap_lt hmY.out)).trans hmY.out)
    clear a0 a1 a2 a3 a4 a5 a6 a7 a8 a9 a10 a11 hcw hst
    by_cases hd : 64 < deep Sp.nil
    · have hfin : Hid (Sp.decl m wd last r = .error 2) := Lib.hid (by rw [hspec.out, if_neg (by simpa using hts), if_pos hd])
      go_wp2_with fail
      exact ⟨rfl, gr_trans hgt.out (gr_below hb8 _), .inl ⟨2, hfin.out, rfl⟩⟩
    · have hdle : deep Sp.nil ≤ 64 := by omega
      have hd' := Lib.hid hd
      clear hd
      by_cases hs0 : r2.stop = 0
      · have hfin : Hid (Sp.decl m wd last r = .ok (⟨6, 0, s, 0, 0, 0, 0, 0, Sp.nil⟩, r2)) := Lib.hid (by rw [hspec.out, if_neg (by simpa using hts), if_neg hd'.out, if_neg (by simpa using hs0)])
        have hput := Lib.hid (row_step (x := Sp.nil) (ok := (fun g => w.heap.size ≤ g ∧ g ≠ w.heap.size)) (q1 := 0) (q2 := 0) (q3 := ⟨#[]⟩) (Y := w.heap.size) (dcs 6 0 (bstr s) 0 0 0 0 0 0 0 ⟨#[]⟩ (.slice none 0 0)) (Nat.le_refl _) hRw hTw hBw (gr_trans hgt.out (gr_below hb8 _)) (hxt.out.old hb8) (fun g hg => hg.1) (fun h => h.2 rfl) (hrt.out.keep hb8))
        have hp12 := Lib.hid (setRow_heap w8 w.heap.size _ (dcs 6 0 (bstr s) 0 0 0 0 0 0 0 ⟨#[]⟩ (.slice none 0 0)) 38 (0, 0) hy8.out)
        rw [hs0] at st8
        go_wp2_with (first | (refine wpList_load_row rfl 38 _ rfl D rfl 38 _ (0, 0) _ hm8.out und38 rfl info38s ?_) | (refine wpList_store_row rfl 38 _ _ rfl w.heap.size (dcs 6 0 (bstr s) 0 0 0 0 0 0 0 ⟨#[]⟩ (.slice none 0 0)) rfl rfl 38 _ hy8.out info38s rfl (by simp [dcs, Value.oneCell']) ?_))
        exact bodyPost_ret (results38 (p := 4) rfl _ _ w.heap.size 6 0 (bstr s) 0 0 0 0 0 0 0 ⟨#[]⟩ _ rfl hp12.out) rfl ⟨hput.out.1, .inr ⟨_, r2, _, _, _, _, _, _, hfin.out, rfl, hput.out.2.1, hput.out.2.2⟩⟩
      · have hfin : Hid (Sp.decl m wd last r = .error r2.stop) := Lib.hid (by rw [hspec.out, if_neg (by simpa using hts), if_neg hd'.out, if_pos hs0])
        have hs1 : (r2.stop == 0) = false := beq_eq_false_iff_ne.2 hs0
        have hs2 : (r2.stop != 0) = true := bne_iff_ne.2 hs0
        clear hs0
        go_wp2_with fail
        exact ⟨rfl, gr_trans hgt.out (gr_below hb8 _), .inl ⟨_, hfin.out, rfl⟩⟩
  · have hfin : Hid (Sp.decl m wd last r = .error 70) := Lib.hid (by rw [hspec.out, if_pos hts])
    have hl0 : 0 < r2.ts.length := List.length_pos_iff.2 hts
    clear hts
    go_wp2_with fail
    refine (syntax_any _ _).mono ?_
    rintro e w8 ⟨rfl, rfl⟩
    go_wp2_with fail
    exact ⟨rfl, hgt.out, .inl ⟨70, hfin.out, rfl⟩⟩
end Go.Proofs.YtdkhedefcmjjgaaGreatDoor
