/- factor, walked: a function; and factor whole, by induction on its words.
Conditions: none. -/
import Derived.Test.YtdkhedefcmjjgaaGreatDoorMFac
import Derived.Test.YtdkhedefcmjjgaaGreatDoorMFun
import Derived.Test.YtdkhedefcmjjgaaGreatDoorMIsName
namespace Go.Proofs.YtdkhedefcmjjgaaGreatDoor
open Go.RowKit Sp
set_option linter.unusedSimpArgs false
set_option linter.unusedVariables false
theorem known_not (s : Bs) (f : FnS) (h : Sp.known s = some f) : ¬ (f.whole = true ∧ f.number = true) := by
  unfold Sp.known at h
  rw [Option.map_eq_some_iff] at h
  obtain ⟨p, hp, rfl⟩ := h
  have hm := List.mem_of_find?_eq_some hp
  have hall : ∀ q ∈ Sp.fns, ¬ (q.2.whole = true ∧ q.2.number = true) := by decide
  exact hall p hm
set_option maxHeartbeats 4000000 in
set_option maxRecDepth 100000 in
theorem factor_fun (m : Nums) (hm : ∀ s, m.whole s = wholeF s) (w0 : World) (R T : Nat) (wd : Int) (hwd : wd = 32 ∨ wd = 64) (n : Nat) (spec : RS → Option (Ex × RS)) (hE : Ends spec) (hP : PartC m w0 R T wd 79 n spec)
    (w : World) (r : RS) (hn : r.ts.length ≤ n + 1) (hr : Rd w0 w R T wd r) (hN : NumsAt m r.ts) (h0 : Sp.sign [45] r = none) (h1 : Sp.sign [40] r = none) (t : Tok) (l : List Tok) (he : r.ts = t :: l) (hk : t.kind ≠ 100) (f : FnS) (hkn : Sp.known t.text = some f) :
    Calls Tryz.prog 79 #[.pointer (some ⟨R, 0, none⟩)] w (ExPost w0 R T wd w (Sp.factorStep m wd spec r)) := by
  have hr0 := hr.keep ((Below.refl w.heap.size w).alloc (Nat.le_refl _) (.cells #[.int .i64 0, .int .i64 0, .string ⟨#[]⟩, .slice none 0 0] 36))
  have H75 := Lib.hid (sign_no (sg := [45]) hr0 h0)
  have H75' := Lib.hid (sign_no (sg := [40]) hr0 h1)
  have hfac : Sp.factorStep m wd spec r = match Sp.next 110 r with | none => none | some (s, r') => Sp.function m wd (exprOf spec) s f r' := by
    unfold Sp.factorStep; rw [h0, h1, he]; dsimp only; rw [if_neg hk, hkn]; dsimp only
    cases Sp.next 110 r <;> rfl
  obtain ⟨o, c, hc, hT0, hT1⟩ := hr.head he
  obtain ⟨o', c', hc', hT0', hT1'⟩ := hr0.head he
  have hkk : ((t.kind.toNat : Int) == 100) = false := (u8_eq t.kind 100).trans (beq_eq_false_iff_ne.2 hk)
  have hpos : (0 : Int) < (l.length : Int) + 1 := by omega
  have hRw := hr.lt
  have hTw := hr.ltT
  have hBw := hr.below.size
  have hfac' := Lib.hid hfac
  have hgw : w.grownBy (w.alloc (.cells #[.int .i64 0, .int .i64 0, .string ⟨#[]⟩, .slice none 0 0] 36)) (some R) := gr_alloc _ _ _
  have hK : fnV (Sp.known (bstr t.text).data.toList) = .tuple #[.agg #[.int .i64 f.takes, .bool f.whole, .bool f.number], .bool true] := by
    have : (bstr t.text).data.toList = t.text := by simp [bstr]
    rw [this, hkn]; rfl
  have H50 : Hid (∀ W, Calls Tryz.prog 50 #[.string (bstr t.text)] W fun e w' => e = .returned (.tuple #[.agg #[.int .i64 f.takes, .bool f.whole, .bool f.number], .bool true]) ∧ Below W.heap.size W w') := Lib.hid (fun W => by
    rw [← hK]; exact known_any _ W)
  have hfn := known_not _ _ hkn
  have HF := Lib.hid (fun (s : Bs) (r' : RS) (hl : r'.ts.length ≤ n) (hN' : NumsAt m r'.ts) W (hW : Rd w0 W R T wd r') => function_any m hm w0 R T wd hwd n (exprOf spec) (chain_ends (term_ends hE)) (expr_any m w0 R T wd n spec hE hP) s f hfn W r' hl hW hN')
  clear h1 h0 hfac he hk hK hkn hP hfn
  go_enter Tryz.func79, Tryz.ntmps79
  go_wp2_with fail
  refine H75.out.mono ?_
  rintro e w1' ⟨rfl, rfl⟩
  go_wp2_with fail
  refine H75'.out.mono ?_
  rintro e w1 ⟨rfl, rfl⟩
  go_wp2_with fail
  refine (H50.out _).mono ?_
  rintro e w2 ⟨rfl, hb2⟩
  have hr2 := ((hr0.keep hb2).keep ((Below.refl _ _).alloc (Nat.le_refl _) (.cells #[.int .i64 f.takes, .bool f.whole, .bool f.number] 91))).drew
  have hgw2 := gr_drew (gr_app (gr_trans hgw (gr_below hb2 (some R))) (.cells #[.int .i64 f.takes, .bool f.whole, .bool f.number] 91))
  have hg2 : (w.alloc (.cells #[.int .i64 0, .int .i64 0, .string ⟨#[]⟩, .slice none 0 0] 36)).grownBy (w2.alloc (.cells #[.int .i64 f.takes, .bool f.whole, .bool f.number] 91)).drew (some R) := gr_drew (gr_app (gr_below hb2 (some R)) _)
  have hm2 : w2.drew.heap[w.heap.size]? = some (.cells (four 0 0 ⟨#[]⟩ (.slice none 0 0)) 36 (0, 0)) := (hb2.block _ (by simp)).trans (heap_alloc_new _ _)
  have hs2 : w.heap.size + 1 ≤ w2.heap.size := by have := hb2.size; simpa using this
  have b0 : (w2.alloc (.cells #[.int .i64 f.takes, .bool f.whole, .bool f.number] 91)).heap[w2.heap.size]? = some (.cells #[.int .i64 f.takes, .bool f.whole, .bool f.number] 91 (0, 0)) := heap_alloc_new _ _
  have b1 := Lib.hid b0
  clear b0
  go_wp2_with fail
  cases hs : Sp.next 110 r with
  | none =>
    have H16 := Lib.hid (next_no (k := 110) (kk := 110) hr2 rfl hs)
    have hfin : Hid (Sp.factorStep m wd spec r = none) := Lib.hid (by rw [hfac'.out, hs])
    clear hs
    refine wp_region_any (by kernel_rfl) ?_
    change wpAny _ _ _ _ _ _ _ (World.drew _)
    refine wpAny_take (i := 0) (v := .pointer (some ⟨R, 0, none⟩)) rfl (by kernel_rfl) (by kernel_rfl) (by kernel_rfl) (fun _ _ _ h => h) (Or.inl ⟨by rfl, fun w => by go_simp⟩) ?_
    refine wpAny_take (i := 1) (v := .pointer (some ⟨R, 0, none⟩)) rfl (by kernel_rfl) (by kernel_rfl) (by kernel_rfl) (fun _ _ _ h => h) (Or.inl ⟨by rfl, fun w => by go_simp⟩) ?_
    refine wpAny_ready (rs := [2, 3]) (by kernel_rfl) (by simp) ?_
    refine AllReady.cons rfl (fun K hK => ?_) (AllReady.cons rfl (fun K hK => ?_) AllReady.nil)
    · go_simp
      refine H16.out.mono ?_
      rintro e w3 ⟨rfl, rfl⟩
      exact ⟨rfl, hgw2, .inl ⟨hfin.out, rfl⟩⟩
    · go_simp
      refine hK _ _ ?_
      clear hK K
      refine wpAny_ready (rs := [2]) (by kernel_rfl) (by simp) ?_
      refine AllReady.cons rfl (fun K hK => ?_) AllReady.nil
      go_simp
      refine H16.out.mono ?_
      rintro e w3 ⟨rfl, rfl⟩
      exact ⟨rfl, hgw2, .inl ⟨hfin.out, rfl⟩⟩
  | some p =>
    obtain ⟨s, r3⟩ := p
    have H16 := Lib.hid (next_ok (k := 110) (kk := 110) hr2 rfl hs)
    have hl3 := next_len hs
    have hN3 : NumsAt m r3.ts := hN.suffix (next_suffix hs)
    have hfin : Hid (Sp.factorStep m wd spec r = Sp.function m wd (exprOf spec) s f r3) := Lib.hid (by rw [hfac'.out, hs])
    have HF' := Lib.hid (HF.out s r3 (by omega) hN3)
    clear hs HF hfac'
    cases hs5 : Sp.function m wd (exprOf spec) s f r3 with
    | none =>
      rw [hs5] at hfin HF'
      have HFn : Hid (∀ W, Rd w0 W R T wd r3 → Calls Tryz.prog 95 #[.pointer (some ⟨R, 0, none⟩), .string (bstr s), .agg #[.int .i64 f.takes, .bool f.whole, .bool f.number]] W fun e w' => e = .panicked (giv 70) ∧ W.grownBy w' (some R)) := Lib.hid fun W hW => by
        refine (HF'.out W hW).mono ?_
        rintro e w' ⟨hg, ⟨_, rfl⟩ | ⟨_, _, _, _, _, _, _, _, h, _⟩⟩
        · exact ⟨rfl, hg⟩
        · cases h
      clear hs5 HF'
      refine wp_region_any (by kernel_rfl) ?_
      change wpAny _ _ _ _ _ _ _ (World.drew _)
      refine wpAny_take (i := 0) (v := .pointer (some ⟨R, 0, none⟩)) rfl (by kernel_rfl) (by kernel_rfl) (by kernel_rfl) (fun _ _ _ h => h) (Or.inl ⟨by rfl, fun w => by go_simp⟩) ?_
      refine wpAny_take (i := 1) (v := .pointer (some ⟨R, 0, none⟩)) rfl (by kernel_rfl) (by kernel_rfl) (by kernel_rfl) (fun _ _ _ h => h) (Or.inl ⟨by rfl, fun w => by go_simp⟩) ?_
      refine wpAny_ready (rs := [2, 3]) (by kernel_rfl) (by simp) ?_
      refine AllReady.cons rfl (fun K hK => ?_) (AllReady.cons rfl (fun K hK => ?_) AllReady.nil)
      · go_simp
        refine H16.out.mono ?_
        rintro e w3 ⟨rfl, hg3, hr3⟩
        refine hK _ _ ?_
        clear hK K
        have m3 : w3.heap[w2.heap.size]? = some (.cells #[.int .i64 f.takes, .bool f.whole, .bool f.number] 91 (0, 0)) := (hg3.block _ (by simp) (by simp; omega)).trans b1.out
        have q0 : w3.cell? ⟨w2.heap.size, 0, none⟩ = some (.int .i64 f.takes) := cell_heap m3 0
        have q1 : w3.cell? ⟨w2.heap.size, 1, none⟩ = some (.bool f.whole) := cell_heap m3 1
        have q2 : w3.cell? ⟨w2.heap.size, 2, none⟩ = some (.bool f.number) := cell_heap m3 2
        clear m3
        refine wpAny_ready (rs := [3]) (by kernel_rfl) (by simp) ?_
        refine AllReady.cons rfl (fun K hK => ?_) AllReady.nil
        go_simp
        refine hK _ _ ?_
        clear hK K
        refine wpAny_ready (rs := [4]) (by kernel_rfl) (by simp) ?_
        refine AllReady.cons rfl (fun K hK => ?_) AllReady.nil
        go_simp
        refine (HFn.out _ hr3).mono ?_
        rintro e w4 ⟨rfl, hg4⟩
        exact ⟨rfl, gr_trans (gr_trans hgw2 hg3) hg4, .inl ⟨hfin.out, rfl⟩⟩
      · go_simp
        refine hK _ _ ?_
        clear hK K
        refine wpAny_ready (rs := [2]) (by kernel_rfl) (by simp) ?_
        refine AllReady.cons rfl (fun K hK => ?_) AllReady.nil
        go_simp
        refine H16.out.mono ?_
        rintro e w3 ⟨rfl, hg3, hr3⟩
        refine hK _ _ ?_
        clear hK K
        refine wpAny_ready (rs := [4]) (by kernel_rfl) (by simp) ?_
        refine AllReady.cons rfl (fun K hK => ?_) AllReady.nil
        go_simp
        refine (HFn.out _ hr3).mono ?_
        rintro e w4 ⟨rfl, hg4⟩
        exact ⟨rfl, gr_trans (gr_trans hgw2 hg3) hg4, .inl ⟨hfin.out, rfl⟩⟩
    | some p =>
      obtain ⟨y, r4⟩ := p
      rw [hs5] at hfin HF'
      have HFs : Hid (∀ W, Rd w0 W R T wd r3 → Calls Tryz.prog 95 #[.pointer (some ⟨R, 0, none⟩), .string (bstr s), .agg #[.int .i64 f.takes, .bool f.whole, .bool f.number]] W fun e w' => ∃ k b s A n c, e = .returned (.agg #[.int .i64 k, .int .i64 b, .string s, .slice A n c]) ∧ W.grownBy w' (some R) ∧ ExAt w' (Since W.heap.size) y [.int .i64 k, .int .i64 b, .string s, .slice A n c] ∧ Rd w0 w' R T wd r4) := Lib.hid fun W hW => by
        refine (HF'.out W hW).mono ?_
        rintro e w' ⟨hg, ⟨h, _⟩ | ⟨x, r', k, b, s, A, n, c, h, rfl, h1, h2⟩⟩
        · cases h
        · simp only [Option.some.injEq, Prod.mk.injEq] at h
          obtain ⟨rfl, rfl⟩ := h
          exact ⟨k, b, s, A, n, c, rfl, hg, h1, h2⟩
      clear hs5 HF'
      have hYR : w.heap.size ≠ R := by omega
      go_region_with (first | (go_at_call 16; refine H16.out.mono ?_; rintro e w3 ⟨rfl, hg3, hr3⟩; have m3 := Lib.hid ((hg3.block w2.heap.size (by simp) (by simp; omega)).trans b1.out); have q0 : w3.cell? ⟨w2.heap.size, 0, none⟩ = some (.int .i64 f.takes) := cell_heap m3.out 0; have q1 : w3.cell? ⟨w2.heap.size, 1, none⟩ = some (.bool f.whole) := cell_heap m3.out 1; have q2 : w3.cell? ⟨w2.heap.size, 2, none⟩ = some (.bool f.number) := cell_heap m3.out 2) | (go_at_call 95; refine (HFs.out _ hr3).mono ?_; rintro e w4 ⟨ky, by_, sy, Ay, ny, cy, rfl, hg4, hy, hr4⟩; have hY := Lib.hid (zero_keep hRw (gr_trans hg2 (gr_trans hg3 hg4))); have d0 : w4.cell? ⟨w.heap.size, 0, none⟩ = some (.int .i64 0) := cell_heap hY.out 0; have d1 : w4.cell? ⟨w.heap.size, 1, none⟩ = some (.int .i64 0) := cell_heap hY.out 1; have d2 : w4.cell? ⟨w.heap.size, 2, none⟩ = some (.string ⟨#[]⟩) := cell_heap hY.out 2; have d3 : w4.cell? ⟨w.heap.size, 3, none⟩ = some (.slice none 0 0) := cell_heap hY.out 3; have df : ∀ i, w4.frozen? ⟨w.heap.size, i, none⟩ = false := fun i => free_heap hY.out i))
      all_goals
        have h34 := hg3.size
        have hst := Lib.hid (ret_step hY.out (Nat.le_refl _) hRw hTw hBw (gr_trans (gr_trans hgw2 hg3) hg4) w3.heap.size (by simp at h34; omega) (by simp at h34; omega) hy hr4)
        go_wp2_with fail
        exact bodyPost_ret (results36 (p := 2) rfl _ _ w.heap.size ky by_ sy _ rfl hst.out.2.1) rfl ⟨hst.out.1, .inr ⟨_, r4, _, _, _, _, _, _, hfin.out, rfl, hst.out.2.2.1, hst.out.2.2.2⟩⟩
end Go.Proofs.YtdkhedefcmjjgaaGreatDoor
/- factor and expr, whole: by induction on the words that are left.
Conditions: none. -/
namespace Go.Proofs.YtdkhedefcmjjgaaGreatDoor
open Go.RowKit Sp
set_option linter.unusedSimpArgs false
set_option linter.unusedVariables false
theorem name_suffix {s : Bs} {r r' : RS} (h : Sp.name r = some (s, r')) : r'.ts <:+ r.ts := by
  unfold Sp.name at h
  split at h
  · cases h
  · rename_i s1 r1 h1
    split at h
    · simp only [Option.some.injEq, Prod.mk.injEq] at h
      obtain ⟨_, rfl⟩ := h
      exact next_suffix h1
    · cases h
theorem argsGo_ends {m : Nums} {wd : Int} {spec : RS → Option (Ex × RS)} (hE : Ends spec) {f : FnS} : ∀ (k : Nat) (l : List Ex) (r : RS) (l' : List Ex) (r' : RS), argsGo m wd spec f k l r = some (l', r') → r'.ts <:+ r.ts
  | 0, _, _, _, _, h => by simp [argsGo] at h
  | k + 1, l, r, l', r', h => by
    rw [argsGo] at h
    split at h
    · cases h
    · rename_i y r1 h1
      split at h
      · simp only [Option.some.injEq, Prod.mk.injEq] at h
        obtain ⟨_, rfl⟩ := h
        exact arg_suffix hE h1
      · rename_i s r2 h2
        exact (argsGo_ends hE k _ _ _ _ h).trans ((sign_suffix h2).trans (arg_suffix hE h1))
theorem function_ends {m : Nums} {wd : Int} {spec : RS → Option (Ex × RS)} (hE : Ends spec) {s : Bs} {f : FnS} {r r' : RS} {x : Ex} (h : Sp.function m wd spec s f r = some (x, r')) : r'.ts <:+ r.ts := by
  unfold Sp.function at h
  split at h
  · cases h
  · rename_i s1 r1 h1
    split at h
    · cases h
    · rename_i l r2 h2
      split at h
      · cases h
      · rename_i s3 r3 h3
        split at h
        · cases h
        · simp only [Option.some.injEq, Prod.mk.injEq] at h
          obtain ⟨_, rfl⟩ := h
          exact (next_suffix h3).trans ((argsGo_ends hE _ _ _ _ _ h2).trans (next_suffix h1))
theorem exprOf_ends {spec : RS → Option (Ex × RS)} (hE : Ends spec) : Ends (exprOf spec) := chain_ends (term_ends hE)
theorem factorStep_ends {m : Nums} {wd : Int} {spec : RS → Option (Ex × RS)} (hE : Ends spec) : Ends (factorStep m wd spec) := by
  intro r x r' h
  unfold factorStep at h
  split at h
  · rename_i s1 r1 h1
    split at h
    · cases h
    · rename_i y r2 h2
      simp only [Option.some.injEq, Prod.mk.injEq] at h
      obtain ⟨_, rfl⟩ := h
      exact (hE _ _ _ h2).trans (sign_suffix h1)
  · split at h
    · rename_i s1 r1 h1
      split at h
      · cases h
      · rename_i y r2 h2
        split at h
        · cases h
        · rename_i s3 r3 h3
          simp only [Option.some.injEq, Prod.mk.injEq] at h
          obtain ⟨_, rfl⟩ := h
          exact (next_suffix h3).trans ((exprOf_ends hE _ _ _ h2).trans (sign_suffix h1))
    · split at h
      · cases h
      · split at h
        · split at h
          · cases h
          · rename_i b r1 h1
            simp only [Option.some.injEq, Prod.mk.injEq] at h
            obtain ⟨_, rfl⟩ := h
            exact numberR_suffix h1
        · split at h
          · split at h
            · cases h
            · rename_i s1 r1 h1
              exact (function_ends (exprOf_ends hE) h).trans (next_suffix h1)
          · split at h
            · cases h
            · rename_i s1 r1 h1
              simp only [Option.some.injEq, Prod.mk.injEq] at h
              obtain ⟨_, rfl⟩ := h
              exact name_suffix h1
theorem factor_ends (m : Nums) (wd : Int) : ∀ k, Ends (Sp.factor m wd k)
  | 0 => fun _ _ _ h => by simp [Sp.factor] at h
  | k + 1 => factorStep_ends (factor_ends m wd k)
theorem factor_one (m : Nums) (hm : ∀ s, m.whole s = wholeF s) (w0 : World) (R T : Nat) (wd : Int) (hwd : wd = 32 ∨ wd = 64) (n : Nat) (spec : RS → Option (Ex × RS)) (hE : Ends spec) (hP : PartC m w0 R T wd 79 n spec) : PartC m w0 R T wd 79 (n + 1) (factorStep m wd spec) := by
  intro w r hn hr hN
  cases h0 : Sp.sign [45] r with
  | some p => exact factor_minus m w0 R T wd n spec hP w r hn hr hN p.1 p.2 h0
  | none =>
    cases h1 : Sp.sign [40] r with
    | some p => exact factor_paren m w0 R T wd n spec hE hP w r hn hr hN h0 p.1 p.2 h1
    | none =>
      cases he : r.ts with
      | nil => exact factor_empty m w0 R T wd spec w r hr he
      | cons t l =>
        by_cases hk : t.kind = 100
        · exact factor_num m w0 R T wd hwd spec w r hr hN h0 h1 t l he hk
        · cases hkn : Sp.known t.text with
          | none => exact factor_name m w0 R T wd spec w r hr h0 h1 t l he hk hkn
          | some f => exact factor_fun m hm w0 R T wd hwd n spec hE hP w r hn hr hN h0 h1 t l he hk f hkn
theorem factor_any (m : Nums) (hm : ∀ s, m.whole s = wholeF s) (w0 : World) (R T : Nat) (wd : Int) (hwd : wd = 32 ∨ wd = 64) : ∀ n, PartC m w0 R T wd 79 n (Sp.factor m wd (n + 1))
  | 0 => by
    intro w r hn hr hN
    exact factor_empty m w0 R T wd _ w r hr (List.eq_nil_of_length_eq_zero (by omega))
  | n + 1 => factor_one m hm w0 R T wd hwd n _ (factor_ends m wd (n + 1)) (factor_any m hm w0 R T wd hwd n)
/-- expr tells what the specification tells. -/
theorem expr_all (m : Nums) (hm : ∀ s, m.whole s = wholeF s) (w0 : World) (R T : Nat) (wd : Int) (hwd : wd = 32 ∨ wd = 64) (w : World) (r : RS) (hr : Rd w0 w R T wd r) (hN : NumsAt m r.ts) :
    Calls Tryz.prog 41 #[.pointer (some ⟨R, 0, none⟩)] w (ExPost w0 R T wd w (Sp.expr m wd r)) :=
  expr_any m w0 R T wd r.ts.length _ (factor_ends m wd _) (factor_any m hm w0 R T wd hwd r.ts.length) w r (Nat.le_refl _) hr hN
theorem expr_ends (m : Nums) (wd : Int) : Ends (Sp.expr m wd) := fun r x r' h => exprOf_ends (factor_ends m wd _) r x r' h
end Go.Proofs.YtdkhedefcmjjgaaGreatDoor
/- deep, walked: how deep an expression is.
Conditions: none. -/
namespace Go.Proofs.YtdkhedefcmjjgaaGreatDoor
open Go.RowKit Sp
set_option linter.unusedSimpArgs false
set_option linter.unusedVariables false
theorem deepAll_snoc : ∀ (l : List Ex) (x : Ex) (n : Int), deepAll (l ++ [x]) n = max (deepAll l n) (deep x)
  | [], x, n => by simp [deepAll]
  | y :: l, x, n => by simp only [List.cons_append, deepAll]; exact deepAll_snoc l x _
theorem deepAll_ge : ∀ (l : List Ex) (n : Int), n ≤ deepAll l n
  | [], n => by simp [deepAll]
  | y :: l, n => by rw [deepAll]; exact Int.le_trans (Int.le_max_left _ _) (deepAll_ge l _)
theorem deepAll_take (l : List Ex) (i : Nat) (x : Ex) (h : l[i]? = some x) : deepAll (l.take (i + 1)) 0 = max (deepAll (l.take i) 0) (deep x) := by
  rw [List.take_add_one, h]; exact deepAll_snoc _ _ _
theorem deepAll_mono : ∀ (l : List Ex) (n k : Int), n ≤ k → deepAll l n ≤ deepAll l k
  | [], n, k, h => by simpa [deepAll] using h
  | y :: l, n, k, h => by rw [deepAll, deepAll]; exact deepAll_mono l _ _ (by omega)
theorem deepAll_append : ∀ (l k : List Ex) (n : Int), deepAll (l ++ k) n = deepAll k (deepAll l n)
  | [], k, n => by simp [deepAll]
  | y :: l, k, n => by simp only [List.cons_append, deepAll]; exact deepAll_append l k _
theorem deepAll_take_le (l : List Ex) (i : Nat) : deepAll (l.take i) 0 ≤ deepAll l 0 := by
  conv => rhs; rw [← List.take_append_drop i l, deepAll_append]
  exact deepAll_ge _ _
theorem deep_nn : ∀ (k b : Int) (s : Bs) (l : List Ex), deepAll l 0 ≤ deep (.mk k b s l) ∧ deep (.mk k b s l) ≤ deepAll l 0 + 1 := by
  intro k b s l
  rw [deep]
  split <;> omega
theorem inv36 {w : World} {ok : Nat → Prop} {x : Ex} {cs : List Value} (h : ExAt w ok x cs) : ∃ k b s A n c, cs = [.int .i64 k, .int .i64 b, .string s, .slice A n c] := by
  cases h; exact ⟨_, _, _, _, _, _, rfl⟩
set_option maxHeartbeats 2000000 in
theorem deep_any : ∀ (N : Nat) (x : Ex), SizeOf.sizeOf x ≤ N → ∀ (w : World) (ok : Nat → Prop) (k b : Int) (s : ByteArray) (A : Option Addr) (n c : Nat), ExAt w ok x [.int .i64 k, .int .i64 b, .string s, .slice A n c] → deep x ≤ 1000000 →
    Calls Tryz.prog 42 #[.agg #[.int .i64 k, .int .i64 b, .string s, .slice A n c]] w fun e w' => e = .returned (.int .i64 (deep x)) ∧ Below w.heap.size w w'
  | 0, x, hx => by cases x; simp at hx
  | N + 1, x, hx => by
    intro w ok k b s A n c h hd
    cases h with
    | mk _ _ nm args _ _ f hc hm hA hargs =>
    have hdn := deep_nn k b nm args
    have hd0 := deepAll_ge args 0
    have IH := Lib.hid (fun (i : Nat) (y : Ex) (hi : args[i]? = some y) W (hb : Below w.heap.size w W) (k b : Int) (s : ByteArray) (A : Option Addr) (n c : Nat) (hy : ExAt W ok y [.int .i64 k, .int .i64 b, .string s, .slice A n c]) =>
      deep_any N y (by have := List.sizeOf_lt_of_mem (List.mem_of_getElem? hi); simp at hx; omega) W ok k b s A n c hy (by
        have h1 := deepAll_take args i y hi
        have h2 := deepAll_take_le args (i + 1)
        omega))
    have hA' := Lib.hid hA
    have hargs' := Lib.hid hargs
    have hc' : Hid (args.length ≤ c) := Lib.hid hc
    have hal : args.length ≤ 9223372036854775807 := by omega
    clear hA hargs hc hx
    generalize hn : args.length = n at *
    go_enter Tryz.func42, Tryz.ntmps42
    go_wp2_with fail
    go_loopw [3, 9] (fun t3 t9 wr => ∃ i : Nat, i ≤ n ∧ t3 = .int .i64 (deepAll (args.take i) 0) ∧ t9 = .int .i64 i ∧ Hid (Below (w.alloc (.cells #[.int .i64 k, .int .i64 b, .string (bstr nm), .slice A n c] 36)).heap.size (w.alloc (.cells #[.int .i64 k, .int .i64 b, .string (bstr nm), .slice A n c] 36)) wr)) (fun _ t9 _ => n - (intOf t9).toNat)
    case atStart => exact ⟨0, Nat.zero_le _, by simp [deepAll], rfl, Below.refl _ _⟩
    case round =>
      obtain ⟨i, hi, rfl, rfl, hb⟩ := hrel
      have hs1 := hb.out.size
      simp only [World.size_alloc] at hs1
      have hm0 : wr.heap[w.heap.size]? = some (.cells (four k b (bstr nm) (.slice A n c)) 36 (0, 0)) := (hb.out.block _ (by simp)).trans (heap_alloc_new _ _)
      have hk0 : wr.cell? ⟨w.heap.size, 0, none⟩ = some (.int .i64 k) := cell_heap hm0 0
      clear hm0
      have hbw : Below w.heap.size w wr := ((Below.refl _ _).alloc (Nat.le_refl _) _).trans (hb.out.mono (by simp))
      have hbw' := Lib.hid hbw
      clear hbw
      rcases Nat.lt_or_ge i n with hin | hin
      · have hi1 : (i : Int) < (n : Int) := by omega
        have hxi : args[i]? = some args[i] := List.getElem?_eq_getElem (by omega)
        obtain ⟨g, o, rfl, hok, hgl, hcell⟩ := hA'.out (by intro e; simp [e] at hn; omega)
        have hy := (hargs'.out i _ hxi)
        obtain ⟨ky, by_, sy, Ay, ny, cy, hcs⟩ := inv36 hy
        simp only [List.cons.injEq, and_true] at hcs
        obtain ⟨z0, z1, z2, z3⟩ := hcs
        rw [z0, z1, z2, z3] at hy
        have q0 := (hbw'.out.cell (p := ⟨g, o + 4 * i, none⟩) hgl).trans (hcell (4 * i) (by omega))
        rw [z0, show o + 4 * i = o + i * 4 by omega] at q0
        have q1 := (hbw'.out.cell (p := ⟨g, o + (4 * i + 1), none⟩) hgl).trans (hcell (4 * i + 1) (by omega))
        rw [z1, show o + (4 * i + 1) = o + i * 4 + 1 by omega] at q1
        have q2 := (hbw'.out.cell (p := ⟨g, o + (4 * i + 2), none⟩) hgl).trans (hcell (4 * i + 2) (by omega))
        rw [z2, show o + (4 * i + 2) = o + i * 4 + 2 by omega] at q2
        have q3 := (hbw'.out.cell (p := ⟨g, o + (4 * i + 3), none⟩) hgl).trans (hcell (4 * i + 3) (by omega))
        rw [z3, show o + (4 * i + 3) = o + i * 4 + 3 by omega] at q3
        have IHi := Lib.hid (IH.out i _ hxi (wr.alloc (.cells #[.int .i64 ky, .int .i64 by_, .string sy, .slice Ay ny cy] 36)) (hbw'.out.alloc (by omega) _) ky by_ sy Ay ny cy ((hy.old hbw'.out).old ((Below.refl _ _).alloc (Nat.le_refl _) _)))
        have hdt := deepAll_take args i _ hxi
        have hle := deepAll_take_le args (i + 1)
        have hy' := Lib.hid hy
        have hdt' := Lib.hid hdt
        clear hy hdt hxi z0 z1 z2 z3
        go_wp2_with fail
        refine IHi.out.mono ?_
        rintro e w3 ⟨rfl, hb3⟩
        have hb3' := Lib.hid hb3
        have hs3 := hb3.size
        simp only [World.size_alloc] at hs3
        clear hb3
        go_wp2_with fail
        go_roundw
        case rel =>
          refine ⟨i + 1, by omega, by rw [hdt'.out], by go_num, ?_⟩
          exact hb.out.trans (((Below.refl _ _).alloc (by simp; omega) _).trans (hb3'.out.mono (by simp; omega)))
        case measure => simp [intOf]; omega
      · have hi1 : ¬ ((i : Int) < (n : Int)) := by omega
        obtain rfl : i = n := by omega
        have htk : args.take i = args := by rw [← hn]; exact List.take_length
        rw [htk]
        have hdl : deepAll args 0 ≤ 1000000 := by omega
        by_cases hk3 : k = 3
        · have hfin : deep (.mk k b nm args) = deepAll args 0 + 1 := by rw [deep, if_pos hk3]
          have hfin' := Lib.hid hfin
          have hkb : (k == 3) = true := by simpa using hk3
          clear hfin hk3 hdn hd
          go_wp2_with fail
          go_returns
          exact ⟨by rw [hfin'.out]; rfl, hbw'.out⟩
        · have hfin : deep (.mk k b nm args) = deepAll args 0 := by rw [deep, if_neg hk3]
          have hfin' := Lib.hid hfin
          have hkb : (k == 3) = false := by simpa using hk3
          clear hfin hk3 hdn hd
          go_wp2_with fail
          go_returns
          exact ⟨by rw [hfin'.out]; rfl, hbw'.out⟩
end Go.Proofs.YtdkhedefcmjjgaaGreatDoor
