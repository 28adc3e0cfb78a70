/- factor, walked: a function; and factor whole, by induction on its words.
Conditions: none. -/
import Derived.Test.YtdkhedefcmjjgaaGreatDoorFac2
import Derived.Test.YtdkhedefcmjjgaaGreatDoorFun
namespace Go.Proofs.YtdkhedefcmjjgaaGreatDoor
open Go.RowKit Sp
set_option linter.unusedSimpArgs false
set_option linter.unusedVariables false
theorem known_not (s : Bs) (f : FnS) (h : Sp.known s = some f) : ¬ (f.whole = true ∧ f.number = true) := by
  unfold Sp.known at h
  rw [Option.map_eq_some_iff] at h
  obtain ⟨p, hp, rfl⟩ := h
  have hm := List.mem_of_find?_eq_some hp
  have hall : ∀ q ∈ Sp.fns, ¬ (q.2.whole = true ∧ q.2.number = true) := by decide
  exact hall p hm
set_option maxHeartbeats 4000000 in
set_option maxRecDepth 100000 in
theorem factor_fun (m : Nums) (hm : ∀ s, m.whole s = wholeF s) (w0 : World) (R T : Nat) (wd : Int) (hwd : wd = 32 ∨ wd = 64) (n : Nat) (spec : RS → Option (Ex × RS)) (hE : Ends spec) (hP : PartC m w0 R T wd 79 n spec)
    (w : World) (r : RS) (hn : r.ts.length ≤ n + 1) (hr : Rd w0 w R T wd r) (hN : NumsAt m r.ts) (h0 : Sp.sign [45] r = none) (h1 : Sp.sign [40] r = none) (t : Tok) (l : List Tok) (he : r.ts = t :: l) (hk : t.kind ≠ 100) (f : FnS) (hkn : Sp.known t.text = some f) :
    Calls Tryz.prog 79 #[.pointer (some ⟨R, 0, none⟩)] w (ExPost w0 R T wd w (Sp.factorStep m wd spec r)) := by
  have hr0 := hr.keep ((Below.refl w.heap.size w).alloc (Nat.le_refl _) (.cells #[.int .i64 0, .int .i64 0, .string ⟨#[]⟩, .slice none 0 0] 36))
  have H75 := Lib.hid (sign_no (sg := [45]) hr0 h0)
  have H75' := Lib.hid (sign_no (sg := [40]) hr0 h1)
  have hfac : Sp.factorStep m wd spec r = match Sp.next 110 r with | none => none | some (s, r') => Sp.function m wd (exprOf spec) s f r' := by
    unfold Sp.factorStep; rw [h0, h1, he]; dsimp only; rw [if_neg hk, hkn]; dsimp only
    cases Sp.next 110 r <;> rfl
  obtain ⟨o, c, hc, hT0, hT1⟩ := hr.head he
  obtain ⟨o', c', hc', hT0', hT1'⟩ := hr0.head he
  have hkk : ((t.kind.toNat : Int) == 100) = false := (u8_eq t.kind 100).trans (beq_eq_false_iff_ne.2 hk)
  have hpos : (0 : Int) < (l.length : Int) + 1 := by omega
  have hRw := hr.lt
  have hTw := hr.ltT
  have hBw := hr.below.size
  have hfac' := Lib.hid hfac
  have hgw : w.grownBy (w.alloc (.cells #[.int .i64 0, .int .i64 0, .string ⟨#[]⟩, .slice none 0 0] 36)) (some R) := gr_alloc _ _ _
  have hK : fnV (Sp.known (bstr t.text).data.toList) = .tuple #[.agg #[.int .i64 f.takes, .bool f.whole, .bool f.number], .bool true] := by
    have : (bstr t.text).data.toList = t.text := by simp [bstr]
    rw [this, hkn]; rfl
  have H50 : Hid (∀ W, Calls Tryz.prog 50 #[.string (bstr t.text)] W fun e w' => e = .returned (.tuple #[.agg #[.int .i64 f.takes, .bool f.whole, .bool f.number], .bool true]) ∧ Below W.heap.size W w') := Lib.hid (fun W => by
    rw [← hK]; exact known_any _ W)
  have hfn := known_not _ _ hkn
  have HF := Lib.hid (fun (s : Bs) (r' : RS) (hl : r'.ts.length ≤ n) (hN' : NumsAt m r'.ts) W (hW : Rd w0 W R T wd r') => function_any m hm w0 R T wd hwd n (exprOf spec) (chain_ends (term_ends hE)) (expr_any m w0 R T wd n spec hE hP) s f hfn W r' hl hW hN')
  clear h1 h0 hfac he hk hK hkn hP hfn
  go_enter Tryz.func79, Tryz.ntmps79
  go_wp2_with fail
  refine H75.out.mono ?_
  rintro e w1' ⟨rfl, rfl⟩
  go_wp2_with fail
  refine H75'.out.mono ?_
  rintro e w1 ⟨rfl, rfl⟩
  go_wp2_with fail
  refine (H50.out _).mono ?_
  rintro e w2 ⟨rfl, hb2⟩
  have hr2 := ((hr0.keep hb2).keep ((Below.refl _ _).alloc (Nat.le_refl _) (.cells #[.int .i64 f.takes, .bool f.whole, .bool f.number] 91))).drew
  have hgw2 := gr_drew (gr_app (gr_trans hgw (gr_below hb2 (some R))) (.cells #[.int .i64 f.takes, .bool f.whole, .bool f.number] 91))
  have hg2 : (w.alloc (.cells #[.int .i64 0, .int .i64 0, .string ⟨#[]⟩, .slice none 0 0] 36)).grownBy (w2.alloc (.cells #[.int .i64 f.takes, .bool f.whole, .bool f.number] 91)).drew (some R) := gr_drew (gr_app (gr_below hb2 (some R)) _)
  have hm2 : w2.drew.heap[w.heap.size]? = some (.cells (four 0 0 ⟨#[]⟩ (.slice none 0 0)) 36 (0, 0)) := (hb2.block _ (by simp)).trans (heap_alloc_new _ _)
  have hs2 : w.heap.size + 1 ≤ w2.heap.size := by have := hb2.size; simpa using this
  have b0 : (w2.alloc (.cells #[.int .i64 f.takes, .bool f.whole, .bool f.number] 91)).heap[w2.heap.size]? = some (.cells #[.int .i64 f.takes, .bool f.whole, .bool f.number] 91 (0, 0)) := heap_alloc_new _ _
  have b1 := Lib.hid b0
  clear b0
  go_wp2_with fail
  cases hs : Sp.next 110 r with
  | none =>
    have H16 := Lib.hid (next_no (k := 110) (kk := 110) hr2 rfl hs)
    have hfin : Hid (Sp.factorStep m wd spec r = none) := Lib.hid (by rw [hfac'.out, hs])
    clear hs
    refine wp_region_any (by kernel_rfl) ?_
    change wpAny _ _ _ _ _ _ _ (World.drew _)
    refine wpAny_take (i := 0) (v := .pointer (some ⟨R, 0, none⟩)) rfl (by kernel_rfl) (by kernel_rfl) (by kernel_rfl) (fun _ _ _ h => h) (Or.inl ⟨by rfl, fun w => by go_simp⟩) ?_
    refine wpAny_take (i := 1) (v := .pointer (some ⟨R, 0, none⟩)) rfl (by kernel_rfl) (by kernel_rfl) (by kernel_rfl) (fun _ _ _ h => h) (Or.inl ⟨by rfl, fun w => by go_simp⟩) ?_
    refine wpAny_ready (rs := [2, 3]) (by kernel_rfl) (by simp) ?_
    refine AllReady.cons rfl (fun K hK => ?_) (AllReady.cons rfl (fun K hK => ?_) AllReady.nil)
    · go_simp
      refine H16.out.mono ?_
      rintro e w3 ⟨rfl, rfl⟩
      exact ⟨rfl, hgw2, .inl ⟨hfin.out, rfl⟩⟩
    · go_simp
      refine hK _ _ ?_
      clear hK K
      refine wpAny_ready (rs := [2]) (by kernel_rfl) (by simp) ?_
      refine AllReady.cons rfl (fun K hK => ?_) AllReady.nil
      go_simp
      refine H16.out.mono ?_
      rintro e w3 ⟨rfl, rfl⟩
      exact ⟨rfl, hgw2, .inl ⟨hfin.out, rfl⟩⟩
  | some p =>
    obtain ⟨s, r3⟩ := p
    have H16 := Lib.hid (next_ok (k := 110) (kk := 110) hr2 rfl hs)
    have hl3 := next_len hs
    have hN3 : NumsAt m r3.ts := hN.suffix (next_suffix hs)
    have hfin : Hid (Sp.factorStep m wd spec r = Sp.function m wd (exprOf spec) s f r3) := Lib.hid (by rw [hfac'.out, hs])
    have HF' := Lib.hid (HF.out s r3 (by omega) hN3)
    clear hs HF hfac'
    cases hs5 : Sp.function m wd (exprOf spec) s f r3 with
    | none =>
      rw [hs5] at hfin HF'
      have HFn : Hid (∀ W, Rd w0 W R T wd r3 → Calls Tryz.prog 95 #[.pointer (some ⟨R, 0, none⟩), .string (bstr s), .agg #[.int .i64 f.takes, .bool f.whole, .bool f.number]] W fun e w' => e = .panicked (giv 70) ∧ W.grownBy w' (some R)) := Lib.hid fun W hW => by
        refine (HF'.out W hW).mono ?_
        rintro e w' ⟨hg, ⟨_, rfl⟩ | ⟨_, _, _, _, _, _, _, _, h, _⟩⟩
        · exact ⟨rfl, hg⟩
        · cases h
      clear hs5 HF'
      refine wp_region_any (by kernel_rfl) ?_
      change wpAny _ _ _ _ _ _ _ (World.drew _)
      refine wpAny_take (i := 0) (v := .pointer (some ⟨R, 0, none⟩)) rfl (by kernel_rfl) (by kernel_rfl) (by kernel_rfl) (fun _ _ _ h => h) (Or.inl ⟨by rfl, fun w => by go_simp⟩) ?_
      refine wpAny_take (i := 1) (v := .pointer (some ⟨R, 0, none⟩)) rfl (by kernel_rfl) (by kernel_rfl) (by kernel_rfl) (fun _ _ _ h => h) (Or.inl ⟨by rfl, fun w => by go_simp⟩) ?_
      refine wpAny_ready (rs := [2, 3]) (by kernel_rfl) (by simp) ?_
      refine AllReady.cons rfl (fun K hK => ?_) (AllReady.cons rfl (fun K hK => ?_) AllReady.nil)
      · go_simp
        refine H16.out.mono ?_
        rintro e w3 ⟨rfl, hg3, hr3⟩
        refine hK _ _ ?_
        clear hK K
        have m3 : w3.heap[w2.heap.size]? = some (.cells #[.int .i64 f.takes, .bool f.whole, .bool f.number] 91 (0, 0)) := (hg3.block _ (by simp) (by simp; omega)).trans b1.out
        have q0 : w3.cell? ⟨w2.heap.size, 0, none⟩ = some (.int .i64 f.takes) := cell_heap m3 0
        have q1 : w3.cell? ⟨w2.heap.size, 1, none⟩ = some (.bool f.whole) := cell_heap m3 1
        have q2 : w3.cell? ⟨w2.heap.size, 2, none⟩ = some (.bool f.number) := cell_heap m3 2
        clear m3
        refine wpAny_ready (rs := [3]) (by kernel_rfl) (by simp) ?_
        refine AllReady.cons rfl (fun K hK => ?_) AllReady.nil
        go_simp
        refine hK _ _ ?_
        clear hK K
        refine wpAny_ready (rs := [4]) (by kernel_rfl) (by simp) ?_
        refine AllReady.cons rfl (fun K hK => ?_) AllReady.nil
        go_simp
        refine (HFn.out _ hr3).mono ?_
        rintro e w4 ⟨rfl, hg4⟩
        exact ⟨rfl, gr_trans (gr_trans hgw2 hg3) hg4, .inl ⟨hfin.out, rfl⟩⟩
      · go_simp
        refine hK _ _ ?_
        clear hK K
        refine wpAny_ready (rs := [2]) (by kernel_rfl) (by simp) ?_
        refine AllReady.cons rfl (fun K hK => ?_) AllReady.nil
        go_simp
        refine H16.out.mono ?_
        rintro e w3 ⟨rfl, hg3, hr3⟩
        refine hK _ _ ?_
        clear hK K
        refine wpAny_ready (rs := [4]) (by kernel_rfl) (by simp) ?_
        refine AllReady.cons rfl (fun K hK => ?_) AllReady.nil
        go_simp
        refine (HFn.out _ hr3).mono ?_
        rintro e w4 ⟨rfl, hg4⟩
        exact ⟨rfl, gr_trans (gr_trans hgw2 hg3) hg4, .inl ⟨hfin.out, rfl⟩⟩
    | some p =>
      obtain ⟨y, r4⟩ := p
      rw [hs5] at hfin HF'
      have HFs : Hid (∀ W, Rd w0 W R T wd r3 → Calls Tryz.prog 95 #[.pointer (some ⟨R, 0, none⟩), .string (bstr s), .agg #[.int .i64 f.takes, .bool f.whole, .bool f.number]] W fun e w' => ∃ k b s A n c, e = .returned (.agg #[.int .i64 k, .int .i64 b, .string s, .slice A n c]) ∧ W.grownBy w' (some R) ∧ ExAt w' (Since W.heap.size) y [.int .i64 k, .int .i64 b, .string s, .slice A n c] ∧ Rd w0 w' R T wd r4) := Lib.hid fun W hW => by
        refine (HF'.out W hW).mono ?_
        rintro e w' ⟨hg, ⟨h, _⟩ | ⟨x, r', k, b, s, A, n, c, h, rfl, h1, h2⟩⟩
        · cases h
        · simp only [Option.some.injEq, Prod.mk.injEq] at h
          obtain ⟨rfl, rfl⟩ := h
          exact ⟨k, b, s, A, n, c, rfl, hg, h1, h2⟩
      clear hs5 HF'
      have hYR : w.heap.size ≠ R := by omega
      go_region_with (first | (go_at_call 16; refine H16.out.mono ?_; rintro e w3 ⟨rfl, hg3, hr3⟩; have m3 := Lib.hid ((hg3.block w2.heap.size (by simp) (by simp; omega)).trans b1.out); have q0 : w3.cell? ⟨w2.heap.size, 0, none⟩ = some (.int .i64 f.takes) := cell_heap m3.out 0; have q1 : w3.cell? ⟨w2.heap.size, 1, none⟩ = some (.bool f.whole) := cell_heap m3.out 1; have q2 : w3.cell? ⟨w2.heap.size, 2, none⟩ = some (.bool f.number) := cell_heap m3.out 2) | (go_at_call 95; refine (HFs.out _ hr3).mono ?_; rintro e w4 ⟨ky, by_, sy, Ay, ny, cy, rfl, hg4, hy, hr4⟩; have hY := Lib.hid (zero_keep hRw (gr_trans hg2 (gr_trans hg3 hg4))); have d0 : w4.cell? ⟨w.heap.size, 0, none⟩ = some (.int .i64 0) := cell_heap hY.out 0; have d1 : w4.cell? ⟨w.heap.size, 1, none⟩ = some (.int .i64 0) := cell_heap hY.out 1; have d2 : w4.cell? ⟨w.heap.size, 2, none⟩ = some (.string ⟨#[]⟩) := cell_heap hY.out 2; have d3 : w4.cell? ⟨w.heap.size, 3, none⟩ = some (.slice none 0 0) := cell_heap hY.out 3; have df : ∀ i, w4.frozen? ⟨w.heap.size, i, none⟩ = false := fun i => free_heap hY.out i))
      all_goals
        have h34 := hg3.size
        have hst := Lib.hid (ret_step hY.out (Nat.le_refl _) hRw hTw hBw (gr_trans (gr_trans hgw2 hg3) hg4) w3.heap.size (by simp at h34; omega) (by simp at h34; omega) hy hr4)
        go_wp2_with fail
        exact bodyPost_ret (results36 (p := 2) rfl _ _ w.heap.size ky by_ sy _ rfl hst.out.2.1) rfl ⟨hst.out.1, .inr ⟨_, r4, _, _, _, _, _, _, hfin.out, rfl, hst.out.2.2.1, hst.out.2.2.2⟩⟩
end Go.Proofs.YtdkhedefcmjjgaaGreatDoor
