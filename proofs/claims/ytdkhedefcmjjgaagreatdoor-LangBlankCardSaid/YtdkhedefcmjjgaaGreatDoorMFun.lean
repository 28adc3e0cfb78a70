/- function, walked over any expr that keeps its contract.
Conditions: the contract of expr. -/
import Derived.Test.YtdkhedefcmjjgaaGreatDoorMFun0
namespace Go.Proofs.YtdkhedefcmjjgaaGreatDoor
open Go.RowKit Sp
set_option linter.unusedSimpArgs false
set_option linter.unusedVariables false
set_option maxRecDepth 100000 in
set_option maxHeartbeats 8000000 in
theorem function_any (m : Nums) (hm : ∀ s, m.whole s = wholeF s) (w0 : World) (R T : Nat) (wd : Int) (hwd : wd = 32 ∨ wd = 64) (n : Nat) (spec : RS → Option (Ex × RS)) (hE : Ends spec) (hP : PartC m w0 R T wd 41 n spec) (s : Bs) (f : FnS) (hfn : ¬ (f.whole = true ∧ f.number = true))
    (w : World) (r : RS) (hn : r.ts.length ≤ n) (hr : Rd w0 w R T wd r) (hN : NumsAt m r.ts) :
    Calls Tryz.prog 95 #[.pointer (some ⟨R, 0, none⟩), .string (bstr s), .agg #[.int .i64 f.takes, .bool f.whole, .bool f.number]] w (ExPost w0 R T wd w (Sp.function m wd spec s f r)) := by
  have HP := Lib.hid hP
  clear hP
  have hr0 := (hr.keep ((Below.refl w.heap.size w).alloc (Nat.le_refl _) (.cells #[.int .i64 f.takes, .bool f.whole, .bool f.number] 91))).keep ((Below.refl _ _).alloc (Nat.le_refl _) (.cells #[.int .i64 0, .int .i64 0, .string ⟨#[]⟩, .slice none 0 0] 36))
  have hg0 : w.grownBy ((w.alloc (.cells #[.int .i64 f.takes, .bool f.whole, .bool f.number] 91)).alloc (.cells #[.int .i64 0, .int .i64 0, .string ⟨#[]⟩, .slice none 0 0] 36)) (some R) := gr_app (gr_alloc _ _ _) _
  have hRw := hr.lt
  have hTw := hr.ltT
  have hBw := hr.below.size
  have hok := hr.ok.1
  cases h1 : Sp.next 40 r with
  | none =>
    have H16 := Lib.hid (next_no (k := 40) (kk := 40) hr0 rfl h1)
    have hfin : Hid (Sp.function m wd spec s f r = none) := by unfold Sp.function; rw [h1]; rfl
    clear h1
    go_enter Tryz.func95, Tryz.ntmps95
    go_wp2_with fail
    refine H16.out.mono ?_
    rintro e w1 ⟨rfl, rfl⟩
    go_wp2_with fail
    exact ⟨rfl, hg0, .inl ⟨hfin.out, rfl⟩⟩
  | some p =>
    obtain ⟨s0, r1⟩ := p
    have H16 := Lib.hid (next_ok (k := 40) (kk := 40) hr0 rfl h1)
    have hsuf1 := next_suffix h1
    have hl1 := next_len h1
    have hfun : Hid (Sp.function m wd spec s f r = match argsGo m wd spec f (r1.ts.length + 1) [] r1 with
      | none => none
      | some (l, r2) => match Sp.next 41 r2 with
        | none => none
        | some (_, r3) => if decide (0 ≤ f.takes) && decide ((l.length : Int) ≠ f.takes) then none else some (Sp.call s l, r3)) := by unfold Sp.function; rw [h1]; rfl
    have hN1 : NumsAt m r1.ts := hN.suffix hsuf1
    clear h1
    go_enter Tryz.func95, Tryz.ntmps95
    go_wp2_with fail
    refine H16.out.mono ?_
    rintro e w1 ⟨rfl, hg1, hr1⟩
    go_wp2_with fail
    refine (call_any _ _ _ _ _).mono ?_
    rintro e w2 ⟨rfl, hb2⟩
    have h12 : w.heap.size + 2 ≤ w1.heap.size := by have := hg1.size; simpa using this
    have h2 := hb2.size
    have hmid : FunMid w0 R T wd w w2.heap.size (w.heap.size + 1) w.heap.size s f r [] (.slice none 0 0) [] r1 (w2.alloc (.cells (four 3 0 (bstr s) (.slice none 0 0)) 36)) := by
      refine ⟨heap_alloc_new _ _, ?_, ?_, World.ownsRow_nil _ _ _ _, by simp [Value.ownBlock], by simp [Value.ownBlock], by simp [Value.ownBlock], rfl, (hr1.keep hb2).keep ((Below.refl _ _).alloc (Nat.le_refl _) _), gr_app (gr_trans (gr_trans hg0 hg1) (gr_below hb2 _)) _, hsuf1⟩
      · rw [Below.heap_alloc _ _ _ (by omega), hb2.block _ (by omega), hg1.block _ (by simp) (by intro e; injection e with e; omega)]
        have := heap_alloc_new (w.alloc (.cells #[.int .i64 f.takes, .bool f.whole, .bool f.number] 91)) (.cells #[.int .i64 0, .int .i64 0, .string ⟨#[]⟩, .slice none 0 0] 36)
        simp only [World.size_alloc] at this
        exact this
      · rw [Below.heap_alloc _ _ _ (by omega), hb2.block _ (by omega), hg1.block _ (by simp; omega) (by intro e; injection e with e; omega), Below.heap_alloc _ _ _ (by simp)]
        exact heap_alloc_new _ _
    have hXw : w.heap.size + 2 ≤ w2.heap.size := by omega
    have hloop : ∃ more l v cs r' k, (Value.bool true) = .bool more ∧ Hid (FunIn m w0 R T wd spec w w2.heap.size s f (argsGo m wd spec f (r1.ts.length + 1) [] r1) r more l v cs r' k (w2.alloc (.cells (four 3 0 (bstr s) (.slice none 0 0)) 36))) :=
      ⟨true, [], _, [], r1, r1.ts.length + 1, rfl, Lib.hid ⟨hmid, by simp; omega, fun _ => ⟨rfl, by omega⟩, fun h => by cases h⟩⟩
    have hloop' := Lib.hid hloop
    clear hmid hloop hg1 hr1 hb2
    generalize hX : w2.heap.size = X at *
    go_wp2_with fail
    generalize Value.agg #[.int .i64 f.takes, .bool f.whole, .bool f.number] = F2
    go_loopw [8] (fun t8 wr => ∃ more l v cs r' k, t8 = .bool more ∧ Hid (FunIn m w0 R T wd spec w X s f (argsGo m wd spec f (r1.ts.length + 1) [] r1) r more l v cs r' k wr)) (fun t8 wr => 2 * lenAt wr R + boolN t8)
    case atStart => exact hloop'.out
    case round =>
      obtain ⟨more, l, v, cs, r', k, rfl, hi⟩ := hrel
      have hmX := hi.out.mid.hX
      have hmF := hi.out.mid.hF
      have hXl := heap_lt hmX
      have hFl := heap_lt hmF
      have hYl := heap_lt hi.out.mid.hY
      have c3 : wr.cell? ⟨X, 3, none⟩ = some v := cell_heap hmX 3
      have f0 : wr.cell? ⟨w.heap.size, 0, none⟩ = some (.int .i64 f.takes) := cell_heap hmF 0
      have f1 : wr.cell? ⟨w.heap.size, 1, none⟩ = some (.bool f.whole) := cell_heap hmF 1
      have f2 : wr.cell? ⟨w.heap.size, 2, none⟩ = some (.bool f.number) := cell_heap hmF 2
      have df : ∀ i, wr.frozen? ⟨X, i, none⟩ = false := fun i => free_heap hmX i
      have hrd := hi.out.mid.rd
      have hll := hi.out.len
      have hso := hi.out.mid.suf
      clear hmX hmF
      cases more with
      | false =>
        have hno := hi.out.no rfl
        rw [hno] at hfun
        dsimp only at hfun
        have hmid := Lib.hid hi.out.mid
        obtain ⟨A, cc, rfl⟩ : ∃ A cc, v = .slice A l.length cc := by
          rcases hi.out.mid.own.2 with ⟨rfl, h0⟩ | ⟨g, cap, cur, rfl, _⟩
          · exact ⟨none, 0, by rw [h0]⟩
          · exact ⟨_, _, rfl⟩
        cases h2 : Sp.next 41 r' with
        | none =>
          have H16 := Lib.hid (next_no (k := 41) (kk := 41) hrd rfl h2)
          rw [h2] at hfun
          dsimp only at hfun
          clear h2 hno hi
          go_wp2_with fail
          refine H16.out.mono ?_
          rintro e w3 ⟨rfl, rfl⟩
          go_wp2_with fail
          exact ⟨rfl, hmid.out.gr, .inl ⟨hfun.out, rfl⟩⟩
        | some p =>
          obtain ⟨s2, r2⟩ := p
          have H16 := Lib.hid (next_ok (k := 41) (kk := 41) hrd rfl h2)
          rw [h2] at hfun
          dsimp only at hfun
          have hsuf2 := next_suffix h2
          clear h2 hno hi
          by_cases ct : (decide (0 ≤ f.takes) && decide ((l.length : Int) ≠ f.takes)) = true
          · have hfin : Hid (Sp.function m wd spec s f r = none) := Lib.hid (by rw [hfun.out, if_pos ct])
            clear hfun
            simp only [Bool.and_eq_true, decide_eq_true_eq, ne_eq] at ct
            have ct1 := ct.1
            have ct2 : ¬ ((l.length : Int) = f.takes) := ct.2
            have ct3 : ((l.length : Int) == f.takes) = false := by simpa using ct.2
            have ct4 : ((l.length : Int) != f.takes) = true := by simpa using ct.2
            clear ct
            go_wp2_with fail
            refine H16.out.mono ?_
            rintro e w3 ⟨rfl, hg3, hr3⟩
            have hm3 := Lib.hid (hmid.out.grown hRw (by omega) (by omega) (by omega) hg3 hr3 (hsuf2.trans hso))
            have e3 : w3.cell? ⟨X, 3, none⟩ = some (.slice A l.length cc) := cell_heap hm3.out.hX 3
            have e0 : w3.cell? ⟨w.heap.size, 0, none⟩ = some (.int .i64 f.takes) := cell_heap hm3.out.hF 0
            go_wp2_with fail
            refine (syntax_any _ _).mono ?_
            rintro e w4 ⟨rfl, rfl⟩
            go_wp2_with fail
            exact ⟨rfl, hm3.out.gr, .inl ⟨hfin.out, rfl⟩⟩
          · have hfin : Hid (Sp.function m wd spec s f r = some (Sp.call s l, r2)) := Lib.hid (by rw [hfun.out, if_neg ct])
            clear hfun
            have ct1 : f.takes < 0 ∨ (l.length : Int) = f.takes := by
              by_cases h0 : 0 ≤ f.takes
              · right
                by_cases h1 : (l.length : Int) = f.takes
                · exact h1
                · exact absurd (by simp [h0, h1]) ct
              · left; omega
            clear ct
            have ct2 : Hid (((decide (0 ≤ f.takes)) = false) ∨ ((decide (0 ≤ f.takes) = true ∧ (l.length : Int) = f.takes))) := Lib.hid (by
              rcases ct1 with h | h
              · left; simp; omega
              · right; exact ⟨by simp; omega, h⟩)
            clear ct1
            go_wp2_with fail
            refine H16.out.mono ?_
            rintro e w3 ⟨rfl, hg3, hr3⟩
            have hm3 := Lib.hid (hmid.out.grown hRw (by omega) (by omega) (by omega) hg3 hr3 (hsuf2.trans hso))
            obtain ⟨e0, e1, e2, e3⟩ := cells4 hm3.out.hX
            obtain ⟨d0, d1, d2, d3⟩ := cells4 hm3.out.hY
            have dy : ∀ i, w3.frozen? ⟨w.heap.size + 1, i, none⟩ = false := fun i => free_heap hm3.out.hY i
            have e0 : w3.cell? ⟨w.heap.size, 0, none⟩ = some (.int .i64 f.takes) := cell_heap hm3.out.hF 0
            have hret := Lib.hid (hm3.out.ret hRw hTw hBw (by omega))
            rcases ct2.out with h0 | ⟨h0, h1⟩
            · clear ct2
              go_wp2_with fail
              exact bodyPost_ret (results36 (p := 6) rfl _ _ (w.heap.size + 1) 3 0 (bstr s) (.slice A l.length cc) rfl hret.out.2.1) rfl ⟨hret.out.1, .inr ⟨_, _, _, _, _, _, _, _, hfin.out, rfl, hret.out.2.2.1, hret.out.2.2.2⟩⟩
            · clear ct2
              have h2 : ((l.length : Int) == f.takes) = true := by simpa using h1
              have h3 : ((l.length : Int) != f.takes) = false := by simpa using h1
              clear h1
              go_wp2_with fail
              exact bodyPost_ret (results36 (p := 6) rfl _ _ (w.heap.size + 1) 3 0 (bstr s) (.slice A l.length cc) rfl hret.out.2.1) rfl ⟨hret.out.1, .inr ⟨_, _, _, _, _, _, _, _, hfin.out, rfl, hret.out.2.2.1, hret.out.2.2.2⟩⟩
      | true =>
        have hyes := (hi.out.yes rfl).1
        have hfu := (hi.out.yes rfl).2
        obtain ⟨k, rfl⟩ : ∃ k', k = k' + 1 := ⟨k - 1, by omega⟩
        rw [argsGo] at hyes
        obtain ⟨A, cc, rfl⟩ : ∃ A cc, v = .slice A l.length cc := by
          rcases hi.out.mid.own.2 with ⟨rfl, h0⟩ | ⟨g, cap, cur, rfl, _⟩
          · exact ⟨none, 0, by rw [h0]⟩
          · exact ⟨_, _, rfl⟩
        have hN2 : NumsAt m r'.ts := hN.suffix hso
        have hl2 : l.length ≤ 70000 := by have := hso.length_le; simp at hll; omega
        have hmid := Lib.hid hi.out.mid
        have cw := hrd.width
        by_cases ca : f.whole = true ∧ 0 < l.length
        · have harg : Sp.arg m wd spec f l.length r' = match Sp.wholeR m r' with | none => none | some (b, r'') => some (.mk 4 b [] [], r'') := by
            unfold Sp.arg
            rw [if_pos (by simpa using ca)]
            cases Sp.wholeR m r' <;> rfl
          rw [harg] at hyes
          have g1 := ca.1
          have g2 : decide (0 < l.length) = true := decide_eq_true ca.2
          have g3 : f.number = false := by cases h : f.number with | false => rfl | true => exact absurd ⟨ca.1, h⟩ hfn
          have g4 : ¬ l.length = 0 := by have := ca.2; omega
          have g5 : 0 < l.length := ca.2
          clear ca harg hfn
          cases hsp : Sp.wholeR m r' with
          | none =>
            have HPn : Hid (∀ W, Rd w0 W R T wd r' → Calls Tryz.prog 39 #[.pointer (some ⟨R, 0, none⟩)] W fun e w' => e = .panicked (giv 70) ∧ W.grownBy w' (some R)) := fun W hW => wholeR_no hm hW hsp
            rw [hsp] at hyes
            dsimp only at hyes
            rw [← hyes] at hfun
            dsimp only at hfun
            clear hsp hyes hi hfu hll hm
            have hrd' := hrd.drew
            go_wp2_with fail
            refine wp_region_any (by kernel_rfl) ?_
            change wpAny _ _ _ _ _ _ _ (World.drew _)
            refine wpAny_take (i := 0) (v := .pointer (some ⟨X, 3, none⟩)) rfl (by kernel_rfl) (by kernel_rfl) (by kernel_rfl) (fun _ _ _ h => h) (Or.inl ⟨by rfl, fun w => by go_simp⟩) ?_
            refine wpAny_take (i := 2) (v := .pointer (some ⟨R, 0, none⟩)) rfl (by kernel_rfl) (by kernel_rfl) (by kernel_rfl) (fun _ _ _ h => h) (Or.inl ⟨by rfl, fun w => by go_simp⟩) ?_
            refine wpAny_ready (rs := [1, 3]) (by kernel_rfl) (by simp) ?_
            refine AllReady.cons rfl (fun K hK => ?_) (AllReady.cons rfl (fun K hK => ?_) (AllReady.nil))
            · go_simp
              refine hK _ _ ?_
              clear hK K
              refine wpAny_ready (rs := [3]) (by kernel_rfl) (by simp) ?_
              refine AllReady.cons rfl (fun K hK => ?_) (AllReady.nil)
              · go_simp
                refine (HPn.out _ hrd').mono ?_
                rintro e w3 ⟨rfl, hg3⟩
                exact ⟨rfl, gr_trans (gr_drew hmid.out.gr) hg3, .inl ⟨hfun.out, rfl⟩⟩
            · go_simp
              refine (HPn.out _ hrd').mono ?_
              rintro e w3 ⟨rfl, hg3⟩
              exact ⟨rfl, gr_trans (gr_drew hmid.out.gr) hg3, .inl ⟨hfun.out, rfl⟩⟩
          | some p =>
            obtain ⟨b4, r2⟩ := p
            have HPs : Hid (∀ W, Rd w0 W R T wd r' → Calls Tryz.prog 39 #[.pointer (some ⟨R, 0, none⟩)] W fun e w' => e = .returned (.int .i64 b4) ∧ W.grownBy w' (some R) ∧ Rd w0 w' R T wd r2) := fun W hW => wholeR_ok hm hW hsp
            rw [hsp] at hyes
            dsimp only at hyes
            have hyes' := Lib.hid hyes
            have hsuf2 := wholeR_suffix hsp
            clear hsp hyes hi hm
            have hrd' := hrd.drew
            have hXR : (some X : Option Nat) ≠ some R := by simp; omega
            have hsz := hmid.out.gr.size
            obtain ⟨i0, hi0, hz0, hz1, hz2⟩ := info_parts info36
            have hb5 : (l.length + 1) * 56 ≤ 140737488355328 := by omega
            have hm5 : l.length + 1 ≤ maxLen := by unfold maxLen; omega
            generalize hy0 : (Ex.mk 4 b4 [] []) = y at hyes'
            go_wp2_with fail
            go_region_law (first | (go_simp; refine (HPs.out _ hrd').mono ?_; rintro e w3 ⟨rfl, hg3, hr3⟩; have hy : ExAt w3 (Since wr.drew.heap.size) y [.int .i64 4, .int .i64 b4, .string ⟨#[]⟩, .slice none 0 0] := by {rw [← hy0]; exact ExAt.leaf _ _ _ _}; have i3 := hg3.cell (w := wr.drew) c3 hXR; have i4 := fun o => cell_old ((Below.refl w3.heap.size w3).alloc (Nat.le_refl _) o) i3; have hown3 := Lib.hid ((hmid.out.own.kept (gr_drew (gr_refl wr (some R))) (hmid.out.far hRw)).kept hg3 (hmid.out.far hRw)); have m3 := Lib.hid (hmid.out.grown hRw (by omega) (by omega) (by omega) (gr_trans (gr_drew (gr_refl wr (some R))) hg3) hr3 (hsuf2.trans hso)); have df3 := fun i => free_heap m3.out.hX i) | (refine step_append_lies _ rfl _ _ _ rfl w.heap.size 36 i0 _ 4 56 under34 hi0 hz0 hz1 hz2 rfl (by decide) (.slice A l.length cc) l.length cs (by simp [Act.eval, Act.put]) (hown3.out.alloc _) ⟨w3.heap.size, 0, none⟩ 1 1 [.int .i64 4, .int .i64 b4, .string ⟨#[]⟩, .slice none 0 0] (by simp [Act.eval, Act.put]) rfl (World.news_of_block (heap_alloc_new _ _)) (by simp [Value.oneCell']) (by omega) hm5 hb5 (by have := hg3.size; simp at this ⊢; omega) _ rfl ?_; intro g cap wa hown hga hat hlt; have hXl3 := heap_lt m3.out.hX; have mXa := Lib.hid ((hga.block X (by simp; omega) (fun e => hmid.out.nX e.symm)).trans ((Below.heap_alloc w3 _ X hXl3).trans m3.out.hX)); have jc : wa.cell? ⟨X, 3, none⟩ = some (.slice A l.length cc) := cell_heap mXa.out 3; have jf : wa.frozen? ⟨X, 3, none⟩ = false := free_heap mXa.out 3))
            all_goals
              have hmid4 := Lib.hid (m3.out.step (B := wr.drew.heap.size) hRw hTw hBw (by omega) (by omega) (by omega) (by omega) (by omega) (by simp; omega) (by simpa using hXl) (by simpa using hYl) (fun g hg => by have := (hmid.out.own.lt _ hg).2; simpa using this) hy hown hga (hat.imp id fun h => by simpa using h))
              have hlen0 := hrd.len
              have hl2' := hsuf2.length_le
              cases hsg : Sp.sign [44] r2 with
              | none =>
                have H75 := Lib.hid (sign_no hmid4.out.rd hsg)
                have hy5 := hyes'.out
                rw [hsg] at hy5
                have hy6 := Lib.hid hy5
                clear hy5 hsg hyes'
                go_wp2_with fail
                refine H75.out.mono ?_
                rintro e w5 ⟨rfl, rfl⟩
                go_wp2_with fail
                have hlen1 := hmid4.out.rd.len
                go_roundw
                case rel => exact ⟨false, l ++ [y], _, _, r2, k, rfl, Lib.hid ⟨hmid4.out, by simp at hll ⊢; omega, (fun h => by cases h), fun _ => hy6.out.symm⟩⟩
                case measure => rw [hlen0, hlen1]; simp only [boolN_true, boolN_false]; omega
              | some p =>
                obtain ⟨s5, r5⟩ := p
                have H75 := Lib.hid (sign_ok hmid4.out.rd hsg)
                have hy5 := hyes'.out
                rw [hsg] at hy5
                dsimp only at hy5
                have hy6 := Lib.hid hy5
                have hsuf5 := sign_suffix hsg
                have hl5 := sign_len hsg
                clear hy5 hsg hyes'
                go_wp2_with fail
                refine H75.out.mono ?_
                rintro e w5 ⟨rfl, hg5, hr5⟩
                go_wp2_with fail
                have hmid5 := Lib.hid (hmid4.out.grown hRw (by omega) (by omega) (by omega) hg5 hr5 (hsuf5.trans (hsuf2.trans hso)))
                have hlen1 := hmid5.out.rd.len
                go_roundw
                case rel => exact ⟨true, l ++ [y], _, _, r5, k, rfl, Lib.hid ⟨hmid5.out, by simp at hll ⊢; omega, fun _ => ⟨hy6.out, by omega⟩, fun h => by cases h⟩⟩
                case measure => rw [hlen0, hlen1]; simp only [boolN_true, boolN_false]; omega
        · by_cases cb : f.number = true ∧ l.length = 2
          · have harg : Sp.arg m wd spec f l.length r' = match Sp.numberR m wd r' with | none => none | some (b, r'') => some (.mk 1 b [] [], r'') := by
              unfold Sp.arg
              rw [if_neg (by simpa using ca), if_pos (by simpa using cb)]
              cases Sp.numberR m wd r' <;> rfl
            rw [harg] at hyes
            have g1 : f.whole = false := by cases h : f.whole with | false => rfl | true => exact absurd ⟨h, cb.1⟩ hfn
            have g3 := cb.1
            have g4 : ((l.length : Int) == 2) = true := by rw [cb.2]; rfl
            clear ca harg hfn hm
            cases hsp : Sp.numberR m wd r' with
            | none =>
              have HPn : Hid (∀ W, Rd w0 W R T wd r' → Calls Tryz.prog 76 #[.pointer (some ⟨R, 0, none⟩), .int .i64 wd] W fun e w' => e = .panicked (giv 70) ∧ W.grownBy w' (some R)) := fun W hW => numberR_no hW hwd hN2 hsp
              rw [hsp] at hyes
              dsimp only at hyes
              rw [← hyes] at hfun
              dsimp only at hfun
              clear hsp hyes hi hfu hll cb
              have hrd' := hrd.drew
              go_wp2_with fail
              refine wp_region_any (by kernel_rfl) ?_
              change wpAny _ _ _ _ _ _ _ (World.drew _)
              refine wpAny_take (i := 0) (v := .pointer (some ⟨X, 3, none⟩)) rfl (by kernel_rfl) (by kernel_rfl) (by kernel_rfl) (fun _ _ _ h => h) (Or.inl ⟨by rfl, fun w => by go_simp⟩) ?_
              refine wpAny_take (i := 2) (v := .pointer (some ⟨R, 0, none⟩)) rfl (by kernel_rfl) (by kernel_rfl) (by kernel_rfl) (fun _ _ _ h => h) (Or.inl ⟨by rfl, fun w => by go_simp⟩) ?_
              refine wpAny_take (i := 3) (v := .pointer (some ⟨R, 0, none⟩)) rfl (by kernel_rfl) (by kernel_rfl) (by kernel_rfl) (fun _ _ _ h => h) (Or.inl ⟨by rfl, fun w => by go_simp⟩) ?_
              refine wpAny_take (i := 4) (v := .pointer (some ⟨R, 0, none⟩)) rfl (by kernel_rfl) (by kernel_rfl) (by kernel_rfl) (fun _ _ _ h => h) (Or.inl ⟨by rfl, fun w => by go_simp⟩) ?_
              refine wpAny_take (i := 5) (v := .pointer (some ⟨R, 1, none⟩)) rfl (by kernel_rfl) (by kernel_rfl) (by kernel_rfl) (fun _ _ _ h => h) (Or.inl ⟨by rfl, fun w => by go_simp⟩) ?_
              refine wpAny_ready (rs := [1, 6]) (by kernel_rfl) (by simp) ?_
              refine AllReady.cons rfl (fun K hK => ?_) (AllReady.cons rfl (fun K hK => ?_) (AllReady.nil))
              · go_simp
                refine hK _ _ ?_
                clear hK K
                refine wpAny_ready (rs := [6]) (by kernel_rfl) (by simp) ?_
                refine AllReady.cons rfl (fun K hK => ?_) (AllReady.nil)
                · go_simp
                  refine hK _ _ ?_
                  clear hK K
                  refine wpAny_ready (rs := [7]) (by kernel_rfl) (by simp) ?_
                  refine AllReady.cons rfl (fun K hK => ?_) (AllReady.nil)
                  · go_simp
                    refine (HPn.out _ hrd').mono ?_
                    rintro e w3 ⟨rfl, hg3⟩
                    exact ⟨rfl, gr_trans (gr_drew hmid.out.gr) hg3, .inl ⟨hfun.out, rfl⟩⟩
              · go_simp
                refine hK _ _ ?_
                clear hK K
                refine wpAny_ready (rs := [1, 7]) (by kernel_rfl) (by simp) ?_
                refine AllReady.cons rfl (fun K hK => ?_) (AllReady.cons rfl (fun K hK => ?_) (AllReady.nil))
                · go_simp
                  refine hK _ _ ?_
                  clear hK K
                  refine wpAny_ready (rs := [7]) (by kernel_rfl) (by simp) ?_
                  refine AllReady.cons rfl (fun K hK => ?_) (AllReady.nil)
                  · go_simp
                    refine (HPn.out _ hrd').mono ?_
                    rintro e w3 ⟨rfl, hg3⟩
                    exact ⟨rfl, gr_trans (gr_drew hmid.out.gr) hg3, .inl ⟨hfun.out, rfl⟩⟩
                · go_simp
                  refine (HPn.out _ hrd').mono ?_
                  rintro e w3 ⟨rfl, hg3⟩
                  exact ⟨rfl, gr_trans (gr_drew hmid.out.gr) hg3, .inl ⟨hfun.out, rfl⟩⟩
            | some p =>
              obtain ⟨b4, r2⟩ := p
              have HPs : Hid (∀ W, Rd w0 W R T wd r' → Calls Tryz.prog 76 #[.pointer (some ⟨R, 0, none⟩), .int .i64 wd] W fun e w' => e = .returned (.int .i64 b4) ∧ W.grownBy w' (some R) ∧ Rd w0 w' R T wd r2) := fun W hW => numberR_ok hW hwd hN2 hsp
              rw [hsp] at hyes
              dsimp only at hyes
              have hyes' := Lib.hid hyes
              have hsuf2 := numberR_suffix hsp
              clear hsp hyes hi cb
              have hrd' := hrd.drew
              have hXR : (some X : Option Nat) ≠ some R := by simp; omega
              have hsz := hmid.out.gr.size
              obtain ⟨i0, hi0, hz0, hz1, hz2⟩ := info_parts info36
              have hb5 : (l.length + 1) * 56 ≤ 140737488355328 := by omega
              have hm5 : l.length + 1 ≤ maxLen := by unfold maxLen; omega
              generalize hy0 : (Ex.mk 1 b4 [] []) = y at hyes'
              go_wp2_with fail
              go_region_law (first | (go_simp; refine (HPs.out _ hrd').mono ?_; rintro e w3 ⟨rfl, hg3, hr3⟩; have hy : ExAt w3 (Since wr.drew.heap.size) y [.int .i64 1, .int .i64 b4, .string ⟨#[]⟩, .slice none 0 0] := by {rw [← hy0]; exact ExAt.leaf _ _ _ _}; have i3 := hg3.cell (w := wr.drew) c3 hXR; have i4 := fun o => cell_old ((Below.refl w3.heap.size w3).alloc (Nat.le_refl _) o) i3; have hown3 := Lib.hid ((hmid.out.own.kept (gr_drew (gr_refl wr (some R))) (hmid.out.far hRw)).kept hg3 (hmid.out.far hRw)); have m3 := Lib.hid (hmid.out.grown hRw (by omega) (by omega) (by omega) (gr_trans (gr_drew (gr_refl wr (some R))) hg3) hr3 (hsuf2.trans hso)); have df3 := fun i => free_heap m3.out.hX i) | (refine step_append_lies _ rfl _ _ _ rfl w.heap.size 36 i0 _ 4 56 under34 hi0 hz0 hz1 hz2 rfl (by decide) (.slice A l.length cc) l.length cs (by simp [Act.eval, Act.put]) (hown3.out.alloc _) ⟨w3.heap.size, 0, none⟩ 1 1 [.int .i64 1, .int .i64 b4, .string ⟨#[]⟩, .slice none 0 0] (by simp [Act.eval, Act.put]) rfl (World.news_of_block (heap_alloc_new _ _)) (by simp [Value.oneCell']) (by omega) hm5 hb5 (by have := hg3.size; simp at this ⊢; omega) _ rfl ?_; intro g cap wa hown hga hat hlt; have hXl3 := heap_lt m3.out.hX; have mXa := Lib.hid ((hga.block X (by simp; omega) (fun e => hmid.out.nX e.symm)).trans ((Below.heap_alloc w3 _ X hXl3).trans m3.out.hX)); have jc : wa.cell? ⟨X, 3, none⟩ = some (.slice A l.length cc) := cell_heap mXa.out 3; have jf : wa.frozen? ⟨X, 3, none⟩ = false := free_heap mXa.out 3))
              all_goals
                have hmid4 := Lib.hid (m3.out.step (B := wr.drew.heap.size) hRw hTw hBw (by omega) (by omega) (by omega) (by omega) (by omega) (by simp; omega) (by simpa using hXl) (by simpa using hYl) (fun g hg => by have := (hmid.out.own.lt _ hg).2; simpa using this) hy hown hga (hat.imp id fun h => by simpa using h))
                have hlen0 := hrd.len
                have hl2' := hsuf2.length_le
                cases hsg : Sp.sign [44] r2 with
                | none =>
                  have H75 := Lib.hid (sign_no hmid4.out.rd hsg)
                  have hy5 := hyes'.out
                  rw [hsg] at hy5
                  have hy6 := Lib.hid hy5
                  clear hy5 hsg hyes'
                  go_wp2_with fail
                  refine H75.out.mono ?_
                  rintro e w5 ⟨rfl, rfl⟩
                  go_wp2_with fail
                  have hlen1 := hmid4.out.rd.len
                  go_roundw
                  case rel => exact ⟨false, l ++ [y], _, _, r2, k, rfl, Lib.hid ⟨hmid4.out, by simp at hll ⊢; omega, (fun h => by cases h), fun _ => hy6.out.symm⟩⟩
                  case measure => rw [hlen0, hlen1]; simp only [boolN_true, boolN_false]; omega
                | some p =>
                  obtain ⟨s5, r5⟩ := p
                  have H75 := Lib.hid (sign_ok hmid4.out.rd hsg)
                  have hy5 := hyes'.out
                  rw [hsg] at hy5
                  dsimp only at hy5
                  have hy6 := Lib.hid hy5
                  have hsuf5 := sign_suffix hsg
                  have hl5 := sign_len hsg
                  clear hy5 hsg hyes'
                  go_wp2_with fail
                  refine H75.out.mono ?_
                  rintro e w5 ⟨rfl, hg5, hr5⟩
                  go_wp2_with fail
                  have hmid5 := Lib.hid (hmid4.out.grown hRw (by omega) (by omega) (by omega) hg5 hr5 (hsuf5.trans (hsuf2.trans hso)))
                  have hlen1 := hmid5.out.rd.len
                  go_roundw
                  case rel => exact ⟨true, l ++ [y], _, _, r5, k, rfl, Lib.hid ⟨hmid5.out, by simp at hll ⊢; omega, fun _ => ⟨hy6.out, by omega⟩, fun h => by cases h⟩⟩
                  case measure => rw [hlen0, hlen1]; simp only [boolN_true, boolN_false]; omega
          · have harg : Sp.arg m wd spec f l.length r' = spec r' := by
              unfold Sp.arg
              rw [if_neg (by simpa using ca), if_neg (by simpa using cb)]
            rw [harg] at hyes
            have hln : r'.ts.length ≤ n := by have := hso.length_le; omega
            have HPw := Lib.hid (fun W (hR : Rd w0 W R T wd r') => HP.out W r' hln hR hN2)
            have ga : Hid ((f.whole = false ∧ f.number = false) ∨ (f.whole = false ∧ f.number = true ∧ ((l.length : Int) == 2) = false) ∨ (f.whole = true ∧ decide (0 < l.length) = false ∧ f.number = false)) := Lib.hid (by
              cases hw : f.whole with
              | false => cases hx : f.number with
                | false => left; exact ⟨rfl, rfl⟩
                | true => right; left; exact ⟨rfl, rfl, by have : ¬ l.length = 2 := fun h => cb ⟨hx, h⟩; exact beq_eq_false_iff_ne.2 (by omega)⟩
              | true => right; right; exact ⟨rfl, by have : ¬ 0 < l.length := fun h => ca ⟨hw, h⟩; exact decide_eq_false (by omega), by cases h : f.number with | false => rfl | true => exact absurd ⟨hw, h⟩ hfn⟩)
            clear ca cb harg hm hfn
            cases hsp : spec r' with
            | none =>
              rw [hsp] at hyes HPw
              dsimp only at hyes
              rw [← hyes] at hfun
              dsimp only at hfun
              have HPn : Hid (∀ W, Rd w0 W R T wd r' → Calls Tryz.prog 41 #[.pointer (some ⟨R, 0, none⟩)] W fun e w' => e = .panicked (giv 70) ∧ W.grownBy w' (some R)) := fun W hW => by
                refine (HPw.out W hW).mono ?_
                rintro e w' ⟨hg, ⟨_, rfl⟩ | ⟨_, _, _, _, _, _, _, _, h, _⟩⟩
                · exact ⟨rfl, hg⟩
                · cases h
              clear hsp HPw hyes hi hfu hll
              have hrd' := hrd.drew
              rcases ga.out with ⟨g1, g3⟩ | ⟨g1, g3, g4⟩ | ⟨g1, g2, g3⟩
              all_goals
                clear ga
                go_wp2_with fail
                refine wp_region_any (by kernel_rfl) ?_
                change wpAny _ _ _ _ _ _ _ (World.drew _)
                refine wpAny_take (i := 0) (v := .pointer (some ⟨X, 3, none⟩)) rfl (by kernel_rfl) (by kernel_rfl) (by kernel_rfl) (fun _ _ _ h => h) (Or.inl ⟨by rfl, fun w => by go_simp⟩) ?_
                refine wpAny_take (i := 2) (v := .pointer (some ⟨R, 0, none⟩)) rfl (by kernel_rfl) (by kernel_rfl) (by kernel_rfl) (fun _ _ _ h => h) (Or.inl ⟨by rfl, fun w => by go_simp⟩) ?_
                refine wpAny_ready (rs := [1, 3]) (by kernel_rfl) (by simp) ?_
                refine AllReady.cons rfl (fun K hK => ?_) (AllReady.cons rfl (fun K hK => ?_) (AllReady.nil))
                · go_simp
                  refine hK _ _ ?_
                  clear hK K
                  refine wpAny_ready (rs := [3]) (by kernel_rfl) (by simp) ?_
                  refine AllReady.cons rfl (fun K hK => ?_) (AllReady.nil)
                  · go_simp
                    refine (HPn.out _ hrd').mono ?_
                    rintro e w3 ⟨rfl, hg3⟩
                    exact ⟨rfl, gr_trans (gr_drew hmid.out.gr) hg3, .inl ⟨hfun.out, rfl⟩⟩
                · go_simp
                  refine (HPn.out _ hrd').mono ?_
                  rintro e w3 ⟨rfl, hg3⟩
                  exact ⟨rfl, gr_trans (gr_drew hmid.out.gr) hg3, .inl ⟨hfun.out, rfl⟩⟩
            | some p =>
              obtain ⟨y, r2⟩ := p
              rw [hsp] at hyes HPw
              dsimp only at hyes
              have hyes' := Lib.hid hyes
              have hsuf2 := hE _ _ _ hsp
              have HPs : Hid (∀ W, Rd w0 W R T wd r' → Calls Tryz.prog 41 #[.pointer (some ⟨R, 0, none⟩)] W fun e w' => ∃ k b s A n c, e = .returned (.agg #[.int .i64 k, .int .i64 b, .string s, .slice A n c]) ∧ W.grownBy w' (some R) ∧ ExAt w' (Since W.heap.size) y [.int .i64 k, .int .i64 b, .string s, .slice A n c] ∧ Rd w0 w' R T wd r2) := fun W hW => by
                refine (HPw.out W hW).mono ?_
                rintro e w' ⟨hg, ⟨h, _⟩ | ⟨x, r', k, b, s, A, n, c, h, rfl, h1, h2⟩⟩
                · cases h
                · simp only [Option.some.injEq, Prod.mk.injEq] at h
                  obtain ⟨rfl, rfl⟩ := h
                  exact ⟨k, b, s, A, n, c, rfl, hg, h1, h2⟩
              clear hsp HPw hyes hi
              have hrd' := hrd.drew
              have hXR : (some X : Option Nat) ≠ some R := by simp; omega
              have hsz := hmid.out.gr.size
              obtain ⟨i0, hi0, hz0, hz1, hz2⟩ := info_parts info36
              have hb5 : (l.length + 1) * 56 ≤ 140737488355328 := by omega
              have hm5 : l.length + 1 ≤ maxLen := by unfold maxLen; omega
              rcases ga.out with ⟨g1, g3⟩ | ⟨g1, g3, g4⟩ | ⟨g1, g2, g3⟩
              all_goals
                clear ga
                go_wp2_with fail
                go_region_law (first | (go_simp; refine (HPs.out _ hrd').mono ?_; rintro e w3 ⟨ky, by_, sy, Ay, ny, cy, rfl, hg3, hy, hr3⟩; have i3 := hg3.cell (w := wr.drew) c3 hXR; have i4 := fun o => cell_old ((Below.refl w3.heap.size w3).alloc (Nat.le_refl _) o) i3; have hown3 := Lib.hid ((hmid.out.own.kept (gr_drew (gr_refl wr (some R))) (hmid.out.far hRw)).kept hg3 (hmid.out.far hRw)); have m3 := Lib.hid (hmid.out.grown hRw (by omega) (by omega) (by omega) (gr_trans (gr_drew (gr_refl wr (some R))) hg3) hr3 (hsuf2.trans hso)); have df3 := fun i => free_heap m3.out.hX i) | (refine step_append_lies _ rfl _ _ _ rfl w.heap.size 36 i0 _ 4 56 under34 hi0 hz0 hz1 hz2 rfl (by decide) (.slice A l.length cc) l.length cs (by simp [Act.eval, Act.put]) (hown3.out.alloc _) ⟨w3.heap.size, 0, none⟩ 1 1 [.int .i64 ky, .int .i64 by_, .string sy, .slice Ay ny cy] (by simp [Act.eval, Act.put]) rfl (World.news_of_block (heap_alloc_new _ _)) (by simp [Value.oneCell']) (by omega) hm5 hb5 (by have := hg3.size; simp at this ⊢; omega) _ rfl ?_; intro g cap wa hown hga hat hlt; have hXl3 := heap_lt m3.out.hX; have mXa := Lib.hid ((hga.block X (by simp; omega) (fun e => hmid.out.nX e.symm)).trans ((Below.heap_alloc w3 _ X hXl3).trans m3.out.hX)); have jc : wa.cell? ⟨X, 3, none⟩ = some (.slice A l.length cc) := cell_heap mXa.out 3; have jf : wa.frozen? ⟨X, 3, none⟩ = false := free_heap mXa.out 3))
                all_goals
                  have hmid4 := Lib.hid (m3.out.step (B := wr.drew.heap.size) hRw hTw hBw (by omega) (by omega) (by omega) (by omega) (by omega) (by simp; omega) (by simpa using hXl) (by simpa using hYl) (fun g hg => by have := (hmid.out.own.lt _ hg).2; simpa using this) hy hown hga (hat.imp id fun h => by simpa using h))
                  have hlen0 := hrd.len
                  have hl2' := hsuf2.length_le
                  cases hsg : Sp.sign [44] r2 with
                  | none =>
                    have H75 := Lib.hid (sign_no hmid4.out.rd hsg)
                    have hy5 := hyes'.out
                    rw [hsg] at hy5
                    have hy6 := Lib.hid hy5
                    clear hy5 hsg hyes'
                    go_wp2_with fail
                    refine H75.out.mono ?_
                    rintro e w5 ⟨rfl, rfl⟩
                    go_wp2_with fail
                    have hlen1 := hmid4.out.rd.len
                    go_roundw
                    case rel => exact ⟨false, l ++ [y], _, _, r2, k, rfl, Lib.hid ⟨hmid4.out, by simp at hll ⊢; omega, (fun h => by cases h), fun _ => hy6.out.symm⟩⟩
                    case measure => rw [hlen0, hlen1]; simp only [boolN_true, boolN_false]; omega
                  | some p =>
                    obtain ⟨s5, r5⟩ := p
                    have H75 := Lib.hid (sign_ok hmid4.out.rd hsg)
                    have hy5 := hyes'.out
                    rw [hsg] at hy5
                    dsimp only at hy5
                    have hy6 := Lib.hid hy5
                    have hsuf5 := sign_suffix hsg
                    have hl5 := sign_len hsg
                    clear hy5 hsg hyes'
                    go_wp2_with fail
                    refine H75.out.mono ?_
                    rintro e w5 ⟨rfl, hg5, hr5⟩
                    go_wp2_with fail
                    have hmid5 := Lib.hid (hmid4.out.grown hRw (by omega) (by omega) (by omega) hg5 hr5 (hsuf5.trans (hsuf2.trans hso)))
                    have hlen1 := hmid5.out.rd.len
                    go_roundw
                    case rel => exact ⟨true, l ++ [y], _, _, r5, k, rfl, Lib.hid ⟨hmid5.out, by simp at hll ⊢; omega, fun _ => ⟨hy6.out, by omega⟩, fun h => by cases h⟩⟩
                    case measure => rw [hlen0, hlen1]; simp only [boolN_true, boolN_false]; omega
end Go.Proofs.YtdkhedefcmjjgaaGreatDoor
