/- line, walked: the second line that means something.
Conditions: the scan's contract. -/
import Derived.Test.YtdkhedefcmjjgaaGreatDoorMLine2
namespace Go.Proofs.YtdkhedefcmjjgaaGreatDoor
open Go.RowKit Sp
set_option linter.unusedVariables false
set_option linter.unusedSimpArgs false
set_option maxRecDepth 100000 in
set_option maxHeartbeats 4000000 in
theorem line_2 (m : Nums) (wb : World) (S : Nat) (s : St) (w : World) (hst : StAt wb S s w) (l : Bs) (i : Int) (hl : l.length ≤ 70000) (hv : void l = false) (ts : List Tok) (hs : Sp.scan l = some ts) (hok : OkTs ts) (hm : ∀ s, m.whole s = wholeF s)
    (hsc : ∀ W, Env W → Calls Tryz.prog 15 #[.string (bstr l)] W (ScanPost l W)) (hz : s.seen = 1) :
    Calls Tryz.prog 10 #[.pointer (some ⟨S, 0, none⟩), .string (bstr l), .int .i64 i] w (LinePost wb S (Sp.line m s l i) w) := by
  have hmf : ∀ (fn : Fn) (first cap : Array Value) (w : World), (Instr.makeFunc fn first cap).run Tryz.prog w = .ok (.func fn first cap) w := fun _ _ _ _ => rfl
  have hspec : Hid (Sp.line m s l i = lineToks m s ts i) := Lib.hid (by unfold Sp.line; rw [hv, hs]; rfl)
  have hSlt := hst.lt
  have hst' := Lib.hid hst
  obtain ⟨dv, cs, hat⟩ := hst.at_
  have hat' := Lib.hid hat
  have hstA := Lib.hid (hst.keep ((Below.refl w.heap.size w).alloc (Nat.le_refl _) (.cells #[.int .i64 0] 26)))
  have H14 := Lib.hid (strim_any l (w.alloc (.cells #[.int .i64 0] 26)) (by omega))
  have H15 := Lib.hid (scan_ok hs hsc)
  rw [void_trim] at hv
  clear hsc hs hat
  cases ht : Lib.trimS l [32, 9] with
  | nil => rw [ht] at hv; cases hv
  | cons c r =>
    rw [ht] at H14 hv
    have hem : (bstr (c :: r)).toList = c :: r := bstr_toList _
    have hsz : (bstr (c :: r)).size = r.length + 1 := bstr_size _
    have h35 : ((((bstr (c :: r))[0]'(by rw [hsz]; omega)).toNat : Int) == 35) = false := (u8_eq c 35).trans hv
    clear hv ht hst
    have hz' := Lib.hid hz
    clear hz
    go_enter_defers Tryz.func10, Tryz.ntmps10
    go_wp2_with fail
    refine H14.out.mono ?_
    rintro e w1 ⟨rfl, hb1⟩
    have hB1 := Lib.hid hb1
    have he := Lib.hid (ecell hb1)
    have hst1 := Lib.hid (hstA.out.keep hb1)
    have hEnv := Lib.hid hst1.out.now
    have hS1 := Lib.hid ((((Below.refl w.heap.size w).alloc (Nat.le_refl _) (.cells #[.int .i64 0] 26)).trans (hb1.mono (by simp))).block S hSlt)
    have q1 : w1.cell? ⟨S, 1, none⟩ = some (.int .i64 s.width) := cell_heap (hS1.out.trans hat'.out.1) 1
    clear hb1
    go_wp2_with fail
    refine wp_region_any (by kernel_rfl) ?_
    change wpAny _ _ _ _ _ _ _ (World.drew _)
    refine wpAny_take (i := 0) (v := .string (bstr l)) rfl (by kernel_rfl) (by kernel_rfl) (by kernel_rfl) (fun _ _ _ h => panic_put (by decide) h) (Or.inl ⟨by rfl, fun w => by go_simp⟩) ?_
    refine wpAny_take (i := 2) (v := .pointer (some ⟨S, 0, none⟩)) rfl (by kernel_rfl) (by kernel_rfl) (by kernel_rfl) (fun _ _ _ h => panic_put (by decide) h) (Or.inl ⟨by rfl, fun w => by go_simp⟩) ?_
    refine wpAny_take (i := 3) (v := .pointer (some ⟨S, 0, none⟩)) rfl (by kernel_rfl) (by kernel_rfl) (by kernel_rfl) (fun _ _ _ h => panic_put (by decide) h) (Or.inl ⟨by rfl, fun w => by go_simp⟩) ?_
    refine wpAny_take (i := 4) (v := .pointer (some ⟨S, 0, none⟩)) rfl (by kernel_rfl) (by kernel_rfl) (by kernel_rfl) (fun _ _ _ h => panic_put (by decide) h) (Or.inl ⟨by rfl, fun w => by go_simp⟩) ?_
    refine wpAny_take (i := 5) (v := .pointer (some ⟨S, 1, none⟩)) rfl (by kernel_rfl) (by kernel_rfl) (by kernel_rfl) (fun _ _ _ h => panic_put (by decide) h) (Or.inl ⟨by rfl, fun w => by go_simp⟩) ?_
    apply meet4 (F := fun (A : Option Addr) (cc T : Nat) (w2 : World) => TokS w2 T (.slice A ts.length cc) ts ∧ w1.heap.size ≤ T ∧ T < w2.heap.size ∧ Below w1.heap.size w1 w2)
    · intro key
      refine wpAny_ready (rs := [1, 6]) (by kernel_rfl) (by simp) ?_
      refine AllReady.cons rfl (fun K hK => ?_) (AllReady.cons rfl (fun K hK => ?_) AllReady.nil)
      · go_simp
        refine (H15.out _ hEnv.out.drew).mono ?_
        rintro e w2 ⟨tv, T, rfl, hT, hT1, hT2, hb2⟩
        obtain ⟨A, cc, rfl, hcc⟩ := hT
        have hT' : TokS w2 T (.slice A ts.length cc) ts := ⟨A, cc, rfl, hcc⟩
        clear hcc
        have hb2' : Below w1.heap.size w1 w2 := ((Below.refl w1.heap.size w1).drew).trans hb2
        have q2 : w2.cell? ⟨S, 1, none⟩ = some (.int .i64 s.width) := by
          have hh := (hb2'.block S (by have := heap_lt (hS1.out.trans hat'.out.1); exact this)).trans (hS1.out.trans hat'.out.1)
          exact cell_heap hh 1
        refine hK _ _ ?_
        clear hK K
        refine wpAny_ready (rs := [6]) (by kernel_rfl) (by simp) ?_
        refine AllReady.cons rfl (fun K hK => ?_) AllReady.nil
        go_simp
        refine hK _ _ ?_
        clear hK K
        refine wpAny_ready (rs := [7]) (by kernel_rfl) (by simp) ?_
        refine AllReady.cons rfl (fun K hK => ?_) AllReady.nil
        go_simp
        refine hK _ _ ?_
        clear hK K
        refine wpAny_ready (rs := [8]) (by kernel_rfl) (by simp) ?_
        refine AllReady.cons rfl (fun K hK => ?_) AllReady.nil
        go_simp
        refine hK _ _ ?_
        clear hK K
        refine wpAny_ready (rs := [9]) (by kernel_rfl) (by simp) ?_
        refine AllReady.cons rfl (fun K hK => ?_) AllReady.nil
        go_simp
        refine hK _ _ ?_
        clear hK K
        refine wpAny_done (by kernel_rfl) ?_ _
        exact key A cc T w2 ⟨hT', hT1, hT2, hb2'⟩
      · go_simp
        refine hK _ _ ?_
        clear hK K
        refine wpAny_ready (rs := [1]) (by kernel_rfl) (by simp) ?_
        refine AllReady.cons rfl (fun K hK => ?_) AllReady.nil
        go_simp
        refine (H15.out _ hEnv.out.drew).mono ?_
        rintro e w2 ⟨tv, T, rfl, hT, hT1, hT2, hb2⟩
        obtain ⟨A, cc, rfl, hcc⟩ := hT
        have hT' : TokS w2 T (.slice A ts.length cc) ts := ⟨A, cc, rfl, hcc⟩
        clear hcc
        have hb2' : Below w1.heap.size w1 w2 := ((Below.refl w1.heap.size w1).drew).trans hb2
        refine hK _ _ ?_
        clear hK K
        refine wpAny_ready (rs := [7]) (by kernel_rfl) (by simp) ?_
        refine AllReady.cons rfl (fun K hK => ?_) AllReady.nil
        go_simp
        refine hK _ _ ?_
        clear hK K
        refine wpAny_ready (rs := [8]) (by kernel_rfl) (by simp) ?_
        refine AllReady.cons rfl (fun K hK => ?_) AllReady.nil
        go_simp
        refine hK _ _ ?_
        clear hK K
        refine wpAny_ready (rs := [9]) (by kernel_rfl) (by simp) ?_
        refine AllReady.cons rfl (fun K hK => ?_) AllReady.nil
        go_simp
        refine hK _ _ ?_
        clear hK K
        refine wpAny_done (by kernel_rfl) ?_ _
        exact key A cc T w2 ⟨hT', hT1, hT2, hb2'⟩
    · rintro A cc T w2 ⟨hT, hT1, hT2, hb2⟩
      have HL := Lib.hid (line_at (seen := 2) (cs := cs) hst'.out hat'.out.1 hB1.out hb2 hT hT1 hT2 hok)
      have hSa := Lib.hid ((Below.heap_alloc w2 (.cells #[.slice A ts.length cc, .int .i64 s.width, .int .i64 0, .int .i64 0] 54) S (by have h1 := heap_lt (hS1.out.trans hat'.out.1); have h2 := hb2.size; omega)).trans ((hb2.block S (by have := heap_lt (hS1.out.trans hat'.out.1); exact this)).trans (hS1.out.trans hat'.out.1)))
      have q3 : (w2.alloc (.cells #[.slice A ts.length cc, .int .i64 s.width, .int .i64 0, .int .i64 0] 54)).cell? ⟨S, 3, none⟩ = some (.int .i64 1) := by have := cell_heap hSa.out 3; rw [this]; show some (Value.int .i64 s.seen) = _; rw [hz'.out]
      have f3 : (w2.alloc (.cells #[.slice A ts.length cc, .int .i64 s.width, .int .i64 0, .int .i64 0] 54)).frozen? ⟨S, 3, none⟩ = false := free_heap hSa.out 3
      go_wp2_with fail
      clear q3 f3 hSa
      revert HL
      generalize ((w2.alloc (.cells #[.slice A ts.length cc, .int .i64 s.width, .int .i64 0, .int .i64 0] 54)).setCell ⟨S, 3, none⟩ (.int .i64 2)) = w3
      generalize w2.heap.size = R
      intro HL
      have hSE : S ≠ w.heap.size := by omega
      cases h1 : Sp.next 110 ⟨ts, 0⟩ with
      | none =>
        refine (next_no (k := 110) (kk := 110) HL.out.rd rfl h1).mono ?_
        rintro e w4 ⟨rfl, rfl⟩
        exact HL.out.ends hSlt (by rw [hspec.out, lineToks_2 m s ts i hz'.out, h1]) rfl
      | some p =>
        obtain ⟨x, r1⟩ := p
        refine (next_ok (k := 110) (kk := 110) HL.out.rd rfl h1).mono ?_
        rintro e w4 ⟨rfl, hg4, hr4⟩
        have L4 := Lib.hid (HL.out.grown hg4 hr4 hSlt)
        have hsp1 : Hid (Sp.line m s l i = if x ≠ [119, 105, 100, 116, 104] then .error 70 else match Sp.next 100 r1 with
      | none => .error 70
      | some (y, r2) =>
        if (m.whole y).1 ≠ 32 ∧ (m.whole y).1 ≠ 64 then .error 70
        else if r2.ts ≠ [] then .error 70 else .ok { s with seen := s.seen + 1, width := (m.whole y).1 }) := Lib.hid (by rw [hspec.out, lineToks_2 m s ts i hz'.out, h1] <;> rfl)
        clear hg4 hr4 h1
        by_cases hx : x = [119, 105, 100, 116, 104]
        · have hx1 : ((bstr x).toList == [119, 105, 100, 116, 104]) = true := by rw [bstr_toList, hx]; rfl
          have hx2 : ((bstr x).toList != [119, 105, 100, 116, 104]) = false := by rw [bstr_toList, hx]; rfl
          have hsp2 := Lib.hid (hsp1.out.trans (if_neg (by simpa using hx)))
          clear hx
          go_wp2_with fail
          cases h2 : Sp.next 100 r1 with
          | none =>
            refine (next_no (k := 100) (kk := 100) L4.out.rd rfl h2).mono ?_
            rintro e w5 ⟨rfl, rfl⟩
            exact L4.out.ends hSlt (by rw [hsp2.out, h2]) rfl
          | some p =>
            obtain ⟨y, r2⟩ := p
            have hyl : Hid (y.length ≤ 70000) := Lib.hid (by
              obtain ⟨t, et, ht1, _⟩ := next_mem h2
              have := (L4.out.rd.ok.2 t (by rw [et]; exact List.mem_cons_self)).2
              rw [ht1] at this
              exact this)
            refine (next_ok (k := 100) (kk := 100) L4.out.rd rfl h2).mono ?_
            rintro e w5' ⟨rfl, hg5', hr5'⟩
            have L5' := Lib.hid (L4.out.grown hg5' hr5' hSlt)
            have hsp3' : Hid (Sp.line m s l i = if (wholeF y).1 ≠ 32 ∧ (wholeF y).1 ≠ 64 then .error 70
        else if r2.ts ≠ [] then .error 70 else .ok { s with seen := s.seen + 1, width := (wholeF y).1 }) := Lib.hid (by rw [hsp2.out, h2]; dsimp only; rw [hm])
            clear hg5' hr5' h2
            have H19 := Lib.hid (whole_any y w5' hyl.out L5'.out.rd.now)
            revert hsp3' H19
            generalize (wholeF y).1 = wn
            generalize (wholeF y).2 = wb2
            intro hsp3' H19
            go_wp2_with fail
            refine H19.out.mono ?_
            rintro e w5 ⟨rfl, hb5⟩
            have hg5 := gr_below hb5 (some R)
            have L5 := Lib.hid (L5'.out.grown hg5 (L5'.out.rd.keep hb5) hSlt)
            clear hg5 hb5
            have s0 : w5.cell? ⟨S, 1, none⟩ = some (.int .i64 s.width) := cell_heap L5.out.hS 1
            have sf : w5.frozen? ⟨S, 1, none⟩ = false := free_heap L5.out.hS 1
            by_cases h32 : wn = 32
            · have hsp3 : Hid (Sp.line m s l i = if r2.ts ≠ [] then .error 70 else .ok { s with seen := s.seen + 1, width := wn }) := Lib.hid (by rw [hsp3'.out, if_neg (fun h => h.1 h32)])
              have n1 : (wn != 32) = false := by rw [h32]; rfl
              have hw := Lib.hid h32
              clear h32 hsp3'
              have e0 : w5.cell? ⟨w.heap.size, 0, none⟩ = some (.int .i64 0) := cell_heap L5.out.hE 0
              have ef : w5.frozen? ⟨w.heap.size, 0, none⟩ = false := free_heap L5.out.hE 0
              obtain ⟨A5, c5, hR0⟩ : ∃ A5 c5, w5.cell? ⟨R, 0, none⟩ = some (.slice A5 r2.ts.length c5) := by
                obtain ⟨v5, dp5, hh5, A5, c5, rfl, _⟩ := L5.out.rd.at_
                exact ⟨A5, c5, cell_heap hh5 0⟩
              have hRS : R ≠ S := by have := L5.out.hR; omega
              by_cases hr2 : r2.ts = []
              · have hl2 : decide (0 < r2.ts.length) = false := by rw [hr2]; rfl
                have hl3 : r2.ts.length = 0 := by rw [hr2]; rfl
                have hr2' := Lib.hid hr2
                clear hr2
                go_wp2_with fail
                exact L5.out.told (s' := { s with seen := s.seen + 1, width := wn }) hst'.out hat'.out (by rw [hsp3.out, if_neg (by simpa using hr2'.out)]) (by show (five (bstr s.name) s.width dv 2 s.last).setIfInBounds 1 (.int .i64 wn) = five (bstr s.name) wn dv (s.seen + 1) s.last; rw [hz'.out]; rfl) rfl rfl
              · have hl2 : decide (0 < r2.ts.length) = true := decide_eq_true (List.length_pos_iff.2 hr2)
                have hl3 : 0 < r2.ts.length := List.length_pos_iff.2 hr2
                have hr2' := Lib.hid hr2
                clear hr2
                go_wp2_with fail
                refine (syntax_any _ _).mono ?_
                rintro e w6 ⟨rfl, rfl⟩
                exact L5.out.givS hSlt (by rw [hsp3.out, if_pos hr2'.out]) rfl
            · have n1 : (wn != 32) = true := bne_iff_ne.2 h32
              by_cases h64 : wn = 64
              · have hsp3 : Hid (Sp.line m s l i = if r2.ts ≠ [] then .error 70 else .ok { s with seen := s.seen + 1, width := wn }) := Lib.hid (by rw [hsp3'.out, if_neg (fun h => h.2 h64)])
                have n2 : (wn != 64) = false := by rw [h64]; rfl
                have hw := Lib.hid h64
                clear h32 h64 hsp3'
                have e0 : w5.cell? ⟨w.heap.size, 0, none⟩ = some (.int .i64 0) := cell_heap L5.out.hE 0
                have ef : w5.frozen? ⟨w.heap.size, 0, none⟩ = false := free_heap L5.out.hE 0
                obtain ⟨A5, c5, hR0⟩ : ∃ A5 c5, w5.cell? ⟨R, 0, none⟩ = some (.slice A5 r2.ts.length c5) := by
                  obtain ⟨v5, dp5, hh5, A5, c5, rfl, _⟩ := L5.out.rd.at_
                  exact ⟨A5, c5, cell_heap hh5 0⟩
                have hRS : R ≠ S := by have := L5.out.hR; omega
                by_cases hr2 : r2.ts = []
                · have hl2 : decide (0 < r2.ts.length) = false := by rw [hr2]; rfl
                  have hl3 : r2.ts.length = 0 := by rw [hr2]; rfl
                  have hr2' := Lib.hid hr2
                  clear hr2
                  go_wp2_with fail
                  exact L5.out.told (s' := { s with seen := s.seen + 1, width := wn }) hst'.out hat'.out (by rw [hsp3.out, if_neg (by simpa using hr2'.out)]) (by show (five (bstr s.name) s.width dv 2 s.last).setIfInBounds 1 (.int .i64 wn) = five (bstr s.name) wn dv (s.seen + 1) s.last; rw [hz'.out]; rfl) rfl rfl
                · have hl2 : decide (0 < r2.ts.length) = true := decide_eq_true (List.length_pos_iff.2 hr2)
                  have hl3 : 0 < r2.ts.length := List.length_pos_iff.2 hr2
                  have hr2' := Lib.hid hr2
                  clear hr2
                  go_wp2_with fail
                  refine (syntax_any _ _).mono ?_
                  rintro e w6 ⟨rfl, rfl⟩
                  exact L5.out.givS hSlt (by rw [hsp3.out, if_pos hr2'.out]) rfl
              · have n2 : (wn != 64) = true := bne_iff_ne.2 h64
                have hne := Lib.hid (And.intro h32 h64)
                clear h32 h64
                go_wp2_with fail
                refine (syntax_any _ _).mono ?_
                rintro e w6 ⟨rfl, rfl⟩
                exact L5.out.ends hSlt (by rw [hsp3'.out, if_pos hne.out]) rfl
        · have hx1 : ((bstr x).toList == [119, 105, 100, 116, 104]) = false := by rw [bstr_toList]; exact beq_eq_false_iff_ne.2 hx
          have hx2 : ((bstr x).toList != [119, 105, 100, 116, 104]) = true := by rw [bstr_toList]; exact bne_iff_ne.2 hx
          have hx' := Lib.hid hx
          clear hx
          go_wp2_with fail
          refine (syntax_any _ _).mono ?_
          rintro e w5 ⟨rfl, rfl⟩
          exact L4.out.ends hSlt (by rw [hsp1.out, if_pos hx'.out]) rfl
end Go.Proofs.YtdkhedefcmjjgaaGreatDoor
