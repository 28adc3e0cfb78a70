/- line, walked: the lines that declare.
Conditions: the scan's contract. -/
import Derived.Test.YtdkhedefcmjjgaaGreatDoorMLine2
import Derived.Laws.Tables
namespace Go.Proofs.YtdkhedefcmjjgaaGreatDoor
open Go.RowKit Sp
set_option linter.unusedVariables false
set_option linter.unusedSimpArgs false
theorem under23 : Tryz.prog.underlying 23 = some (.slice 38) := by kernel_rfl
theorem info38z : (Tryz.prog.info? 38).map (fun i => (i.zero, i.size, i.bytes)) = some (some (.agg (dcs 0 0 ⟨#[]⟩ 0 0 0 0 0 0 0 ⟨#[]⟩ (.slice none 0 0))), 12, 128) := by kernel_rfl
theorem stop_store {P : Program} {ops : Array Oper} {rest : List Oper} {o : Oper} {a : Act} {w : World} {Q : Exit → Act → World → Prop} (ty : TypeId) (x y : Operand) (ho : o.op = .store ty x y) (h : ¬ wpList P ops Q (o :: rest) a w → False) : wpList P ops Q (o :: rest) a w := Classical.byContradiction h
theorem meet0 {G P : Prop} (h1 : G → P) (h2 : G) : P := h1 h2
theorem LineAt.dcell {wb w w3 w4 : World} {S R T : Nat} {s : St} {seen : Int} {r : RS} {v : Value} {cs : List Value} (h : LineAt wb S s w seen R T r v cs w3) (hg : w3.grownBy w4 (some R)) (hS : S < w.heap.size) : w4.heap[S]? = some (.cells (five (bstr s.name) s.width v seen s.last) 42 (0, 0)) ∧ w4.heap[w.heap.size]? = some (.cells #[.int .i64 0] 26 (0, 0)) ∧ w.heap.size < w4.heap.size ∧ (∀ g, g < w.heap.size → g ≠ S → w4.heap[g]? = w.heap[g]?) ∧ Below S w w4 := by
  have hR := h.hR
  have hs3 := heap_lt h.hE
  have hs4 := hg.size
  have k : ∀ g, g < w3.heap.size → g ≠ R → w4.heap[g]? = w3.heap[g]? := fun g h1 h2 => hg.block g h1 (by intro e; injection e with e; exact h2 e)
  exact ⟨(k S (by omega) (by omega)).trans h.hS, (k _ hs3 (by omega)).trans h.hE, by omega, fun g h1 h2 => (k g (by omega) (by omega)).trans (h.old g h1 h2), h.bel.grown hg (by omega) (fun j e => by injection e with e; omega)⟩
set_option maxRecDepth 100000 in
set_option maxHeartbeats 4000000 in
theorem line_3 (m : Nums) (wb : World) (S : Nat) (s : St) (w : World) (hst : StAt wb S s w) (l : Bs) (i : Int) (hl : l.length ≤ 70000) (hv : void l = false) (ts : List Tok) (hs : Sp.scan l = some ts) (hok : OkTs ts) (hm : ∀ s, m.whole s = wholeF s) (hwd : s.width = 32 ∨ s.width = 64) (hN : LateNums m ts) (hdl : s.decls.length ≤ 1000000)
    (hsc : ∀ W, Env W → Calls Tryz.prog 15 #[.string (bstr l)] W (ScanPost l W)) (hz : 2 ≤ s.seen ∧ s.seen ≤ 1000000) :
    Calls Tryz.prog 10 #[.pointer (some ⟨S, 0, none⟩), .string (bstr l), .int .i64 i] w (LinePost wb S (Sp.line m s l i) w) := by
  have hmf : ∀ (fn : Fn) (first cap : Array Value) (w : World), (Instr.makeFunc fn first cap).run Tryz.prog w = .ok (.func fn first cap) w := fun _ _ _ _ => rfl
  have hspec : Hid (Sp.line m s l i = lineToks m s ts i) := Lib.hid (by unfold Sp.line; rw [hv, hs]; rfl)
  have hSlt := hst.lt
  have hst' := Lib.hid hst
  obtain ⟨dv, cs, hat⟩ := hst.at_
  have hat' := Lib.hid hat
  have hstA := Lib.hid (hst.keep ((Below.refl w.heap.size w).alloc (Nat.le_refl _) (.cells #[.int .i64 0] 26)))
  have H14 := Lib.hid (strim_any l (w.alloc (.cells #[.int .i64 0] 26)) (by omega))
  have H15 := Lib.hid (scan_ok hs hsc)
  rw [void_trim] at hv
  clear hsc hs hat
  cases ht : Lib.trimS l [32, 9] with
  | nil => rw [ht] at hv; cases hv
  | cons c r =>
    rw [ht] at H14 hv
    have hem : (bstr (c :: r)).toList = c :: r := bstr_toList _
    have hsz : (bstr (c :: r)).size = r.length + 1 := bstr_size _
    have h35 : ((((bstr (c :: r))[0]'(by rw [hsz]; omega)).toNat : Int) == 35) = false := (u8_eq c 35).trans hv
    clear hv ht hst
    have hz' := Lib.hid hz
    clear hz
    go_enter_defers Tryz.func10, Tryz.ntmps10
    go_wp2_with fail
    refine H14.out.mono ?_
    rintro e w1 ⟨rfl, hb1⟩
    have hB1 := Lib.hid hb1
    have he := Lib.hid (ecell hb1)
    have hst1 := Lib.hid (hstA.out.keep hb1)
    have hEnv := Lib.hid hst1.out.now
    have hS1 := Lib.hid ((((Below.refl w.heap.size w).alloc (Nat.le_refl _) (.cells #[.int .i64 0] 26)).trans (hb1.mono (by simp))).block S hSlt)
    have q1 : w1.cell? ⟨S, 1, none⟩ = some (.int .i64 s.width) := cell_heap (hS1.out.trans hat'.out.1) 1
    clear hb1
    go_wp2_with fail
    refine wp_region_any (by kernel_rfl) ?_
    change wpAny _ _ _ _ _ _ _ (World.drew _)
    refine wpAny_take (i := 0) (v := .string (bstr l)) rfl (by kernel_rfl) (by kernel_rfl) (by kernel_rfl) (fun _ _ _ h => panic_put (by decide) h) (Or.inl ⟨by rfl, fun w => by go_simp⟩) ?_
    refine wpAny_take (i := 2) (v := .pointer (some ⟨S, 0, none⟩)) rfl (by kernel_rfl) (by kernel_rfl) (by kernel_rfl) (fun _ _ _ h => panic_put (by decide) h) (Or.inl ⟨by rfl, fun w => by go_simp⟩) ?_
    refine wpAny_take (i := 3) (v := .pointer (some ⟨S, 0, none⟩)) rfl (by kernel_rfl) (by kernel_rfl) (by kernel_rfl) (fun _ _ _ h => panic_put (by decide) h) (Or.inl ⟨by rfl, fun w => by go_simp⟩) ?_
    refine wpAny_take (i := 4) (v := .pointer (some ⟨S, 0, none⟩)) rfl (by kernel_rfl) (by kernel_rfl) (by kernel_rfl) (fun _ _ _ h => panic_put (by decide) h) (Or.inl ⟨by rfl, fun w => by go_simp⟩) ?_
    refine wpAny_take (i := 5) (v := .pointer (some ⟨S, 1, none⟩)) rfl (by kernel_rfl) (by kernel_rfl) (by kernel_rfl) (fun _ _ _ h => panic_put (by decide) h) (Or.inl ⟨by rfl, fun w => by go_simp⟩) ?_
    apply meet4 (F := fun (A : Option Addr) (cc T : Nat) (w2 : World) => TokS w2 T (.slice A ts.length cc) ts ∧ w1.heap.size ≤ T ∧ T < w2.heap.size ∧ Below w1.heap.size w1 w2)
    · intro key
      refine wpAny_ready (rs := [1, 6]) (by kernel_rfl) (by simp) ?_
      refine AllReady.cons rfl (fun K hK => ?_) (AllReady.cons rfl (fun K hK => ?_) AllReady.nil)
      · go_simp
        refine (H15.out _ hEnv.out.drew).mono ?_
        rintro e w2 ⟨tv, T, rfl, hT, hT1, hT2, hb2⟩
        obtain ⟨A, cc, rfl, hcc⟩ := hT
        have hT' : TokS w2 T (.slice A ts.length cc) ts := ⟨A, cc, rfl, hcc⟩
        clear hcc
        have hb2' : Below w1.heap.size w1 w2 := ((Below.refl w1.heap.size w1).drew).trans hb2
        have q2 : w2.cell? ⟨S, 1, none⟩ = some (.int .i64 s.width) := by
          have hh := (hb2'.block S (by have := heap_lt (hS1.out.trans hat'.out.1); exact this)).trans (hS1.out.trans hat'.out.1)
          exact cell_heap hh 1
        refine hK _ _ ?_
        clear hK K
        refine wpAny_ready (rs := [6]) (by kernel_rfl) (by simp) ?_
        refine AllReady.cons rfl (fun K hK => ?_) AllReady.nil
        go_simp
        refine hK _ _ ?_
        clear hK K
        refine wpAny_ready (rs := [7]) (by kernel_rfl) (by simp) ?_
        refine AllReady.cons rfl (fun K hK => ?_) AllReady.nil
        go_simp
        refine hK _ _ ?_
        clear hK K
        refine wpAny_ready (rs := [8]) (by kernel_rfl) (by simp) ?_
        refine AllReady.cons rfl (fun K hK => ?_) AllReady.nil
        go_simp
        refine hK _ _ ?_
        clear hK K
        refine wpAny_ready (rs := [9]) (by kernel_rfl) (by simp) ?_
        refine AllReady.cons rfl (fun K hK => ?_) AllReady.nil
        go_simp
        refine hK _ _ ?_
        clear hK K
        refine wpAny_done (by kernel_rfl) ?_ _
        exact key A cc T w2 ⟨hT', hT1, hT2, hb2'⟩
      · go_simp
        refine hK _ _ ?_
        clear hK K
        refine wpAny_ready (rs := [1]) (by kernel_rfl) (by simp) ?_
        refine AllReady.cons rfl (fun K hK => ?_) AllReady.nil
        go_simp
        refine (H15.out _ hEnv.out.drew).mono ?_
        rintro e w2 ⟨tv, T, rfl, hT, hT1, hT2, hb2⟩
        obtain ⟨A, cc, rfl, hcc⟩ := hT
        have hT' : TokS w2 T (.slice A ts.length cc) ts := ⟨A, cc, rfl, hcc⟩
        clear hcc
        have hb2' : Below w1.heap.size w1 w2 := ((Below.refl w1.heap.size w1).drew).trans hb2
        refine hK _ _ ?_
        clear hK K
        refine wpAny_ready (rs := [7]) (by kernel_rfl) (by simp) ?_
        refine AllReady.cons rfl (fun K hK => ?_) AllReady.nil
        go_simp
        refine hK _ _ ?_
        clear hK K
        refine wpAny_ready (rs := [8]) (by kernel_rfl) (by simp) ?_
        refine AllReady.cons rfl (fun K hK => ?_) AllReady.nil
        go_simp
        refine hK _ _ ?_
        clear hK K
        refine wpAny_ready (rs := [9]) (by kernel_rfl) (by simp) ?_
        refine AllReady.cons rfl (fun K hK => ?_) AllReady.nil
        go_simp
        refine hK _ _ ?_
        clear hK K
        refine wpAny_done (by kernel_rfl) ?_ _
        exact key A cc T w2 ⟨hT', hT1, hT2, hb2'⟩
    · rintro A cc T w2 ⟨hT, hT1, hT2, hb2⟩
      have HL := Lib.hid (line_at (seen := (s.seen + 1)) (cs := cs) hst'.out hat'.out.1 hB1.out hb2 hT hT1 hT2 hok)
      have hSa := Lib.hid ((Below.heap_alloc w2 (.cells #[.slice A ts.length cc, .int .i64 s.width, .int .i64 0, .int .i64 0] 54) S (by have h1 := heap_lt (hS1.out.trans hat'.out.1); have h2 := hb2.size; omega)).trans ((hb2.block S (by have := heap_lt (hS1.out.trans hat'.out.1); exact this)).trans (hS1.out.trans hat'.out.1)))
      have q3 : (w2.alloc (.cells #[.slice A ts.length cc, .int .i64 s.width, .int .i64 0, .int .i64 0] 54)).cell? ⟨S, 3, none⟩ = some (.int .i64 s.seen) := by have := cell_heap hSa.out 3; rw [this]; rfl
      have f3 : (w2.alloc (.cells #[.slice A ts.length cc, .int .i64 s.width, .int .i64 0, .int .i64 0] 54)).frozen? ⟨S, 3, none⟩ = false := free_heap hSa.out 3
      have q4 : (w2.alloc (.cells #[.slice A ts.length cc, .int .i64 s.width, .int .i64 0, .int .i64 0] 54)).cell? ⟨S, 4, none⟩ = some (.int .i64 s.last) := cell_heap hSa.out 4
      have z1 : 2 ≤ s.seen := hz'.out.1
      have z2 : s.seen ≤ 1000000 := hz'.out.2
      have t1 : (s.seen + 1 == 1) = false := beq_eq_false_iff_ne.2 (by omega)
      have t2 : (s.seen + 1 == 2) = false := beq_eq_false_iff_ne.2 (by omega)
      go_wp2_with fail
      clear q3 f3 hSa q4
      revert HL
      generalize ((w2.alloc (.cells #[.slice A ts.length cc, .int .i64 s.width, .int .i64 0, .int .i64 0] 54)).setCell ⟨S, 3, none⟩ (.int .i64 (s.seen + 1))) = w3
      generalize w2.heap.size = R
      intro HL
      have hSE : S ≠ w.heap.size := by omega
      have H20 := Lib.hid (decl_any m hm wb R T s.width s.last hwd w3 ⟨ts, 0⟩ HL.out.rd hN)
      refine H20.out.mono ?_
      rintro e w4 ⟨hg, ⟨n, hsp, rfl⟩ | ⟨d, r', k, bits, en, Ax, nx, cx, hsp, rfl, hx, hr4⟩⟩
      · exact HL.out.givG hg hSlt (by rw [hspec.out, lineToks_3 m s ts i hz'.out.1, hsp]) rfl
      · have hsp' : Hid (Sp.line m s l i = .ok { s with seen := s.seen + 1, last := d.kind, decls := s.decls ++ [{ d with line := i }] }) := Lib.hid (by rw [hspec.out, lineToks_3 m s ts i hz'.out.1, hsp] <;> rfl)
        have HG := Lib.hid hg
        have HX := Lib.hid hx
        have HD := Lib.hid (HL.out.dcell hg hSlt)
        clear hg hx hr4 hsp
        go_wp2_with (refine stop_store 38 _ _ rfl (fun hstop => ?_))
        apply hstop
        clear hstop
        refine wpList_store_row rfl 38 _ _ rfl w4.heap.size (dcs d.kind d.line (bstr d.name) d.rows d.cols d.init d.a d.b k bits en (.slice Ax nx cx)) rfl rfl 38 _ (heap_alloc_new _ _) info38s rfl (by simp [dcs, Value.oneCell']) ?_
        obtain ⟨w5, hw5⟩ : ∃ w5, w5 = (w4.alloc (.cells #[.int .i64 0, .int .i64 0, .string ⟨#[]⟩, .int .i64 0, .int .i64 0, .int .i64 0, .int .i64 0, .int .i64 0, .int .i64 0, .int .i64 0, .string ⟨#[]⟩, .slice none 0 0] 38)).setRow w4.heap.size (dcs d.kind d.line (bstr d.name) d.rows d.cols d.init d.a d.b k bits en (.slice Ax nx cx)) := ⟨_, rfl⟩
        rw [← hw5]
        have HW5 : Hid (w5.heap[w4.heap.size]? = some (.cells (dcs d.kind d.line (bstr d.name) d.rows d.cols d.init d.a d.b k bits en (.slice Ax nx cx)) 38 (0, 0)) ∧ (∀ g, g < w4.heap.size → w5.heap[g]? = w4.heap[g]?) ∧ w5.heap.size = w4.heap.size + 1 ∧ Below w4.heap.size w4 w5) := Lib.hid (by
          rw [hw5]
          refine ⟨setRow_heap _ _ _ _ _ _ (heap_alloc_new _ _), fun g hg => ?_, by simp, below_setRow ((Below.refl _ _).alloc (Nat.le_refl _) _) (Nat.le_refl _) _⟩
          rw [setRow_other _ _ _ _ (by omega)]
          exact Below.heap_alloc _ _ _ hg)
        clear hw5
        have d0 : w5.cell? ⟨w4.heap.size, 0, none⟩ = some (.int .i64 d.kind) := cell_heap HW5.out.1 0
        have d1 : w5.cell? ⟨w4.heap.size, 1, none⟩ = some (.int .i64 d.line) := cell_heap HW5.out.1 1
        have df : w5.frozen? ⟨w4.heap.size, 1, none⟩ = false := free_heap HW5.out.1 1
        have hSw4 : S < w4.heap.size := by have := HD.out.2.2.1; omega
        have HS5 := Lib.hid ((HW5.out.2.1 S hSw4).trans HD.out.1)
        have s4 : w5.cell? ⟨S, 4, none⟩ = some (.int .i64 s.last) := cell_heap HS5.out 4
        have sf : w5.frozen? ⟨S, 4, none⟩ = false := free_heap HS5.out 4
        have hSD : S ≠ w4.heap.size := by omega
        have hDS : w4.heap.size ≠ S := by omega
        go_wp2_with fail
        obtain ⟨w6, hw6⟩ : ∃ w6, w6 = (w5.setCell ⟨w4.heap.size, 1, none⟩ (.int .i64 i)).setCell ⟨S, 4, none⟩ (.int .i64 d.kind) := ⟨_, rfl⟩
        rw [← hw6]
        have HW6 : Hid (w6.heap[w4.heap.size]? = some (.cells #[.int .i64 d.kind, .int .i64 i, .string (bstr d.name), .int .i64 d.rows, .int .i64 d.cols, .int .i64 d.init, .int .i64 d.a, .int .i64 d.b, .int .i64 k, .int .i64 bits, .string en, .slice Ax nx cx] 38 (0, 0)) ∧ w6.heap[S]? = some (.cells (five (bstr s.name) s.width dv (s.seen + 1) d.kind) 42 (0, 0)) ∧ (∀ g, g < w4.heap.size → g ≠ S → w6.heap[g]? = w4.heap[g]?) ∧ w6.heap.size = w4.heap.size + 1 ∧ Below S w4 w6) := Lib.hid (by
          rw [hw6]
          refine ⟨?_, ?_, fun g h1 h2 => ?_, by simp [HW5.out.2.2.1], ((HW5.out.2.2.2.mono (show S ≤ w4.heap.size by omega)).setCell (p := ⟨w4.heap.size, 1, none⟩) (by show S ≤ w4.heap.size; omega) _).setCell (p := ⟨S, 4, none⟩) (by show S ≤ S; exact Nat.le_refl _) _⟩
          · rw [Below.heap_setCell _ _ _ _ (by show w4.heap.size ≠ S; omega)]
            exact set_heap HW5.out.1 1 (.int .i64 i)
          · exact set_heap ((Below.heap_setCell w5 ⟨w4.heap.size, 1, none⟩ (.int .i64 i) S (by show S ≠ w4.heap.size; omega)).trans HS5.out) 4 (.int .i64 d.kind)
          · rw [Below.heap_setCell _ _ _ _ (by show g ≠ S; exact h2), Below.heap_setCell _ _ _ _ (by show g ≠ w4.heap.size; omega)]
            exact HW5.out.2.1 g h1)
        clear hw6 d0 d1 df s4 sf
        have b2 : w6.cell? ⟨S, 2, none⟩ = some dv := cell_heap HW6.out.2.1 2
        have HD6 : Hid (w6.drew.heap[w4.heap.size]? = some (.cells #[.int .i64 d.kind, .int .i64 i, .string (bstr d.name), .int .i64 d.rows, .int .i64 d.cols, .int .i64 d.init, .int .i64 d.a, .int .i64 d.b, .int .i64 k, .int .i64 bits, .string en, .slice Ax nx cx] 38 (0, 0))) := Lib.hid HW6.out.1
        have bA := fun o => cell_old ((Below.refl w6.heap.size w6).alloc (Nat.le_refl _) o) b2
        refine wp_region_any (by kernel_rfl) ?_
        change wpAny _ _ _ _ _ _ _ (World.drew _)
        refine wpAny_take (i := 0) (v := .pointer (some ⟨S, 0, none⟩)) rfl (by kernel_rfl) (by kernel_rfl) (by kernel_rfl) (fun _ _ _ h => panic_put (by decide) h) (Or.inl ⟨by rfl, fun w => by go_simp⟩) ?_
        refine wpAny_take (i := 1) (v := .pointer (some ⟨S, 0, none⟩)) rfl (by kernel_rfl) (by kernel_rfl) (by kernel_rfl) (fun _ _ _ h => panic_put (by decide) h) (Or.inl ⟨by rfl, fun w => by go_simp⟩) ?_
        refine wpAny_take (i := 2) (v := .pointer (some ⟨S, 0, none⟩)) rfl (by kernel_rfl) (by kernel_rfl) (by kernel_rfl) (fun _ _ _ h => panic_put (by decide) h) (Or.inl ⟨by rfl, fun w => by go_simp⟩) ?_
        refine wpAny_take (i := 3) (v := .pointer (some ⟨S, 0, none⟩)) rfl (by kernel_rfl) (by kernel_rfl) (by kernel_rfl) (fun _ _ _ h => panic_put (by decide) h) (Or.inl ⟨by rfl, fun w => by go_simp⟩) ?_
        refine wpAny_take (i := 4) (v := .pointer (some ⟨S, 2, none⟩)) rfl (by kernel_rfl) (by kernel_rfl) (by kernel_rfl) (fun _ _ _ h => panic_put (by decide) h) (Or.inl ⟨by rfl, fun w => by go_simp⟩) ?_
        apply meet0
        · intro key
          refine wpAny_ready (rs := [5, 6]) (by kernel_rfl) (by simp) ?_
          refine AllReady.cons rfl (fun K hK => ?_) (AllReady.cons rfl (fun K hK => ?_) AllReady.nil)
          · go_simp
            refine hK _ _ ?_
            clear hK K
            refine wpAny_ready (rs := [6]) (by kernel_rfl) (by simp) ?_
            refine AllReady.cons rfl (fun K hK => ?_) AllReady.nil
            rw [if_pos (by kernel_rfl)]
            refine wp_load_row 38 _ rfl w4.heap.size rfl 38 #[.int .i64 d.kind, .int .i64 i, .string (bstr d.name), .int .i64 d.rows, .int .i64 d.cols, .int .i64 d.init, .int .i64 d.a, .int .i64 d.b, .int .i64 k, .int .i64 bits, .string en, .slice Ax nx cx] (0, 0) _ HD6.out und38 rfl info38s ?_
            refine hK _ _ ?_
            clear hK K
            refine wpAny_ready (rs := [7]) (by kernel_rfl) (by simp) ?_
            refine AllReady.cons rfl (fun K hK => ?_) AllReady.nil
            go_simp
            refine hK _ _ ?_
            clear hK K
            exact key
          · rw [if_pos (by kernel_rfl)]
            refine wp_load_row 38 _ rfl w4.heap.size rfl 38 #[.int .i64 d.kind, .int .i64 i, .string (bstr d.name), .int .i64 d.rows, .int .i64 d.cols, .int .i64 d.init, .int .i64 d.a, .int .i64 d.b, .int .i64 k, .int .i64 bits, .string en, .slice Ax nx cx] (0, 0) _ HD6.out und38 rfl info38s ?_
            refine hK _ _ ?_
            clear hK K
            refine wpAny_ready (rs := [5, 7]) (by kernel_rfl) (by simp) ?_
            refine AllReady.cons rfl (fun K hK => ?_) (AllReady.cons rfl (fun K hK => ?_) AllReady.nil)
            · go_simp
              refine hK _ _ ?_
              clear hK K
              refine wpAny_ready (rs := [7]) (by kernel_rfl) (by simp) ?_
              refine AllReady.cons rfl (fun K hK => ?_) AllReady.nil
              go_simp
              refine hK _ _ ?_
              clear hK K
              exact key
            · go_simp
              refine hK _ _ ?_
              clear hK K
              refine wpAny_ready (rs := [5]) (by kernel_rfl) (by simp) ?_
              refine AllReady.cons rfl (fun K hK => ?_) AllReady.nil
              go_simp
              refine hK _ _ ?_
              clear hK K
              exact key
        · obtain ⟨w7, hw7⟩ : ∃ w7, w7 = (w6.alloc (.cells #[.int .i64 d.kind, .int .i64 i, .string (bstr d.name), .int .i64 d.rows, .int .i64 d.cols, .int .i64 d.init, .int .i64 d.a, .int .i64 d.b, .int .i64 k, .int .i64 bits, .string en, .slice Ax nx cx] 38)).drew := ⟨_, rfl⟩
          rw [← hw7]
          have HW7 : Hid (w7.heap[w6.heap.size]? = some (.cells #[.int .i64 d.kind, .int .i64 i, .string (bstr d.name), .int .i64 d.rows, .int .i64 d.cols, .int .i64 d.init, .int .i64 d.a, .int .i64 d.b, .int .i64 k, .int .i64 bits, .string en, .slice Ax nx cx] 38 (0, 0)) ∧ (∀ g, g < w6.heap.size → w7.heap[g]? = w6.heap[g]?) ∧ w7.heap.size = w6.heap.size + 1 ∧ Below w6.heap.size w6 w7) := Lib.hid (by
            rw [hw7]
            exact ⟨heap_alloc_new _ _, fun g hg => Below.heap_alloc _ _ _ hg, by simp, ((Below.refl _ _).alloc (Nat.le_refl _) _).drew⟩)
          clear hw7 b2 bA HD6
          have hs6 := HW6.out.2.2.2.1
          have hs7 := HW7.out.2.2.1
          have hw4 : w.heap.size < w4.heap.size := HD.out.2.2.1
          have hold7 : Hid (∀ g, g < w.heap.size → g ≠ S → w7.heap[g]? = w.heap[g]?) := Lib.hid (fun g h1 h2 => (HW7.out.2.1 g (by omega)).trans ((HW6.out.2.2.1 g (by omega) h2).trans (HD.out.2.2.2.1 g h1 h2)))
          have hown7 := own_same hat'.out.2.1 (fun g hg => hold7.out g (hat'.out.2.1.lt g hg).2 (by have := (hat'.out.2.1.lt g hg).1; omega))
          have HOWN := Lib.hid hown7
          have hvlt := Lib.hid hat'.out.2.1.lt
          have hmx : Hid (s.decls.length + 1 ≤ maxLen ∧ (s.decls.length + 1) * 128 ≤ 140737488355328) := Lib.hid (by unfold maxLen; omega)
          clear hown7
          obtain ⟨i0, hi0, hz0, hz1, hz2⟩ := info_parts info38z
          refine wpAny_ready (rs := [8]) (by kernel_rfl) (by simp) ?_
          refine AllReady.cons rfl (fun K hK => ?_) AllReady.nil
          refine step_append_lies _ rfl _ _ _ rfl (S + 1) 38 i0 _ 12 128 under23 hi0 hz0 hz1 hz2 rfl (by decide) dv s.decls.length cs rfl HOWN.out ⟨w6.heap.size, 0, none⟩ 1 1 (#[.int .i64 d.kind, .int .i64 i, .string (bstr d.name), .int .i64 d.rows, .int .i64 d.cols, .int .i64 d.init, .int .i64 d.a, .int .i64 d.b, .int .i64 k, .int .i64 bits, .string en, .slice Ax nx cx] : Array Value).toList rfl rfl (World.news_of_block HW7.out.1) (by simp [Value.oneCell']) (by omega) hmx.out.1 hmx.out.2 (by omega) _ rfl ?_
          intro g cap wa hown8 hga hat8 hlt
          refine hK _ _ ?_
          clear hK K hi0 hz0 hz1 hz2
          have HGA := Lib.hid hga
          have HAT := Lib.hid hat8
          have HO8 := Lib.hid hown8
          clear hga hat8 hown8
          have jS := Lib.hid ((HGA.out.block S (by omega) (fun e => by have := (hvlt.out S e.symm).1; omega)).trans ((HW7.out.2.1 S (by omega)).trans HW6.out.2.1))
          have jE := Lib.hid ((HGA.out.block w.heap.size (by omega) (fun e => by have := (hvlt.out _ e.symm).2; omega)).trans ((HW7.out.2.1 _ (by omega)).trans ((HW6.out.2.2.1 _ (by omega) (by omega)).trans HD.out.2.1)))
          have s2 : wa.cell? ⟨S, 2, none⟩ = some dv := cell_heap jS.out 2
          have sf : wa.frozen? ⟨S, 2, none⟩ = false := free_heap jS.out 2
          have e0 : wa.cell? ⟨w.heap.size, 0, none⟩ = some (.int .i64 0) := cell_heap jE.out 0
          have ef : wa.frozen? ⟨w.heap.size, 0, none⟩ = false := free_heap jE.out 0
          refine wpAny_ready (rs := [9]) (by kernel_rfl) (by simp) ?_
          refine AllReady.cons rfl (fun K hK => ?_) AllReady.nil
          go_simp
          refine hK _ _ ?_
          clear hK K
          refine wpAny_ready (rs := [10]) (by kernel_rfl) (by simp) ?_
          refine AllReady.cons rfl (fun K hK => ?_) AllReady.nil
          go_simp
          refine hK _ _ ?_
          clear hK K
          refine wpAny_ready (rs := [11]) (by kernel_rfl) (by simp) ?_
          refine AllReady.cons rfl (fun K hK => ?_) AllReady.nil
          go_simp
          refine hK _ _ ?_
          clear hK K
          refine wpAny_ready (rs := [12]) (by kernel_rfl) (by simp) ?_
          refine AllReady.cons rfl (fun K hK => ?_) AllReady.nil
          go_simp
          refine hK _ _ ?_
          clear hK K
          refine wpAny_done (by kernel_rfl) ?_ _
          go_wp2_with fail
          have k1 : ∀ j, j ≠ S → j ≠ w.heap.size → ((wa.setCell ⟨S, 2, none⟩ (.slice (some ⟨g, 0, none⟩) (s.decls.length + 1) cap)).setCell ⟨w.heap.size, 0, none⟩ (.int .i64 0)).heap[j]? = wa.heap[j]? := fun j h1 h2 =>
            (Below.heap_setCell _ _ _ _ (by show j ≠ w.heap.size; exact h2)).trans (Below.heap_setCell _ _ _ _ (by show j ≠ S; exact h1))
          have hSB : Below S w w7 := HD.out.2.2.2.2.trans (HW6.out.2.2.2.2.trans (HW7.out.2.2.2.mono (by omega)))
          have hBa : Below S w ((wa.setCell ⟨S, 2, none⟩ (.slice (some ⟨g, 0, none⟩) (s.decls.length + 1) cap)).setCell ⟨w.heap.size, 0, none⟩ (.int .i64 0)) :=
            ((hSB.grown HGA.out (by omega) (fun j e => by have := (hvlt.out j e).1; omega)).setCell (p := ⟨S, 2, none⟩) (by show S ≤ S; exact Nat.le_refl _) _).setCell (p := ⟨w.heap.size, 0, none⟩) (by show S ≤ w.heap.size; omega) _
          have hw3 : w.heap.size < w3.heap.size := heap_lt HL.out.hE
          have hEa := (Below.heap_setCell wa ⟨S, 2, none⟩ (.slice (some ⟨g, 0, none⟩) (s.decls.length + 1) cap) w.heap.size (by show w.heap.size ≠ S; omega)).trans jE.out
          refine door_ret (n := 0) rfl (by rw [cell_heap (set_heap hEa 0 _)]; rfl) ⟨hBa, .inr ⟨_, hsp'.out, rfl, ?_⟩⟩
          have hx7 : ExAt w7 (Since w3.heap.size) d.expr [.int .i64 k, .int .i64 bits, .string en, .slice Ax nx cx] :=
            HX.out.keep (by omega) (fun j h1 h2 => by
              have h1' : w3.heap.size ≤ j := h1
              exact (HW7.out.2.1 j (by omega)).trans (HW6.out.2.2.1 j h2 (by omega)))
          have hw34 := HG.out.size
          exact StAt.push (d := { d with line := i }) hst'.out hat'.out (by omega) hold7.out hSB (B0 := w3.heap.size) (by omega) hx7 HGA.out HO8.out (by rcases HAT.out with h | h; exact .inl h; exact .inr (by omega)) (by simp) (fun j h1 h2 h3 => k1 j (by omega) (by omega)) hBa ((Below.heap_setCell _ _ _ _ (by show S ≠ w.heap.size; omega)).trans (set_heap jS.out 2 _)) (by rcases HAT.out with h | h; exact .inl (hvlt.out g h).2; exact .inr (by omega))
end Go.Proofs.YtdkhedefcmjjgaaGreatDoor
