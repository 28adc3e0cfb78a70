/- line, walked: the first line that means something.
Conditions: the scan's contract. -/
import Derived.Test.YtdkhedefcmjjgaaGreatDoorMTrim
namespace Go.Proofs.YtdkhedefcmjjgaaGreatDoor
open Go.RowKit Sp
set_option linter.unusedVariables false
set_option linter.unusedSimpArgs false
/-- A scan that finds words. -/
def ScanOk (l : Bs) (ts : List Tok) (W : World) (e : Ending) (w' : World) : Prop := ∃ v T, e = .returned v ∧ TokS w' T v ts ∧ W.heap.size ≤ T ∧ T < w'.heap.size ∧ Below W.heap.size W w'
theorem scan_ok {l : Bs} {ts : List Tok} (hs : Sp.scan l = some ts) (hsc : ∀ W, Env W → Calls Tryz.prog 15 #[.string (bstr l)] W (ScanPost l W)) (W : World) (hW : Env W) : Calls Tryz.prog 15 #[.string (bstr l)] W (ScanOk l ts W) := by
  refine (hsc W hW).mono ?_
  rintro e w' ⟨hb, ⟨h, _⟩ | ⟨ts', v, T, h, rfl, h1, h2, h3⟩⟩
  · rw [hs] at h; cases h
  · rw [hs] at h
    injection h with h
    subst h
    exact ⟨v, T, rfl, h1, h2, h3, hb⟩
/-- Where a line's words stand, when its reader has been made and the line has been counted. -/
structure LineAt (wb : World) (S : Nat) (s : St) (w : World) (seen : Int) (R T : Nat) (r : RS) (v : Value) (cs : List Value) (w3 : World) : Prop where
  rd : Rd wb w3 R T s.width r
  hS : w3.heap[S]? = some (.cells (five (bstr s.name) s.width v seen s.last) 42 (0, 0))
  hE : w3.heap[w.heap.size]? = some (.cells #[.int .i64 0] 26 (0, 0))
  hR : w.heap.size < R
  bel : Below S w w3
  old : ∀ g, g < w.heap.size → g ≠ S → w3.heap[g]? = w.heap[g]?
theorem line_at {wb : World} {S : Nat} {s : St} {w w1 w2 : World} {v : Value} {cs : List Value} {T : Nat} {tv : Value} {ts : List Tok} {seen : Int} (hst : StAt wb S s w) (hat : w.heap[S]? = some (.cells (five (bstr s.name) s.width v s.seen s.last) 42 (0, 0))) (hb : Below (w.alloc (.cells #[.int .i64 0] 26)).heap.size (w.alloc (.cells #[.int .i64 0] 26)) w1)
    (hb2 : Below w1.heap.size w1 w2) (hT : TokS w2 T tv ts) (hT1 : w1.heap.size ≤ T) (hT2 : T < w2.heap.size) (hok : OkTs ts) :
    LineAt wb S s w seen w2.heap.size T ⟨ts, 0⟩ v cs ((w2.alloc (.cells #[tv, .int .i64 s.width, .int .i64 0, .int .i64 0] 54)).setCell ⟨S, 3, none⟩ (.int .i64 seen)) := by
  have hS := hst.lt
  have h1 : w.heap.size + 1 ≤ w1.heap.size := by have := hb.size; simpa using this
  have h2 := hb2.size
  have hB : Below w.heap.size w w2 := ((Below.refl _ w).alloc (Nat.le_refl _) _).trans ((hb.mono (by simp)).trans (hb2.mono (by omega)))
  have hBa : Below w.heap.size w (w2.alloc (.cells #[tv, .int .i64 s.width, .int .i64 0, .int .i64 0] 54)) := hB.alloc (by omega) _
  have hwb := hst.bel.size
  have hSb := hst.hb
  have k : ∀ j, j ≠ S → ((w2.alloc (.cells #[tv, .int .i64 s.width, .int .i64 0, .int .i64 0] 54)).setCell ⟨S, 3, none⟩ (.int .i64 seen)).heap[j]? = (w2.alloc (.cells #[tv, .int .i64 s.width, .int .i64 0, .int .i64 0] 54)).heap[j]? := fun j hj => Below.heap_setCell _ _ _ _ hj
  have hR : ((w2.alloc (.cells #[tv, .int .i64 s.width, .int .i64 0, .int .i64 0] 54)).setCell ⟨S, 3, none⟩ (.int .i64 seen)).heap[w2.heap.size]? = some (.cells #[tv, .int .i64 s.width, .int .i64 0, .int .i64 0] 54 (0, 0)) := by
    rw [k _ (by omega)]; exact heap_alloc_new _ _
  refine ⟨⟨hst.env, (hst.bel.trans (hBa.mono hwb)).setCell (by show wb.heap.size ≤ S; exact hSb) _, by omega, by omega, hok, by omega, by simp; omega, tv, .int .i64 0, hR, ?_⟩, ?_, ?_, by omega, ?_, ?_⟩
  · exact hT.keep ((k _ (by omega)).trans (Below.heap_alloc _ _ _ hT2))
  · exact set_heap ((hBa.block S (by omega)).trans hat) 3 _
  · rw [k _ (by omega), Below.heap_alloc _ _ _ (by omega), hb2.block _ (by omega)]
    exact ecell hb
  · exact (hBa.mono (by omega)).setCell (by show S ≤ S; exact Nat.le_refl _) _
  · exact fun g hg hne => (k g hne).trans (hBa.block g hg)
theorem LineAt.grown {wb w w3 w4 : World} {S R T : Nat} {s : St} {seen : Int} {r r' : RS} {v : Value} {cs : List Value} (h : LineAt wb S s w seen R T r v cs w3) (hg : w3.grownBy w4 (some R)) (hr : Rd wb w4 R T s.width r') (hS : S < w.heap.size) : LineAt wb S s w seen R T r' v cs w4 := by
  have hR := h.hR
  have hs3 : w.heap.size ≤ w3.heap.size := h.bel.size
  have k : ∀ g, g < w3.heap.size → g ≠ R → w4.heap[g]? = w3.heap[g]? := fun g h1 h2 => hg.block g h1 (by intro e; injection e with e; exact h2 e)
  exact ⟨hr, (k S (by omega) (by omega)).trans h.hS, (k _ (heap_lt h.hE) (by omega)).trans h.hE, hR, h.bel.grown hg (by omega) (fun j e => by injection e with e; omega), fun g h1 h2 => (k g (by omega) (by omega)).trans (h.old g h1 h2)⟩
theorem LineAt.ends {m : Nums} {wb w w3 : World} {S R T : Nat} {s : St} {seen n : Int} {r : RS} {v : Value} {cs : List Value} {l : Bs} {i : Int} {tmps : Array Value} (h : LineAt wb S s w seen R T r v cs w3) (hS : S < w.heap.size) (hspec : Sp.line m s l i = .error n)
    (ht : tmps.getD 6 undef = .pointer (some ⟨w.heap.size, 0, none⟩)) :
    bodyPostD Tryz.prog Tryz.f10 (LinePost wb S (Sp.line m s l i) w) (Exit.panic (giv n)) { tmps := tmps, defers := [{ target := .fn (.func 13) #[.pointer (some ⟨w.heap.size, 0, none⟩)], args := #[] }] } w3 :=
  giv_end (by omega) hspec h.bel h.hE ht
theorem LineAt.givG {m : Nums} {wb w w3 w4 : World} {S R T : Nat} {s : St} {seen n : Int} {r : RS} {v : Value} {cs : List Value} {l : Bs} {i : Int} {tmps : Array Value} (h : LineAt wb S s w seen R T r v cs w3) (hg : w3.grownBy w4 (some R)) (hS : S < w.heap.size) (hspec : Sp.line m s l i = .error n)
    (ht : tmps.getD 6 undef = .pointer (some ⟨w.heap.size, 0, none⟩)) :
    bodyPostD Tryz.prog Tryz.f10 (LinePost wb S (Sp.line m s l i) w) (Exit.panic (giv n)) { tmps := tmps, defers := [{ target := .fn (.func 13) #[.pointer (some ⟨w.heap.size, 0, none⟩)], args := #[] }] } w4 := by
  have hR := h.hR
  have hs3 : w.heap.size ≤ w3.heap.size := h.bel.size
  exact giv_end (by omega) hspec (h.bel.grown hg (by omega) (fun j e => by injection e with e; omega)) ((hg.block _ (heap_lt h.hE) (by intro e; injection e with e; omega)).trans h.hE) ht
/-- .. behind a store into the state. -/
theorem LineAt.givS {m : Nums} {wb w w3 : World} {S R T : Nat} {s : St} {seen n : Int} {r : RS} {v u : Value} {cs : List Value} {l : Bs} {i : Int} {j : Nat} {tmps : Array Value} (h : LineAt wb S s w seen R T r v cs w3) (hS : S < w.heap.size) (hspec : Sp.line m s l i = .error n)
    (ht : tmps.getD 6 undef = .pointer (some ⟨w.heap.size, 0, none⟩)) :
    bodyPostD Tryz.prog Tryz.f10 (LinePost wb S (Sp.line m s l i) w) (Exit.panic (giv n)) { tmps := tmps, defers := [{ target := .fn (.func 13) #[.pointer (some ⟨w.heap.size, 0, none⟩)], args := #[] }] } (w3.setCell ⟨S, j, none⟩ u) :=
  giv_end (by omega) hspec (h.bel.setCell (p := ⟨S, j, none⟩) (Nat.le_refl _) u) ((Below.heap_setCell w3 ⟨S, j, none⟩ u _ (by show w.heap.size ≠ S; omega)).trans h.hE) ht
/-- A line that turned a cell of the state, told. -/
theorem LineAt.told {m : Nums} {wb w w3 : World} {S R T : Nat} {s s' : St} {seen : Int} {r : RS} {v u : Value} {cs : List Value} {l : Bs} {i : Int} {j : Nat} {tmps : Array Value} (h : LineAt wb S s w seen R T r v cs w3) (hst : StAt wb S s w) (hat : w.heap[S]? = some (.cells (five (bstr s.name) s.width v s.seen s.last) 42 (0, 0)) ∧ w.ownsRow (S + 1) 38 12 v s.decls.length cs ∧ DRows w (fun g => S + 1 ≤ g ∧ v.ownBlock ≠ some g) s.decls cs)
    (hspec : Sp.line m s l i = .ok s') (hset : (five (bstr s.name) s.width v seen s.last).setIfInBounds j u = five (bstr s'.name) s'.width v s'.seen s'.last) (hd : s'.decls = s.decls)
    (ht : tmps.getD 6 undef = .pointer (some ⟨w.heap.size, 0, none⟩)) :
    bodyPostD Tryz.prog Tryz.f10 (LinePost wb S (Sp.line m s l i) w) Exit.ret { tmps := tmps, defers := [{ target := .fn (.func 13) #[.pointer (some ⟨w.heap.size, 0, none⟩)], args := #[] }] } ((w3.setCell ⟨S, j, none⟩ u).setCell ⟨w.heap.size, 0, none⟩ (.int .i64 0)) := by
  have hS := hst.lt
  have k1 : ∀ g, g ≠ S → (w3.setCell ⟨S, j, none⟩ u).heap[g]? = w3.heap[g]? := fun g hg => Below.heap_setCell _ _ _ _ hg
  have k2 : ∀ g, g ≠ w.heap.size → ((w3.setCell ⟨S, j, none⟩ u).setCell ⟨w.heap.size, 0, none⟩ (.int .i64 0)).heap[g]? = (w3.setCell ⟨S, j, none⟩ u).heap[g]? := fun g hg => Below.heap_setCell _ _ _ _ hg
  have hB : Below S w ((w3.setCell ⟨S, j, none⟩ u).setCell ⟨w.heap.size, 0, none⟩ (.int .i64 0)) := (h.bel.setCell (by show S ≤ S; exact Nat.le_refl _) _).setCell (by show S ≤ w.heap.size; omega) _
  have hE : (w3.setCell ⟨S, j, none⟩ u).heap[w.heap.size]? = some (.cells #[.int .i64 0] 26 (0, 0)) := (k1 _ (by omega)).trans h.hE
  refine door_ret (n := 0) ht (by rw [cell_heap (set_heap hE 0 _)]; rfl) ⟨hB, .inr ⟨s', hspec, rfl, ?_⟩⟩
  refine hst.setS hat (by have := h.bel.size; simpa using this) (fun g h1 h2 => ?_) hB ?_ hd
  · rw [k2 g (by omega), k1 g h2]; exact h.old g h1 h2
  · rw [k2 S (by omega), ← hset]; exact set_heap h.hS j u
theorem lineToks_1 (m : Nums) (s : St) (ts : List Tok) (n : Int) (hz : s.seen = 0) : lineToks m s ts n = match Sp.next 110 ⟨ts, 0⟩ with
    | none => .error 70
    | some (x, r1) => if x ≠ [109, 111, 100, 101, 108] then .error 70 else match Sp.name r1 with
      | none => .error 70
      | some (y, r2) => if r2.ts ≠ [] then .error 70 else .ok { s with seen := s.seen + 1, name := y } := by
  unfold lineToks; rw [if_pos (by rw [hz]; rfl)]; rfl
theorem lineToks_2 (m : Nums) (s : St) (ts : List Tok) (n : Int) (hz : s.seen = 1) : lineToks m s ts n = match Sp.next 110 ⟨ts, 0⟩ with
    | none => .error 70
    | some (x, r1) => if x ≠ [119, 105, 100, 116, 104] then .error 70 else match Sp.next 100 r1 with
      | none => .error 70
      | some (y, r2) =>
        if (m.whole y).1 ≠ 32 ∧ (m.whole y).1 ≠ 64 then .error 70
        else if r2.ts ≠ [] then .error 70 else .ok { s with seen := s.seen + 1, width := (m.whole y).1 } := by
  unfold lineToks; rw [if_neg (by rw [hz]; decide), if_pos (by rw [hz]; rfl)]; rfl
theorem lineToks_3 (m : Nums) (s : St) (ts : List Tok) (n : Int) (hz : 2 ≤ s.seen) : lineToks m s ts n = match decl m s.width s.last ⟨ts, 0⟩ with
    | .error e => .error e
    | .ok (d, _) => .ok { s with seen := s.seen + 1, last := d.kind, decls := s.decls ++ [{ d with line := n }] } := by
  unfold lineToks; rw [if_neg (by omega), if_neg (by omega)]; rfl
/-- Two ways meet again. -/
theorem meet4 {A B C D : Type} {F G : A → B → C → D → Prop} {P : Prop} (h1 : (∀ x y z u, F x y z u → G x y z u) → P) (h2 : ∀ x y z u, F x y z u → G x y z u) : P := h1 h2
set_option maxRecDepth 100000 in
set_option maxHeartbeats 4000000 in
theorem line_1 (m : Nums) (wb : World) (S : Nat) (s : St) (w : World) (hst : StAt wb S s w) (l : Bs) (i : Int) (hl : l.length ≤ 70000) (hv : void l = false) (ts : List Tok) (hs : Sp.scan l = some ts) (hok : OkTs ts) 
    (hsc : ∀ W, Env W → Calls Tryz.prog 15 #[.string (bstr l)] W (ScanPost l W)) (hz : s.seen = 0) :
    Calls Tryz.prog 10 #[.pointer (some ⟨S, 0, none⟩), .string (bstr l), .int .i64 i] w (LinePost wb S (Sp.line m s l i) w) := by
  have hmf : ∀ (fn : Fn) (first cap : Array Value) (w : World), (Instr.makeFunc fn first cap).run Tryz.prog w = .ok (.func fn first cap) w := fun _ _ _ _ => rfl
  have hspec : Hid (Sp.line m s l i = lineToks m s ts i) := Lib.hid (by unfold Sp.line; rw [hv, hs]; rfl)
  have hSlt := hst.lt
  have hst' := Lib.hid hst
  obtain ⟨dv, cs, hat⟩ := hst.at_
  have hat' := Lib.hid hat
  have hstA := Lib.hid (hst.keep ((Below.refl w.heap.size w).alloc (Nat.le_refl _) (.cells #[.int .i64 0] 26)))
  have H14 := Lib.hid (strim_any l (w.alloc (.cells #[.int .i64 0] 26)) (by omega))
  have H15 := Lib.hid (scan_ok hs hsc)
  rw [void_trim] at hv
  clear hsc hs hat
  cases ht : Lib.trimS l [32, 9] with
  | nil => rw [ht] at hv; cases hv
  | cons c r =>
    rw [ht] at H14 hv
    have hem : (bstr (c :: r)).toList = c :: r := bstr_toList _
    have hsz : (bstr (c :: r)).size = r.length + 1 := bstr_size _
    have h35 : ((((bstr (c :: r))[0]'(by rw [hsz]; omega)).toNat : Int) == 35) = false := (u8_eq c 35).trans hv
    clear hv ht hst
    have hz' := Lib.hid hz
    clear hz
    go_enter_defers Tryz.func10, Tryz.ntmps10
    go_wp2_with fail
    refine H14.out.mono ?_
    rintro e w1 ⟨rfl, hb1⟩
    have hB1 := Lib.hid hb1
    have he := Lib.hid (ecell hb1)
    have hst1 := Lib.hid (hstA.out.keep hb1)
    have hEnv := Lib.hid hst1.out.now
    have hS1 := Lib.hid ((((Below.refl w.heap.size w).alloc (Nat.le_refl _) (.cells #[.int .i64 0] 26)).trans (hb1.mono (by simp))).block S hSlt)
    have q1 : w1.cell? ⟨S, 1, none⟩ = some (.int .i64 s.width) := cell_heap (hS1.out.trans hat'.out.1) 1
    clear hb1
    go_wp2_with fail
    refine wp_region_any (by kernel_rfl) ?_
    change wpAny _ _ _ _ _ _ _ (World.drew _)
    refine wpAny_take (i := 0) (v := .string (bstr l)) rfl (by kernel_rfl) (by kernel_rfl) (by kernel_rfl) (fun _ _ _ h => panic_put (by decide) h) (Or.inl ⟨by rfl, fun w => by go_simp⟩) ?_
    refine wpAny_take (i := 2) (v := .pointer (some ⟨S, 0, none⟩)) rfl (by kernel_rfl) (by kernel_rfl) (by kernel_rfl) (fun _ _ _ h => panic_put (by decide) h) (Or.inl ⟨by rfl, fun w => by go_simp⟩) ?_
    refine wpAny_take (i := 3) (v := .pointer (some ⟨S, 0, none⟩)) rfl (by kernel_rfl) (by kernel_rfl) (by kernel_rfl) (fun _ _ _ h => panic_put (by decide) h) (Or.inl ⟨by rfl, fun w => by go_simp⟩) ?_
    refine wpAny_take (i := 4) (v := .pointer (some ⟨S, 0, none⟩)) rfl (by kernel_rfl) (by kernel_rfl) (by kernel_rfl) (fun _ _ _ h => panic_put (by decide) h) (Or.inl ⟨by rfl, fun w => by go_simp⟩) ?_
    refine wpAny_take (i := 5) (v := .pointer (some ⟨S, 1, none⟩)) rfl (by kernel_rfl) (by kernel_rfl) (by kernel_rfl) (fun _ _ _ h => panic_put (by decide) h) (Or.inl ⟨by rfl, fun w => by go_simp⟩) ?_
    apply meet4 (F := fun (A : Option Addr) (cc T : Nat) (w2 : World) => TokS w2 T (.slice A ts.length cc) ts ∧ w1.heap.size ≤ T ∧ T < w2.heap.size ∧ Below w1.heap.size w1 w2)
    · intro key
      refine wpAny_ready (rs := [1, 6]) (by kernel_rfl) (by simp) ?_
      refine AllReady.cons rfl (fun K hK => ?_) (AllReady.cons rfl (fun K hK => ?_) AllReady.nil)
      · go_simp
        refine (H15.out _ hEnv.out.drew).mono ?_
        rintro e w2 ⟨tv, T, rfl, hT, hT1, hT2, hb2⟩
        obtain ⟨A, cc, rfl, hcc⟩ := hT
        have hT' : TokS w2 T (.slice A ts.length cc) ts := ⟨A, cc, rfl, hcc⟩
        clear hcc
        have hb2' : Below w1.heap.size w1 w2 := ((Below.refl w1.heap.size w1).drew).trans hb2
        have q2 : w2.cell? ⟨S, 1, none⟩ = some (.int .i64 s.width) := by
          have hh := (hb2'.block S (by have := heap_lt (hS1.out.trans hat'.out.1); exact this)).trans (hS1.out.trans hat'.out.1)
          exact cell_heap hh 1
        refine hK _ _ ?_
        clear hK K
        refine wpAny_ready (rs := [6]) (by kernel_rfl) (by simp) ?_
        refine AllReady.cons rfl (fun K hK => ?_) AllReady.nil
        go_simp
        refine hK _ _ ?_
        clear hK K
        refine wpAny_ready (rs := [7]) (by kernel_rfl) (by simp) ?_
        refine AllReady.cons rfl (fun K hK => ?_) AllReady.nil
        go_simp
        refine hK _ _ ?_
        clear hK K
        refine wpAny_ready (rs := [8]) (by kernel_rfl) (by simp) ?_
        refine AllReady.cons rfl (fun K hK => ?_) AllReady.nil
        go_simp
        refine hK _ _ ?_
        clear hK K
        refine wpAny_ready (rs := [9]) (by kernel_rfl) (by simp) ?_
        refine AllReady.cons rfl (fun K hK => ?_) AllReady.nil
        go_simp
        refine hK _ _ ?_
        clear hK K
        refine wpAny_done (by kernel_rfl) ?_ _
        exact key A cc T w2 ⟨hT', hT1, hT2, hb2'⟩
      · go_simp
        refine hK _ _ ?_
        clear hK K
        refine wpAny_ready (rs := [1]) (by kernel_rfl) (by simp) ?_
        refine AllReady.cons rfl (fun K hK => ?_) AllReady.nil
        go_simp
        refine (H15.out _ hEnv.out.drew).mono ?_
        rintro e w2 ⟨tv, T, rfl, hT, hT1, hT2, hb2⟩
        obtain ⟨A, cc, rfl, hcc⟩ := hT
        have hT' : TokS w2 T (.slice A ts.length cc) ts := ⟨A, cc, rfl, hcc⟩
        clear hcc
        have hb2' : Below w1.heap.size w1 w2 := ((Below.refl w1.heap.size w1).drew).trans hb2
        refine hK _ _ ?_
        clear hK K
        refine wpAny_ready (rs := [7]) (by kernel_rfl) (by simp) ?_
        refine AllReady.cons rfl (fun K hK => ?_) AllReady.nil
        go_simp
        refine hK _ _ ?_
        clear hK K
        refine wpAny_ready (rs := [8]) (by kernel_rfl) (by simp) ?_
        refine AllReady.cons rfl (fun K hK => ?_) AllReady.nil
        go_simp
        refine hK _ _ ?_
        clear hK K
        refine wpAny_ready (rs := [9]) (by kernel_rfl) (by simp) ?_
        refine AllReady.cons rfl (fun K hK => ?_) AllReady.nil
        go_simp
        refine hK _ _ ?_
        clear hK K
        refine wpAny_done (by kernel_rfl) ?_ _
        exact key A cc T w2 ⟨hT', hT1, hT2, hb2'⟩
    · rintro A cc T w2 ⟨hT, hT1, hT2, hb2⟩
      have HL := Lib.hid (line_at (seen := 1) (cs := cs) hst'.out hat'.out.1 hB1.out hb2 hT hT1 hT2 hok)
      have hSa := Lib.hid ((Below.heap_alloc w2 (.cells #[.slice A ts.length cc, .int .i64 s.width, .int .i64 0, .int .i64 0] 54) S (by have h1 := heap_lt (hS1.out.trans hat'.out.1); have h2 := hb2.size; omega)).trans ((hb2.block S (by have := heap_lt (hS1.out.trans hat'.out.1); exact this)).trans (hS1.out.trans hat'.out.1)))
      have q3 : (w2.alloc (.cells #[.slice A ts.length cc, .int .i64 s.width, .int .i64 0, .int .i64 0] 54)).cell? ⟨S, 3, none⟩ = some (.int .i64 0) := by have := cell_heap hSa.out 3; rw [this]; show some (Value.int .i64 s.seen) = _; rw [hz'.out]
      have f3 : (w2.alloc (.cells #[.slice A ts.length cc, .int .i64 s.width, .int .i64 0, .int .i64 0] 54)).frozen? ⟨S, 3, none⟩ = false := free_heap hSa.out 3
      go_wp2_with fail
      clear q3 f3 hSa
      revert HL
      generalize ((w2.alloc (.cells #[.slice A ts.length cc, .int .i64 s.width, .int .i64 0, .int .i64 0] 54)).setCell ⟨S, 3, none⟩ (.int .i64 1)) = w3
      generalize w2.heap.size = R
      intro HL
      have hSE : S ≠ w.heap.size := by omega
      cases h1 : Sp.next 110 ⟨ts, 0⟩ with
      | none =>
        refine (next_no (k := 110) (kk := 110) HL.out.rd rfl h1).mono ?_
        rintro e w4 ⟨rfl, rfl⟩
        exact HL.out.ends hSlt (by rw [hspec.out, lineToks_1 m s ts i hz'.out, h1]) rfl
      | some p =>
        obtain ⟨x, r1⟩ := p
        refine (next_ok (k := 110) (kk := 110) HL.out.rd rfl h1).mono ?_
        rintro e w4 ⟨rfl, hg4, hr4⟩
        have L4 := Lib.hid (HL.out.grown hg4 hr4 hSlt)
        have hsp1 : Hid (Sp.line m s l i = if x ≠ [109, 111, 100, 101, 108] then .error 70 else match Sp.name r1 with
          | none => .error 70
          | some (y, r2) => if r2.ts ≠ [] then .error 70 else .ok { s with seen := s.seen + 1, name := y }) := Lib.hid (by rw [hspec.out, lineToks_1 m s ts i hz'.out, h1] <;> rfl)
        clear hg4 hr4 h1
        by_cases hx : x = [109, 111, 100, 101, 108]
        · have hx1 : ((bstr x).toList == [109, 111, 100, 101, 108]) = true := by rw [bstr_toList, hx]; rfl
          have hx2 : ((bstr x).toList != [109, 111, 100, 101, 108]) = false := by rw [bstr_toList, hx]; rfl
          have hsp2 := Lib.hid (hsp1.out.trans (if_neg (by simpa using hx)))
          clear hx
          go_wp2_with fail
          cases h2 : Sp.name r1 with
          | none =>
            refine (name_no L4.out.rd h2).mono ?_
            rintro e w5 ⟨rfl, hg5⟩
            exact L4.out.givG hg5 hSlt (by rw [hsp2.out, h2]) rfl
          | some p =>
            obtain ⟨y, r2⟩ := p
            refine (name_ok L4.out.rd h2).mono ?_
            rintro e w5 ⟨rfl, hg5, hr5⟩
            have L5 := Lib.hid (L4.out.grown hg5 hr5 hSlt)
            have hsp3 : Hid (Sp.line m s l i = if r2.ts ≠ [] then .error 70 else .ok { s with seen := s.seen + 1, name := y }) := Lib.hid (by rw [hsp2.out, h2])
            clear hg5 hr5 h2
            have s0 : w5.cell? ⟨S, 0, none⟩ = some (.string (bstr s.name)) := cell_heap L5.out.hS 0
            have sf : w5.frozen? ⟨S, 0, none⟩ = false := free_heap L5.out.hS 0
            have e0 : w5.cell? ⟨w.heap.size, 0, none⟩ = some (.int .i64 0) := cell_heap L5.out.hE 0
            have ef : w5.frozen? ⟨w.heap.size, 0, none⟩ = false := free_heap L5.out.hE 0
            obtain ⟨A5, c5, hR0⟩ : ∃ A5 c5, w5.cell? ⟨R, 0, none⟩ = some (.slice A5 r2.ts.length c5) := by
              obtain ⟨v5, dp5, hh5, A5, c5, rfl, _⟩ := L5.out.rd.at_
              exact ⟨A5, c5, cell_heap hh5 0⟩
            have hRS : R ≠ S := by have := L5.out.hR; omega
            by_cases hr2 : r2.ts = []
            · have hl2 : decide (0 < r2.ts.length) = false := by rw [hr2]; rfl
              have hl3 : r2.ts.length = 0 := by rw [hr2]; rfl
              have hr2' := Lib.hid hr2
              clear hr2
              go_wp2_with fail
              exact L5.out.told (s' := { s with seen := s.seen + 1, name := y }) hst'.out hat'.out (by rw [hsp3.out, if_neg (by simpa using hr2'.out)]) (by show (five (bstr s.name) s.width dv 1 s.last).setIfInBounds 0 (.string (bstr y)) = five (bstr y) s.width dv (s.seen + 1) s.last; rw [hz'.out]; rfl) rfl rfl
            · have hl2 : decide (0 < r2.ts.length) = true := decide_eq_true (List.length_pos_iff.2 hr2)
              have hl3 : 0 < r2.ts.length := List.length_pos_iff.2 hr2
              have hr2' := Lib.hid hr2
              clear hr2
              go_wp2_with fail
              refine (syntax_any _ _).mono ?_
              rintro e w6 ⟨rfl, rfl⟩
              exact L5.out.givS hSlt (by rw [hsp3.out, if_pos hr2'.out]) rfl
        · have hx1 : ((bstr x).toList == [109, 111, 100, 101, 108]) = false := by rw [bstr_toList]; exact beq_eq_false_iff_ne.2 hx
          have hx2 : ((bstr x).toList != [109, 111, 100, 101, 108]) = true := by rw [bstr_toList]; exact bne_iff_ne.2 hx
          have hx' := Lib.hid hx
          clear hx
          go_wp2_with fail
          refine (syntax_any _ _).mono ?_
          rintro e w5 ⟨rfl, rfl⟩
          exact L4.out.ends hSlt (by rw [hsp1.out, if_pos hx'.out]) rfl
end Go.Proofs.YtdkhedefcmjjgaaGreatDoor
