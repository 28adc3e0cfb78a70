/- decl, walked: a line that declares. (Printed by gen_decl.py.)
Conditions: the numbers' contracts at the words of numbers that the line reads ('NumsAt'). -/
import Derived.Test.YtdkhedefcmjjgaaGreatDoorMDecl0
namespace Go.Proofs.YtdkhedefcmjjgaaGreatDoor
open Go.RowKit Sp
set_option linter.unusedSimpArgs false
set_option linter.unusedVariables false
set_option maxHeartbeats 4000000 in
theorem decl_3_rows (m : Nums) (hm : ∀ s, m.whole s = wholeF s) (w0 : World) (R T : Nat) (wd last : Int) (hwd : wd = 32 ∨ wd = 64) (w : World) (r : RS) (hr : Rd w0 w R T wd r) (s0 : Bs) (r1 : RS) (h1 : Sp.next 110 r = some (s0, r1)) (hk : kindOf s0 = 3) (hbh : behind 3 last = true) (s : Bs) (r2 : RS) (h2 : Sp.name r1 = some (s, r2)) (h3 : Sp.wholeR m r2 = none) :
    Calls Tryz.prog 20 #[.pointer (some ⟨R, 0, none⟩), .int .i64 last] w (DeclPost w0 R T wd w (Sp.decl m wd last r)) := by
  have hr0 := hr.keep ((Below.refl w.heap.size w).alloc (Nat.le_refl _) (.cells #[.int .i64 0, .int .i64 0, .string ⟨#[]⟩, .int .i64 0, .int .i64 0, .int .i64 0, .int .i64 0, .int .i64 0, .int .i64 0, .int .i64 0, .string ⟨#[]⟩, .slice none 0 0] 38))
  have hg0 : w.grownBy (w.alloc (.cells #[.int .i64 0, .int .i64 0, .string ⟨#[]⟩, .int .i64 0, .int .i64 0, .int .i64 0, .int .i64 0, .int .i64 0, .int .i64 0, .int .i64 0, .string ⟨#[]⟩, .slice none 0 0] 38)) (some R) := gr_alloc _ _ _
  have hRw := hr.lt
  have hTw := hr.ltT
  have hBw := hr.below.size
  have y0 : (w.alloc (.cells #[.int .i64 0, .int .i64 0, .string ⟨#[]⟩, .int .i64 0, .int .i64 0, .int .i64 0, .int .i64 0, .int .i64 0, .int .i64 0, .int .i64 0, .string ⟨#[]⟩, .slice none 0 0] 38)).heap[w.heap.size]? = some (.cells (dcs 0 0 ⟨#[]⟩ 0 0 0 0 0 0 0 ⟨#[]⟩ (.slice none 0 0)) 38 (0, 0)) := heap_alloc_new _ _
  have y0' := Lib.hid y0
  clear y0
  have H16 := Lib.hid (next_ok (k := 110) (kk := 110) hr0 rfl h1)
  have hb0 : (bstr s0).data.toList = s0 := by simp [bstr]
  have H37 : Hid (∀ W, Env W → Calls Tryz.prog 37 #[.string (bstr s0)] W fun e w' => e = .returned (.int .i64 3) ∧ Below W.heap.size W w') := Lib.hid (fun W hW => by
    have := kindOf_any (bstr s0) W hW.space
    rw [hb0, hk] at this
    exact this)
  have hfin : Hid (Sp.decl m wd last r = .error 70) := Lib.hid (by
    unfold Sp.decl; rw [h1]; dsimp only; rw [if_neg (by rw [hk, hbh]; decide), h2]; dsimp only; rw [hk]; unfold Sp.rest; rw [if_pos (by decide)]; rw [h3])
  have H38 : Hid (∀ W, Calls Tryz.prog 38 #[.int .i64 3, .int .i64 last] W fun e w' => e = .returned (.bool true) ∧ W = w') := Lib.hid (fun W => by rw [← hbh]; exact behind_any 3 last W)
  have H18 : Hid (∀ W, Rd w0 W R T wd r1 → Calls Tryz.prog 18 #[.pointer (some ⟨R, 0, none⟩)] W fun e w' => e = .returned (.string (bstr s)) ∧ W.grownBy w' (some R) ∧ Rd w0 w' R T wd r2) := Lib.hid (fun W hW => name_ok hW h2)
  have H39n : Hid (∀ W, Rd w0 W R T wd r2 → Calls Tryz.prog 39 #[.pointer (some ⟨R, 0, none⟩)] W fun e w' => e = .panicked (giv 70) ∧ W.grownBy w' (some R)) := Lib.hid (fun W hW => wholeR_no hm hW h3)
  clear h1 hk hb0 hbh h2 h3
  go_enter Tryz.func20, Tryz.ntmps20
  go_wp2_with fail
  refine H16.out.mono ?_
  rintro e w1 ⟨rfl, hg1, hr1⟩
  go_wp2_with fail
  refine (H37.out _ hr1.now).mono ?_
  rintro e w2 ⟨rfl, hb2⟩
  have hs1 := hg1.size
  have hs2 := hb2.size
  simp only [World.size_alloc] at hs1
  have hrD := (hr1.keep hb2).keep ((Below.refl _ _).alloc (Nat.le_refl _) (.cells #[.int .i64 3, .int .i64 0, .string ⟨#[]⟩, .int .i64 0, .int .i64 0, .int .i64 0, .int .i64 0, .int .i64 0, .int .i64 0, .int .i64 0, .string ⟨#[]⟩, .slice none 0 0] 38))
  have hgD : w.grownBy (w2.alloc (.cells #[.int .i64 3, .int .i64 0, .string ⟨#[]⟩, .int .i64 0, .int .i64 0, .int .i64 0, .int .i64 0, .int .i64 0, .int .i64 0, .int .i64 0, .string ⟨#[]⟩, .slice none 0 0] 38)) (some R) := gr_app (gr_trans (gr_trans hg0 hg1) (gr_below hb2 _)) _
  have mD : (w2.alloc (.cells #[.int .i64 3, .int .i64 0, .string ⟨#[]⟩, .int .i64 0, .int .i64 0, .int .i64 0, .int .i64 0, .int .i64 0, .int .i64 0, .int .i64 0, .string ⟨#[]⟩, .slice none 0 0] 38)).heap[w2.heap.size]? = some (.cells (dcs 3 0 ⟨#[]⟩ 0 0 0 0 0 0 0 ⟨#[]⟩ (.slice none 0 0)) 38 (0, 0)) := heap_alloc_new _ _
  have mD' := Lib.hid mD
  have mY : (w2.alloc (.cells #[.int .i64 3, .int .i64 0, .string ⟨#[]⟩, .int .i64 0, .int .i64 0, .int .i64 0, .int .i64 0, .int .i64 0, .int .i64 0, .int .i64 0, .string ⟨#[]⟩, .slice none 0 0] 38)).heap[w.heap.size]? = some (.cells (dcs 0 0 ⟨#[]⟩ 0 0 0 0 0 0 0 ⟨#[]⟩ (.slice none 0 0)) 38 (0, 0)) := (Below.heap_alloc _ _ _ (by omega)).trans ((hb2.block _ (by omega)).trans ((hg1.block _ (by simp) (by simp; omega)).trans y0'.out))
  have mY' := Lib.hid mY
  clear mD mY y0'
  go_wp2_with fail
  refine (H38.out _).mono ?_
  rintro e w3 ⟨rfl, rfl⟩
  go_wp2_with fail
  refine (H18.out _ hrD).mono ?_
  rintro e w3 ⟨rfl, hg3, hr3⟩
  have hs3 := hg3.size
  simp only [World.size_alloc] at hs3
  have hDR : w2.heap.size ≠ R := by omega
  have hDT : w2.heap.size ≠ T := by omega
  have hDB : w0.heap.size ≤ w2.heap.size := by omega
  have hDw : w.heap.size ≤ w2.heap.size := by omega
  have hDY : w2.heap.size ≠ w.heap.size := by omega
  have hYR : w.heap.size ≠ R := by omega
  have mD3 := Lib.hid ((hg3.block w2.heap.size (by simp) (by simpa using hDR)).trans mD'.out)
  have mY3 := Lib.hid ((hg3.block w.heap.size (by simp; omega) (by simpa using hYR)).trans mY'.out)
  have hgw3 := gr_trans hgD hg3
  generalize hDD : w2.heap.size = D at *
  have q32 : w3.cell? ⟨D, 2, none⟩ = some (.string ⟨#[]⟩) := cell_heap mD3.out 2
  have q30 : w3.cell? ⟨D, 0, none⟩ = some (.int .i64 3) := cell_heap mD3.out 0
  have df3 : ∀ i, w3.frozen? ⟨D, i, none⟩ = false := fun i => free_heap mD3.out i
  have hr3s := hr3.other hDR hDT hDB 2 (.string (bstr s))
  have mD3s : Hid ((w3.setCell ⟨D, 2, none⟩ (.string (bstr s))).heap[D]? = some (.cells (dcs 3 0 (bstr s) 0 0 0 0 0 0 0 ⟨#[]⟩ (.slice none 0 0)) 38 (0, 0))) := Lib.hid (set_heap mD3.out 2 (.string (bstr s)))
  have mY3s := Lib.hid ((Below.heap_setCell w3 ⟨D, 2, none⟩ (.string (bstr s)) _ (Ne.symm hDY)).trans mY3.out)
  have hg3s := gr_new hgw3 (show w.heap.size ≤ D by omega) (p := ⟨D, 2, none⟩) (.string (bstr s))
  go_wp2_with fail
  refine (H39n.out _ hr3s).mono ?_
  rintro e w9 ⟨rfl, hg9⟩
  go_wp2_with fail
  exact ⟨rfl, gr_trans hg3s hg9, .inl ⟨70, hfin.out, rfl⟩⟩
set_option maxHeartbeats 4000000 in
theorem decl_3_cols (m : Nums) (hm : ∀ s, m.whole s = wholeF s) (w0 : World) (R T : Nat) (wd last : Int) (hwd : wd = 32 ∨ wd = 64) (w : World) (r : RS) (hr : Rd w0 w R T wd r) (s0 : Bs) (r1 : RS) (h1 : Sp.next 110 r = some (s0, r1)) (hk : kindOf s0 = 3) (hbh : behind 3 last = true) (s : Bs) (r2 : RS) (h2 : Sp.name r1 = some (s, r2)) (rows : Int) (r3 : RS) (h3 : Sp.wholeR m r2 = some (rows, r3)) (h4 : Sp.wholeR m r3 = none) :
    Calls Tryz.prog 20 #[.pointer (some ⟨R, 0, none⟩), .int .i64 last] w (DeclPost w0 R T wd w (Sp.decl m wd last r)) := by
  have hr0 := hr.keep ((Below.refl w.heap.size w).alloc (Nat.le_refl _) (.cells #[.int .i64 0, .int .i64 0, .string ⟨#[]⟩, .int .i64 0, .int .i64 0, .int .i64 0, .int .i64 0, .int .i64 0, .int .i64 0, .int .i64 0, .string ⟨#[]⟩, .slice none 0 0] 38))
  have hg0 : w.grownBy (w.alloc (.cells #[.int .i64 0, .int .i64 0, .string ⟨#[]⟩, .int .i64 0, .int .i64 0, .int .i64 0, .int .i64 0, .int .i64 0, .int .i64 0, .int .i64 0, .string ⟨#[]⟩, .slice none 0 0] 38)) (some R) := gr_alloc _ _ _
  have hRw := hr.lt
  have hTw := hr.ltT
  have hBw := hr.below.size
  have y0 : (w.alloc (.cells #[.int .i64 0, .int .i64 0, .string ⟨#[]⟩, .int .i64 0, .int .i64 0, .int .i64 0, .int .i64 0, .int .i64 0, .int .i64 0, .int .i64 0, .string ⟨#[]⟩, .slice none 0 0] 38)).heap[w.heap.size]? = some (.cells (dcs 0 0 ⟨#[]⟩ 0 0 0 0 0 0 0 ⟨#[]⟩ (.slice none 0 0)) 38 (0, 0)) := heap_alloc_new _ _
  have y0' := Lib.hid y0
  clear y0
  have H16 := Lib.hid (next_ok (k := 110) (kk := 110) hr0 rfl h1)
  have hb0 : (bstr s0).data.toList = s0 := by simp [bstr]
  have H37 : Hid (∀ W, Env W → Calls Tryz.prog 37 #[.string (bstr s0)] W fun e w' => e = .returned (.int .i64 3) ∧ Below W.heap.size W w') := Lib.hid (fun W hW => by
    have := kindOf_any (bstr s0) W hW.space
    rw [hb0, hk] at this
    exact this)
  have hfin : Hid (Sp.decl m wd last r = .error 70) := Lib.hid (by
    unfold Sp.decl; rw [h1]; dsimp only; rw [if_neg (by rw [hk, hbh]; decide), h2]; dsimp only; rw [hk]; unfold Sp.rest; rw [if_pos (by decide)]; rw [h3]; dsimp only; rw [h4])
  have H38 : Hid (∀ W, Calls Tryz.prog 38 #[.int .i64 3, .int .i64 last] W fun e w' => e = .returned (.bool true) ∧ W = w') := Lib.hid (fun W => by rw [← hbh]; exact behind_any 3 last W)
  have H18 : Hid (∀ W, Rd w0 W R T wd r1 → Calls Tryz.prog 18 #[.pointer (some ⟨R, 0, none⟩)] W fun e w' => e = .returned (.string (bstr s)) ∧ W.grownBy w' (some R) ∧ Rd w0 w' R T wd r2) := Lib.hid (fun W hW => name_ok hW h2)
  have H39 : Hid (∀ W, Rd w0 W R T wd r2 → Calls Tryz.prog 39 #[.pointer (some ⟨R, 0, none⟩)] W fun e w' => e = .returned (.int .i64 rows) ∧ W.grownBy w' (some R) ∧ Rd w0 w' R T wd r3) := Lib.hid (fun W hW => wholeR_ok hm hW h3)
  have H39n : Hid (∀ W, Rd w0 W R T wd r3 → Calls Tryz.prog 39 #[.pointer (some ⟨R, 0, none⟩)] W fun e w' => e = .panicked (giv 70) ∧ W.grownBy w' (some R)) := Lib.hid (fun W hW => wholeR_no hm hW h4)
  clear h1 hk hb0 hbh h2 h3 h4
  go_enter Tryz.func20, Tryz.ntmps20
  go_wp2_with fail
  refine H16.out.mono ?_
  rintro e w1 ⟨rfl, hg1, hr1⟩
  go_wp2_with fail
  refine (H37.out _ hr1.now).mono ?_
  rintro e w2 ⟨rfl, hb2⟩
  have hs1 := hg1.size
  have hs2 := hb2.size
  simp only [World.size_alloc] at hs1
  have hrD := (hr1.keep hb2).keep ((Below.refl _ _).alloc (Nat.le_refl _) (.cells #[.int .i64 3, .int .i64 0, .string ⟨#[]⟩, .int .i64 0, .int .i64 0, .int .i64 0, .int .i64 0, .int .i64 0, .int .i64 0, .int .i64 0, .string ⟨#[]⟩, .slice none 0 0] 38))
  have hgD : w.grownBy (w2.alloc (.cells #[.int .i64 3, .int .i64 0, .string ⟨#[]⟩, .int .i64 0, .int .i64 0, .int .i64 0, .int .i64 0, .int .i64 0, .int .i64 0, .int .i64 0, .string ⟨#[]⟩, .slice none 0 0] 38)) (some R) := gr_app (gr_trans (gr_trans hg0 hg1) (gr_below hb2 _)) _
  have mD : (w2.alloc (.cells #[.int .i64 3, .int .i64 0, .string ⟨#[]⟩, .int .i64 0, .int .i64 0, .int .i64 0, .int .i64 0, .int .i64 0, .int .i64 0, .int .i64 0, .string ⟨#[]⟩, .slice none 0 0] 38)).heap[w2.heap.size]? = some (.cells (dcs 3 0 ⟨#[]⟩ 0 0 0 0 0 0 0 ⟨#[]⟩ (.slice none 0 0)) 38 (0, 0)) := heap_alloc_new _ _
  have mD' := Lib.hid mD
  have mY : (w2.alloc (.cells #[.int .i64 3, .int .i64 0, .string ⟨#[]⟩, .int .i64 0, .int .i64 0, .int .i64 0, .int .i64 0, .int .i64 0, .int .i64 0, .int .i64 0, .string ⟨#[]⟩, .slice none 0 0] 38)).heap[w.heap.size]? = some (.cells (dcs 0 0 ⟨#[]⟩ 0 0 0 0 0 0 0 ⟨#[]⟩ (.slice none 0 0)) 38 (0, 0)) := (Below.heap_alloc _ _ _ (by omega)).trans ((hb2.block _ (by omega)).trans ((hg1.block _ (by simp) (by simp; omega)).trans y0'.out))
  have mY' := Lib.hid mY
  clear mD mY y0'
  go_wp2_with fail
  refine (H38.out _).mono ?_
  rintro e w3 ⟨rfl, rfl⟩
  go_wp2_with fail
  refine (H18.out _ hrD).mono ?_
  rintro e w3 ⟨rfl, hg3, hr3⟩
  have hs3 := hg3.size
  simp only [World.size_alloc] at hs3
  have hDR : w2.heap.size ≠ R := by omega
  have hDT : w2.heap.size ≠ T := by omega
  have hDB : w0.heap.size ≤ w2.heap.size := by omega
  have hDw : w.heap.size ≤ w2.heap.size := by omega
  have hDY : w2.heap.size ≠ w.heap.size := by omega
  have hYR : w.heap.size ≠ R := by omega
  have mD3 := Lib.hid ((hg3.block w2.heap.size (by simp) (by simpa using hDR)).trans mD'.out)
  have mY3 := Lib.hid ((hg3.block w.heap.size (by simp; omega) (by simpa using hYR)).trans mY'.out)
  have hgw3 := gr_trans hgD hg3
  generalize hDD : w2.heap.size = D at *
  have q32 : w3.cell? ⟨D, 2, none⟩ = some (.string ⟨#[]⟩) := cell_heap mD3.out 2
  have q30 : w3.cell? ⟨D, 0, none⟩ = some (.int .i64 3) := cell_heap mD3.out 0
  have df3 : ∀ i, w3.frozen? ⟨D, i, none⟩ = false := fun i => free_heap mD3.out i
  have hr3s := hr3.other hDR hDT hDB 2 (.string (bstr s))
  have mD3s : Hid ((w3.setCell ⟨D, 2, none⟩ (.string (bstr s))).heap[D]? = some (.cells (dcs 3 0 (bstr s) 0 0 0 0 0 0 0 ⟨#[]⟩ (.slice none 0 0)) 38 (0, 0))) := Lib.hid (set_heap mD3.out 2 (.string (bstr s)))
  have mY3s := Lib.hid ((Below.heap_setCell w3 ⟨D, 2, none⟩ (.string (bstr s)) _ (Ne.symm hDY)).trans mY3.out)
  have hg3s := gr_new hgw3 (show w.heap.size ≤ D by omega) (p := ⟨D, 2, none⟩) (.string (bstr s))
  go_wp2_with fail
  refine (H39.out _ hr3s).mono ?_
  rintro e w4 ⟨rfl, hg4, hr4⟩
  have mD4 := Lib.hid ((hg4.block D (heap_lt mD3s.out) (by simpa using hDR)).trans mD3s.out)
  have mY4 := Lib.hid ((hg4.block w.heap.size (heap_lt mY3s.out) (by simpa using hYR)).trans mY3s.out)
  have q43 : w4.cell? ⟨D, 3, none⟩ = some (.int .i64 0) := cell_heap mD4.out 3
  have df4 : ∀ i, w4.frozen? ⟨D, i, none⟩ = false := fun i => free_heap mD4.out i
  have hr4s := hr4.other hDR hDT hDB 3 (.int .i64 rows)
  have mD4s : Hid ((w4.setCell ⟨D, 3, none⟩ (.int .i64 rows)).heap[D]? = some (.cells (dcs 3 0 (bstr s) rows 0 0 0 0 0 0 ⟨#[]⟩ (.slice none 0 0)) 38 (0, 0))) := Lib.hid (set_heap mD4.out 3 _)
  have mY4s := Lib.hid ((Below.heap_setCell w4 ⟨D, 3, none⟩ (.int .i64 rows) _ (Ne.symm hDY)).trans mY4.out)
  have hg4s := gr_new (gr_trans hg3s hg4) (show w.heap.size ≤ D by omega) (p := ⟨D, 3, none⟩) (.int .i64 rows)
  go_wp2_with fail
  refine (H39n.out _ hr4s).mono ?_
  rintro e w9 ⟨rfl, hg9⟩
  go_wp2_with fail
  exact ⟨rfl, gr_trans hg4s hg9, .inl ⟨70, hfin.out, rfl⟩⟩
set_option maxHeartbeats 4000000 in
theorem decl_3 (m : Nums) (hm : ∀ s, m.whole s = wholeF s) (w0 : World) (R T : Nat) (wd last : Int) (hwd : wd = 32 ∨ wd = 64) (w : World) (r : RS) (hr : Rd w0 w R T wd r) (s0 : Bs) (r1 : RS) (h1 : Sp.next 110 r = some (s0, r1)) (hk : kindOf s0 = 3) (hbh : behind 3 last = true) (s : Bs) (r2 : RS) (h2 : Sp.name r1 = some (s, r2)) (rows : Int) (r3 : RS) (h3 : Sp.wholeR m r2 = some (rows, r3)) (cols : Int) (r4 : RS) (h4 : Sp.wholeR m r3 = some (cols, r4)) (hN : NumsAt m r4.ts) :
    Calls Tryz.prog 20 #[.pointer (some ⟨R, 0, none⟩), .int .i64 last] w (DeclPost w0 R T wd w (Sp.decl m wd last r)) := by
  have hr0 := hr.keep ((Below.refl w.heap.size w).alloc (Nat.le_refl _) (.cells #[.int .i64 0, .int .i64 0, .string ⟨#[]⟩, .int .i64 0, .int .i64 0, .int .i64 0, .int .i64 0, .int .i64 0, .int .i64 0, .int .i64 0, .string ⟨#[]⟩, .slice none 0 0] 38))
  have hg0 : w.grownBy (w.alloc (.cells #[.int .i64 0, .int .i64 0, .string ⟨#[]⟩, .int .i64 0, .int .i64 0, .int .i64 0, .int .i64 0, .int .i64 0, .int .i64 0, .int .i64 0, .string ⟨#[]⟩, .slice none 0 0] 38)) (some R) := gr_alloc _ _ _
  have hRw := hr.lt
  have hTw := hr.ltT
  have hBw := hr.below.size
  have y0 : (w.alloc (.cells #[.int .i64 0, .int .i64 0, .string ⟨#[]⟩, .int .i64 0, .int .i64 0, .int .i64 0, .int .i64 0, .int .i64 0, .int .i64 0, .int .i64 0, .string ⟨#[]⟩, .slice none 0 0] 38)).heap[w.heap.size]? = some (.cells (dcs 0 0 ⟨#[]⟩ 0 0 0 0 0 0 0 ⟨#[]⟩ (.slice none 0 0)) 38 (0, 0)) := heap_alloc_new _ _
  have y0' := Lib.hid y0
  clear y0
  have H16 := Lib.hid (next_ok (k := 110) (kk := 110) hr0 rfl h1)
  have hb0 : (bstr s0).data.toList = s0 := by simp [bstr]
  have H37 : Hid (∀ W, Env W → Calls Tryz.prog 37 #[.string (bstr s0)] W fun e w' => e = .returned (.int .i64 3) ∧ Below W.heap.size W w') := Lib.hid (fun W hW => by
    have := kindOf_any (bstr s0) W hW.space
    rw [hb0, hk] at this
    exact this)
  have H38 : Hid (∀ W, Calls Tryz.prog 38 #[.int .i64 3, .int .i64 last] W fun e w' => e = .returned (.bool true) ∧ W = w') := Lib.hid (fun W => by rw [← hbh]; exact behind_any 3 last W)
  have H18 : Hid (∀ W, Rd w0 W R T wd r1 → Calls Tryz.prog 18 #[.pointer (some ⟨R, 0, none⟩)] W fun e w' => e = .returned (.string (bstr s)) ∧ W.grownBy w' (some R) ∧ Rd w0 w' R T wd r2) := Lib.hid (fun W hW => name_ok hW h2)
  have H39 : Hid (∀ W, Rd w0 W R T wd r2 → Calls Tryz.prog 39 #[.pointer (some ⟨R, 0, none⟩)] W fun e w' => e = .returned (.int .i64 rows) ∧ W.grownBy w' (some R) ∧ Rd w0 w' R T wd r3) := Lib.hid (fun W hW => wholeR_ok hm hW h3)
  have H39' : Hid (∀ W, Rd w0 W R T wd r3 → Calls Tryz.prog 39 #[.pointer (some ⟨R, 0, none⟩)] W fun e w' => e = .returned (.int .i64 cols) ∧ W.grownBy w' (some R) ∧ Rd w0 w' R T wd r4) := Lib.hid (fun W hW => wholeR_ok hm hW h4)
  have hdx : deep Sp.nil ≤ 1000000 := by decide
  have hw : Hid (Sp.decl m wd last r = match Sp.how m r4 with | none => .error 70 | some ((i, a, b), r5) => if r5.ts ≠ [] then .error 70 else if 64 < deep Sp.nil then .error 2 else if r5.stop ≠ 0 then .error r5.stop else .ok (⟨3, 0, s, rows, cols, i, a, b, Sp.nil⟩, r5)) := Lib.hid (by
    unfold Sp.decl; rw [h1]; dsimp only; rw [if_neg (by rw [hk, hbh]; decide), h2]; dsimp only; rw [hk]; unfold Sp.rest; rw [if_pos (by decide)]; rw [h3]; dsimp only; rw [h4]; dsimp only; rw [if_pos rfl]; cases Sp.how m r4 <;> rfl)
  have H40 := Lib.hid (fun (D : Nat) (hRD : R ≠ D) (hTD : T ≠ D) (hBD : w0.heap.size ≤ D) W (hW : Rd w0 W R T wd r4) (hD : W.heap[D]? = some (.cells (dcs 3 0 (bstr s) rows cols 0 0 0 0 0 ⟨#[]⟩ (.slice none 0 0)) 38 (0, 0))) => how_any m w0 R T wd D 3 0 (bstr s) rows cols 0 0 ⟨#[]⟩ (.slice none 0 0) W r4 hW hRD hTD hBD hD hN)
  clear h1 hk hb0 hbh h2 h3 h4
  go_enter Tryz.func20, Tryz.ntmps20
  go_wp2_with fail
  refine H16.out.mono ?_
  rintro e w1 ⟨rfl, hg1, hr1⟩
  go_wp2_with fail
  refine (H37.out _ hr1.now).mono ?_
  rintro e w2 ⟨rfl, hb2⟩
  have hs1 := hg1.size
  have hs2 := hb2.size
  simp only [World.size_alloc] at hs1
  have hrD := (hr1.keep hb2).keep ((Below.refl _ _).alloc (Nat.le_refl _) (.cells #[.int .i64 3, .int .i64 0, .string ⟨#[]⟩, .int .i64 0, .int .i64 0, .int .i64 0, .int .i64 0, .int .i64 0, .int .i64 0, .int .i64 0, .string ⟨#[]⟩, .slice none 0 0] 38))
  have hgD : w.grownBy (w2.alloc (.cells #[.int .i64 3, .int .i64 0, .string ⟨#[]⟩, .int .i64 0, .int .i64 0, .int .i64 0, .int .i64 0, .int .i64 0, .int .i64 0, .int .i64 0, .string ⟨#[]⟩, .slice none 0 0] 38)) (some R) := gr_app (gr_trans (gr_trans hg0 hg1) (gr_below hb2 _)) _
  have mD : (w2.alloc (.cells #[.int .i64 3, .int .i64 0, .string ⟨#[]⟩, .int .i64 0, .int .i64 0, .int .i64 0, .int .i64 0, .int .i64 0, .int .i64 0, .int .i64 0, .string ⟨#[]⟩, .slice none 0 0] 38)).heap[w2.heap.size]? = some (.cells (dcs 3 0 ⟨#[]⟩ 0 0 0 0 0 0 0 ⟨#[]⟩ (.slice none 0 0)) 38 (0, 0)) := heap_alloc_new _ _
  have mD' := Lib.hid mD
  have mY : (w2.alloc (.cells #[.int .i64 3, .int .i64 0, .string ⟨#[]⟩, .int .i64 0, .int .i64 0, .int .i64 0, .int .i64 0, .int .i64 0, .int .i64 0, .int .i64 0, .string ⟨#[]⟩, .slice none 0 0] 38)).heap[w.heap.size]? = some (.cells (dcs 0 0 ⟨#[]⟩ 0 0 0 0 0 0 0 ⟨#[]⟩ (.slice none 0 0)) 38 (0, 0)) := (Below.heap_alloc _ _ _ (by omega)).trans ((hb2.block _ (by omega)).trans ((hg1.block _ (by simp) (by simp; omega)).trans y0'.out))
  have mY' := Lib.hid mY
  clear mD mY y0'
  go_wp2_with fail
  refine (H38.out _).mono ?_
  rintro e w3 ⟨rfl, rfl⟩
  go_wp2_with fail
  refine (H18.out _ hrD).mono ?_
  rintro e w3 ⟨rfl, hg3, hr3⟩
  have hs3 := hg3.size
  simp only [World.size_alloc] at hs3
  have hDR : w2.heap.size ≠ R := by omega
  have hDT : w2.heap.size ≠ T := by omega
  have hDB : w0.heap.size ≤ w2.heap.size := by omega
  have hDw : w.heap.size ≤ w2.heap.size := by omega
  have hDY : w2.heap.size ≠ w.heap.size := by omega
  have hYR : w.heap.size ≠ R := by omega
  have mD3 := Lib.hid ((hg3.block w2.heap.size (by simp) (by simpa using hDR)).trans mD'.out)
  have mY3 := Lib.hid ((hg3.block w.heap.size (by simp; omega) (by simpa using hYR)).trans mY'.out)
  have hgw3 := gr_trans hgD hg3
  generalize hDD : w2.heap.size = D at *
  have q32 : w3.cell? ⟨D, 2, none⟩ = some (.string ⟨#[]⟩) := cell_heap mD3.out 2
  have q30 : w3.cell? ⟨D, 0, none⟩ = some (.int .i64 3) := cell_heap mD3.out 0
  have df3 : ∀ i, w3.frozen? ⟨D, i, none⟩ = false := fun i => free_heap mD3.out i
  have hr3s := hr3.other hDR hDT hDB 2 (.string (bstr s))
  have mD3s : Hid ((w3.setCell ⟨D, 2, none⟩ (.string (bstr s))).heap[D]? = some (.cells (dcs 3 0 (bstr s) 0 0 0 0 0 0 0 ⟨#[]⟩ (.slice none 0 0)) 38 (0, 0))) := Lib.hid (set_heap mD3.out 2 (.string (bstr s)))
  have mY3s := Lib.hid ((Below.heap_setCell w3 ⟨D, 2, none⟩ (.string (bstr s)) _ (Ne.symm hDY)).trans mY3.out)
  have hg3s := gr_new hgw3 (show w.heap.size ≤ D by omega) (p := ⟨D, 2, none⟩) (.string (bstr s))
  go_wp2_with fail
  refine (H39.out _ hr3s).mono ?_
  rintro e w4 ⟨rfl, hg4, hr4⟩
  have mD4 := Lib.hid ((hg4.block D (heap_lt mD3s.out) (by simpa using hDR)).trans mD3s.out)
  have mY4 := Lib.hid ((hg4.block w.heap.size (heap_lt mY3s.out) (by simpa using hYR)).trans mY3s.out)
  have q43 : w4.cell? ⟨D, 3, none⟩ = some (.int .i64 0) := cell_heap mD4.out 3
  have df4 : ∀ i, w4.frozen? ⟨D, i, none⟩ = false := fun i => free_heap mD4.out i
  have hr4s := hr4.other hDR hDT hDB 3 (.int .i64 rows)
  have mD4s : Hid ((w4.setCell ⟨D, 3, none⟩ (.int .i64 rows)).heap[D]? = some (.cells (dcs 3 0 (bstr s) rows 0 0 0 0 0 0 ⟨#[]⟩ (.slice none 0 0)) 38 (0, 0))) := Lib.hid (set_heap mD4.out 3 _)
  have mY4s := Lib.hid ((Below.heap_setCell w4 ⟨D, 3, none⟩ (.int .i64 rows) _ (Ne.symm hDY)).trans mY4.out)
  have hg4s := gr_new (gr_trans hg3s hg4) (show w.heap.size ≤ D by omega) (p := ⟨D, 3, none⟩) (.int .i64 rows)
  go_wp2_with fail
  refine (H39'.out _ hr4s).mono ?_
  rintro e w5 ⟨rfl, hg5, hr5⟩
  have mD5 := Lib.hid ((hg5.block D (heap_lt mD4s.out) (by simpa using hDR)).trans mD4s.out)
  have mY5 := Lib.hid ((hg5.block w.heap.size (heap_lt mY4s.out) (by simpa using hYR)).trans mY4s.out)
  have q50 : w5.cell? ⟨D, 0, none⟩ = some (.int .i64 3) := cell_heap mD5.out 0
  have q54 : w5.cell? ⟨D, 4, none⟩ = some (.int .i64 0) := cell_heap mD5.out 4
  have df5 : ∀ i, w5.frozen? ⟨D, i, none⟩ = false := fun i => free_heap mD5.out i
  have hr5s := hr5.other hDR hDT hDB 4 (.int .i64 cols)
  have mD5s : Hid ((w5.setCell ⟨D, 4, none⟩ (.int .i64 cols)).heap[D]? = some (.cells (dcs 3 0 (bstr s) rows cols 0 0 0 0 0 ⟨#[]⟩ (.slice none 0 0)) 38 (0, 0))) := Lib.hid (set_heap mD5.out 4 _)
  have mY5s := Lib.hid ((Below.heap_setCell w5 ⟨D, 4, none⟩ (.int .i64 cols) _ (Ne.symm hDY)).trans mY5.out)
  have hg5s := gr_new (gr_trans hg4s hg5) (show w.heap.size ≤ D by omega) (p := ⟨D, 4, none⟩) (.int .i64 cols)
  have H40' := Lib.hid (H40.out D hDR.symm hDT.symm hDB _ hr5s mD5s.out)
  clear H40
  go_wp2_with fail
  refine H40'.out.mono ?_
  rintro e w6 ⟨hg6, ⟨hh, rfl⟩ | ⟨i, a, b, r5, hh, rfl, mD6, hr6⟩⟩
  · have hfin : Hid (Sp.decl m wd last r = .error 70) := Lib.hid (by rw [hw.out, hh])
    clear hh
    go_wp2_with fail
    exact ⟨rfl, Gr2.over hg5s hg6 hDw, .inl ⟨70, hfin.out, rfl⟩⟩
  · have hspec : Hid (Sp.decl m wd last r = if r5.ts ≠ [] then .error 70 else if 64 < deep Sp.nil then .error 2 else if r5.stop ≠ 0 then .error r5.stop else .ok (⟨3, 0, s, rows, cols, i, a, b, Sp.nil⟩, r5)) := Lib.hid (by rw [hw.out, hh])
    have mD6' := Lib.hid mD6
    clear hh mD6
    have hmD : Hid ((w6).heap[D]? = some (.cells (dcs 3 0 (bstr s) rows cols i a b 0 0 ⟨#[]⟩ (.slice none 0 0)) 38 (0, 0))) := Lib.hid mD6'.out
    have hmY := Lib.hid ((hg6.block _ (heap_lt mY5s.out) hYR (Ne.symm hDY)).trans mY5s.out)
    have hrt := Lib.hid hr6
    have hgt := Lib.hid (Gr2.over hg5s hg6 hDw)
    have hxt := Lib.hid (ExAt.leaf w6 (fun g => w.heap.size ≤ g ∧ g ≠ w.heap.size) 0 0)
    obtain ⟨Aw, cw, hcw, _⟩ := hrt.out.words
    have hst := (hrt.out.stop).1
    have a0 : (w6).cell? ⟨D, 0, none⟩ = some (.int .i64 3) := cell_heap hmD.out 0
    have a1 : (w6).cell? ⟨D, 1, none⟩ = some (.int .i64 0) := cell_heap hmD.out 1
    have a2 : (w6).cell? ⟨D, 2, none⟩ = some (.string (bstr s)) := cell_heap hmD.out 2
    have a3 : (w6).cell? ⟨D, 3, none⟩ = some (.int .i64 rows) := cell_heap hmD.out 3
    have a4 : (w6).cell? ⟨D, 4, none⟩ = some (.int .i64 cols) := cell_heap hmD.out 4
    have a5 : (w6).cell? ⟨D, 5, none⟩ = some (.int .i64 i) := cell_heap hmD.out 5
    have a6 : (w6).cell? ⟨D, 6, none⟩ = some (.int .i64 a) := cell_heap hmD.out 6
    have a7 : (w6).cell? ⟨D, 7, none⟩ = some (.int .i64 b) := cell_heap hmD.out 7
    have a8 : (w6).cell? ⟨D, 8, none⟩ = some (.int .i64 0) := cell_heap hmD.out 8
    have a9 : (w6).cell? ⟨D, 9, none⟩ = some (.int .i64 0) := cell_heap hmD.out 9
    have a10 : (w6).cell? ⟨D, 10, none⟩ = some (.string ⟨#[]⟩) := cell_heap hmD.out 10
    have a11 : (w6).cell? ⟨D, 11, none⟩ = some (.slice none 0 0) := cell_heap hmD.out 11
    by_cases hts : r5.ts = []
    · have hl0 : r5.ts.length = 0 := by rw [hts]; rfl
      rw [hl0] at hcw
      have hd6 : deep Sp.nil ≤ 1000000 := hdx
      have H42 := Lib.hid (deep_any (SizeOf.sizeOf Sp.nil) Sp.nil (Nat.le_refl _) _ _ _ _ _ _ _ _ hxt.out hd6)
      go_wp2_with fail
      refine H42.out.mono ?_
      rintro e w8 ⟨rfl, hb8⟩
      have st8 := cell_old hb8 hst
      have hm8 := Lib.hid ((hb8.block D (heap_lt hmD.out)).trans hmD.out)
      have hy8 := Lib.hid ((hb8.block w.heap.size (heap_lt hmY.out)).trans hmY.out)
      clear a0 a1 a2 a3 a4 a5 a6 a7 a8 a9 a10 a11 hcw hst
      by_cases hd : 64 < deep Sp.nil
      · have hfin : Hid (Sp.decl m wd last r = .error 2) := Lib.hid (by rw [hspec.out, if_neg (by simpa using hts), if_pos hd])
        go_wp2_with fail
        exact ⟨rfl, gr_trans hgt.out (gr_below hb8 _), .inl ⟨2, hfin.out, rfl⟩⟩
      · have hdle : deep Sp.nil ≤ 64 := by omega
        have hd' := Lib.hid hd
        clear hd
        by_cases hs0 : r5.stop = 0
        · have hfin : Hid (Sp.decl m wd last r = .ok (⟨3, 0, s, rows, cols, i, a, b, Sp.nil⟩, r5)) := Lib.hid (by rw [hspec.out, if_neg (by simpa using hts), if_neg hd'.out, if_neg (by simpa using hs0)])
          have hput := Lib.hid (row_step (x := Sp.nil) (ok := (fun g => w.heap.size ≤ g ∧ g ≠ w.heap.size)) (q1 := 0) (q2 := 0) (q3 := ⟨#[]⟩) (Y := w.heap.size) (dcs 3 0 (bstr s) rows cols i a b 0 0 ⟨#[]⟩ (.slice none 0 0)) (Nat.le_refl _) hRw hTw hBw (gr_trans hgt.out (gr_below hb8 _)) (hxt.out.old hb8) (fun g hg => hg.1) (fun h => h.2 rfl) (hrt.out.keep hb8))
          have hp12 := Lib.hid (setRow_heap w8 w.heap.size _ (dcs 3 0 (bstr s) rows cols i a b 0 0 ⟨#[]⟩ (.slice none 0 0)) 38 (0, 0) hy8.out)
          rw [hs0] at st8
          go_wp2_with (first | (refine wpList_load_row rfl 38 _ rfl D rfl 38 _ (0, 0) _ hm8.out und38 rfl info38s ?_) | (refine wpList_store_row rfl 38 _ _ rfl w.heap.size (dcs 3 0 (bstr s) rows cols i a b 0 0 ⟨#[]⟩ (.slice none 0 0)) rfl rfl 38 _ hy8.out info38s rfl (by simp [dcs, Value.oneCell']) ?_))
          exact bodyPost_ret (results38 (p := 4) rfl _ _ w.heap.size 3 0 (bstr s) rows cols i a b 0 0 ⟨#[]⟩ _ rfl hp12.out) rfl ⟨hput.out.1, .inr ⟨_, r5, _, _, _, _, _, _, hfin.out, rfl, hput.out.2.1, hput.out.2.2⟩⟩
        · have hfin : Hid (Sp.decl m wd last r = .error r5.stop) := Lib.hid (by rw [hspec.out, if_neg (by simpa using hts), if_neg hd'.out, if_pos hs0])
          have hs1 : (r5.stop == 0) = false := beq_eq_false_iff_ne.2 hs0
          have hs2 : (r5.stop != 0) = true := bne_iff_ne.2 hs0
          clear hs0
          go_wp2_with fail
          exact ⟨rfl, gr_trans hgt.out (gr_below hb8 _), .inl ⟨_, hfin.out, rfl⟩⟩
    · have hfin : Hid (Sp.decl m wd last r = .error 70) := Lib.hid (by rw [hspec.out, if_pos hts])
      have hl0 : 0 < r5.ts.length := List.length_pos_iff.2 hts
      clear hts
      go_wp2_with fail
      refine (syntax_any _ _).mono ?_
      rintro e w8 ⟨rfl, rfl⟩
      go_wp2_with fail
      exact ⟨rfl, hgt.out, .inl ⟨70, hfin.out, rfl⟩⟩
end Go.Proofs.YtdkhedefcmjjgaaGreatDoor
