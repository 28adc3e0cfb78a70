/- decl, walked: a line that declares. (Printed by gen_decl.py.)
Conditions: the numbers' contracts at the words of numbers that the line reads ('NumsAt'). -/
import Derived.Test.YtdkhedefcmjjgaaGreatDoorMDecl0
import Derived.Test.YtdkhedefcmjjgaaGreatDoorMDeclB
import Derived.Test.YtdkhedefcmjjgaaGreatDoorMDeclC
namespace Go.Proofs.YtdkhedefcmjjgaaGreatDoor
open Go.RowKit Sp
set_option linter.unusedSimpArgs false
set_option linter.unusedVariables false
set_option maxHeartbeats 4000000 in
theorem decl_4_is (m : Nums) (hm : ∀ s, m.whole s = wholeF s) (w0 : World) (R T : Nat) (wd last : Int) (hwd : wd = 32 ∨ wd = 64) (w : World) (r : RS) (hr : Rd w0 w R T wd r) (s0 : Bs) (r1 : RS) (h1 : Sp.next 110 r = some (s0, r1)) (hk : kindOf s0 = 4) (hbh : behind 4 last = true) (s : Bs) (r2 : RS) (h2 : Sp.name r1 = some (s, r2)) (h3 : Sp.next 61 r2 = none) :
    Calls Tryz.prog 20 #[.pointer (some ⟨R, 0, none⟩), .int .i64 last] w (DeclPost w0 R T wd w (Sp.decl m wd last r)) := by
  have hr0 := hr.keep ((Below.refl w.heap.size w).alloc (Nat.le_refl _) (.cells #[.int .i64 0, .int .i64 0, .string ⟨#[]⟩, .int .i64 0, .int .i64 0, .int .i64 0, .int .i64 0, .int .i64 0, .int .i64 0, .int .i64 0, .string ⟨#[]⟩, .slice none 0 0] 38))
  have hg0 : w.grownBy (w.alloc (.cells #[.int .i64 0, .int .i64 0, .string ⟨#[]⟩, .int .i64 0, .int .i64 0, .int .i64 0, .int .i64 0, .int .i64 0, .int .i64 0, .int .i64 0, .string ⟨#[]⟩, .slice none 0 0] 38)) (some R) := gr_alloc _ _ _
  have hRw := hr.lt
  have hTw := hr.ltT
  have hBw := hr.below.size
  have y0 : (w.alloc (.cells #[.int .i64 0, .int .i64 0, .string ⟨#[]⟩, .int .i64 0, .int .i64 0, .int .i64 0, .int .i64 0, .int .i64 0, .int .i64 0, .int .i64 0, .string ⟨#[]⟩, .slice none 0 0] 38)).heap[w.heap.size]? = some (.cells (dcs 0 0 ⟨#[]⟩ 0 0 0 0 0 0 0 ⟨#[]⟩ (.slice none 0 0)) 38 (0, 0)) := heap_alloc_new _ _
  have y0' := Lib.hid y0
  clear y0
  have H16 := Lib.hid (next_ok (k := 110) (kk := 110) hr0 rfl h1)
  have hb0 : (bstr s0).data.toList = s0 := by simp [bstr]
  have H37 : Hid (∀ W, Env W → Calls Tryz.prog 37 #[.string (bstr s0)] W fun e w' => e = .returned (.int .i64 4) ∧ Below W.heap.size W w') := Lib.hid (fun W hW => by
    have := kindOf_any (bstr s0) W hW.space
    rw [hb0, hk] at this
    exact this)
  have hfin : Hid (Sp.decl m wd last r = .error 70) := Lib.hid (by
    unfold Sp.decl; rw [h1]; dsimp only; rw [if_neg (by rw [hk, hbh]; decide), h2]; dsimp only; rw [hk]; unfold Sp.rest; rw [if_neg (by decide), if_pos rfl]; rw [h3])
  have H38 : Hid (∀ W, Calls Tryz.prog 38 #[.int .i64 4, .int .i64 last] W fun e w' => e = .returned (.bool true) ∧ W = w') := Lib.hid (fun W => by rw [← hbh]; exact behind_any 4 last W)
  have H18 : Hid (∀ W, Rd w0 W R T wd r1 → Calls Tryz.prog 18 #[.pointer (some ⟨R, 0, none⟩)] W fun e w' => e = .returned (.string (bstr s)) ∧ W.grownBy w' (some R) ∧ Rd w0 w' R T wd r2) := Lib.hid (fun W hW => name_ok hW h2)
  have H16n : Hid (∀ W, Rd w0 W R T wd r2 → Calls Tryz.prog 16 #[.pointer (some ⟨R, 0, none⟩), .int .u8 61] W fun e w' => e = .panicked (giv 70) ∧ W = w') := Lib.hid (fun W hW => next_no (k := 61) (kk := 61) hW rfl h3)
  clear h1 hk hb0 hbh h2 h3
  go_enter Tryz.func20, Tryz.ntmps20
  go_wp2_with fail
  refine H16.out.mono ?_
  rintro e w1 ⟨rfl, hg1, hr1⟩
  go_wp2_with fail
  refine (H37.out _ hr1.now).mono ?_
  rintro e w2 ⟨rfl, hb2⟩
  have hs1 := hg1.size
  have hs2 := hb2.size
  simp only [World.size_alloc] at hs1
  have hrD := (hr1.keep hb2).keep ((Below.refl _ _).alloc (Nat.le_refl _) (.cells #[.int .i64 4, .int .i64 0, .string ⟨#[]⟩, .int .i64 0, .int .i64 0, .int .i64 0, .int .i64 0, .int .i64 0, .int .i64 0, .int .i64 0, .string ⟨#[]⟩, .slice none 0 0] 38))
  have hgD : w.grownBy (w2.alloc (.cells #[.int .i64 4, .int .i64 0, .string ⟨#[]⟩, .int .i64 0, .int .i64 0, .int .i64 0, .int .i64 0, .int .i64 0, .int .i64 0, .int .i64 0, .string ⟨#[]⟩, .slice none 0 0] 38)) (some R) := gr_app (gr_trans (gr_trans hg0 hg1) (gr_below hb2 _)) _
  have mD : (w2.alloc (.cells #[.int .i64 4, .int .i64 0, .string ⟨#[]⟩, .int .i64 0, .int .i64 0, .int .i64 0, .int .i64 0, .int .i64 0, .int .i64 0, .int .i64 0, .string ⟨#[]⟩, .slice none 0 0] 38)).heap[w2.heap.size]? = some (.cells (dcs 4 0 ⟨#[]⟩ 0 0 0 0 0 0 0 ⟨#[]⟩ (.slice none 0 0)) 38 (0, 0)) := heap_alloc_new _ _
  have mD' := Lib.hid mD
  have mY : (w2.alloc (.cells #[.int .i64 4, .int .i64 0, .string ⟨#[]⟩, .int .i64 0, .int .i64 0, .int .i64 0, .int .i64 0, .int .i64 0, .int .i64 0, .int .i64 0, .string ⟨#[]⟩, .slice none 0 0] 38)).heap[w.heap.size]? = some (.cells (dcs 0 0 ⟨#[]⟩ 0 0 0 0 0 0 0 ⟨#[]⟩ (.slice none 0 0)) 38 (0, 0)) := (Below.heap_alloc _ _ _ (by omega)).trans ((hb2.block _ (by omega)).trans ((hg1.block _ (by simp) (by simp; omega)).trans y0'.out))
  have mY' := Lib.hid mY
  clear mD mY y0'
  go_wp2_with fail
  refine (H38.out _).mono ?_
  rintro e w3 ⟨rfl, rfl⟩
  go_wp2_with fail
  refine (H18.out _ hrD).mono ?_
  rintro e w3 ⟨rfl, hg3, hr3⟩
  have hs3 := hg3.size
  simp only [World.size_alloc] at hs3
  have hDR : w2.heap.size ≠ R := by omega
  have hDT : w2.heap.size ≠ T := by omega
  have hDB : w0.heap.size ≤ w2.heap.size := by omega
  have hDw : w.heap.size ≤ w2.heap.size := by omega
  have hDY : w2.heap.size ≠ w.heap.size := by omega
  have hYR : w.heap.size ≠ R := by omega
  have mD3 := Lib.hid ((hg3.block w2.heap.size (by simp) (by simpa using hDR)).trans mD'.out)
  have mY3 := Lib.hid ((hg3.block w.heap.size (by simp; omega) (by simpa using hYR)).trans mY'.out)
  have hgw3 := gr_trans hgD hg3
  generalize hDD : w2.heap.size = D at *
  have q32 : w3.cell? ⟨D, 2, none⟩ = some (.string ⟨#[]⟩) := cell_heap mD3.out 2
  have q30 : w3.cell? ⟨D, 0, none⟩ = some (.int .i64 4) := cell_heap mD3.out 0
  have df3 : ∀ i, w3.frozen? ⟨D, i, none⟩ = false := fun i => free_heap mD3.out i
  have hr3s := hr3.other hDR hDT hDB 2 (.string (bstr s))
  have mD3s : Hid ((w3.setCell ⟨D, 2, none⟩ (.string (bstr s))).heap[D]? = some (.cells (dcs 4 0 (bstr s) 0 0 0 0 0 0 0 ⟨#[]⟩ (.slice none 0 0)) 38 (0, 0))) := Lib.hid (set_heap mD3.out 2 (.string (bstr s)))
  have mY3s := Lib.hid ((Below.heap_setCell w3 ⟨D, 2, none⟩ (.string (bstr s)) _ (Ne.symm hDY)).trans mY3.out)
  have hg3s := gr_new hgw3 (show w.heap.size ≤ D by omega) (p := ⟨D, 2, none⟩) (.string (bstr s))
  go_wp2_with fail
  refine (H16n.out _ hr3s).mono ?_
  rintro e w9 ⟨rfl, rfl⟩
  go_wp2_with fail
  exact ⟨rfl, hg3s, .inl ⟨70, hfin.out, rfl⟩⟩
set_option maxHeartbeats 4000000 in
theorem decl_4 (m : Nums) (hm : ∀ s, m.whole s = wholeF s) (w0 : World) (R T : Nat) (wd last : Int) (hwd : wd = 32 ∨ wd = 64) (w : World) (r : RS) (hr : Rd w0 w R T wd r) (s0 : Bs) (r1 : RS) (h1 : Sp.next 110 r = some (s0, r1)) (hk : kindOf s0 = 4) (hbh : behind 4 last = true) (s : Bs) (r2 : RS) (h2 : Sp.name r1 = some (s, r2)) (s3 : Bs) (r3 : RS) (h3 : Sp.next 61 r2 = some (s3, r3)) (hl70 : r3.ts.length ≤ 70000) (hN : NumsAt m r3.ts) :
    Calls Tryz.prog 20 #[.pointer (some ⟨R, 0, none⟩), .int .i64 last] w (DeclPost w0 R T wd w (Sp.decl m wd last r)) := by
  have hr0 := hr.keep ((Below.refl w.heap.size w).alloc (Nat.le_refl _) (.cells #[.int .i64 0, .int .i64 0, .string ⟨#[]⟩, .int .i64 0, .int .i64 0, .int .i64 0, .int .i64 0, .int .i64 0, .int .i64 0, .int .i64 0, .string ⟨#[]⟩, .slice none 0 0] 38))
  have hg0 : w.grownBy (w.alloc (.cells #[.int .i64 0, .int .i64 0, .string ⟨#[]⟩, .int .i64 0, .int .i64 0, .int .i64 0, .int .i64 0, .int .i64 0, .int .i64 0, .int .i64 0, .string ⟨#[]⟩, .slice none 0 0] 38)) (some R) := gr_alloc _ _ _
  have hRw := hr.lt
  have hTw := hr.ltT
  have hBw := hr.below.size
  have y0 : (w.alloc (.cells #[.int .i64 0, .int .i64 0, .string ⟨#[]⟩, .int .i64 0, .int .i64 0, .int .i64 0, .int .i64 0, .int .i64 0, .int .i64 0, .int .i64 0, .string ⟨#[]⟩, .slice none 0 0] 38)).heap[w.heap.size]? = some (.cells (dcs 0 0 ⟨#[]⟩ 0 0 0 0 0 0 0 ⟨#[]⟩ (.slice none 0 0)) 38 (0, 0)) := heap_alloc_new _ _
  have y0' := Lib.hid y0
  clear y0
  have H16 := Lib.hid (next_ok (k := 110) (kk := 110) hr0 rfl h1)
  have hb0 : (bstr s0).data.toList = s0 := by simp [bstr]
  have H37 : Hid (∀ W, Env W → Calls Tryz.prog 37 #[.string (bstr s0)] W fun e w' => e = .returned (.int .i64 4) ∧ Below W.heap.size W w') := Lib.hid (fun W hW => by
    have := kindOf_any (bstr s0) W hW.space
    rw [hb0, hk] at this
    exact this)
  have H38 : Hid (∀ W, Calls Tryz.prog 38 #[.int .i64 4, .int .i64 last] W fun e w' => e = .returned (.bool true) ∧ W = w') := Lib.hid (fun W => by rw [← hbh]; exact behind_any 4 last W)
  have H18 : Hid (∀ W, Rd w0 W R T wd r1 → Calls Tryz.prog 18 #[.pointer (some ⟨R, 0, none⟩)] W fun e w' => e = .returned (.string (bstr s)) ∧ W.grownBy w' (some R) ∧ Rd w0 w' R T wd r2) := Lib.hid (fun W hW => name_ok hW h2)
  have H16' : Hid (∀ W, Rd w0 W R T wd r2 → Calls Tryz.prog 16 #[.pointer (some ⟨R, 0, none⟩), .int .u8 61] W fun e w' => e = .returned (.string (bstr s3)) ∧ W.grownBy w' (some R) ∧ Rd w0 w' R T wd r3) := Lib.hid (fun W hW => next_ok (k := 61) (kk := 61) hW rfl h3)
  have hw : Hid (Sp.decl m wd last r = match Sp.expr m wd r3 with | none => .error 70 | some (x, r5) => if r5.ts ≠ [] then .error 70 else if 64 < deep x then .error 2 else if r5.stop ≠ 0 then .error r5.stop else .ok (⟨4, 0, s, 0, 0, 0, 0, 0, x⟩, r5)) := Lib.hid (by
    unfold Sp.decl; rw [h1]; dsimp only; rw [if_neg (by rw [hk, hbh]; decide), h2]; dsimp only; rw [hk]; unfold Sp.rest; rw [if_neg (by decide), if_pos rfl]; rw [h3]; dsimp only; cases Sp.expr m wd r3 <;> rfl)
  have H41 := Lib.hid (fun W (hW : Rd w0 W R T wd r3) => expr_all m hm w0 R T wd hwd W r3 hW hN)
  have hshal := Lib.hid (expr_shallow m wd r3)
  have hl3 : r3.ts.length ≤ 70000 := hl70
  clear h1 hk hb0 hbh h2 h3
  go_enter Tryz.func20, Tryz.ntmps20
  go_wp2_with fail
  refine H16.out.mono ?_
  rintro e w1 ⟨rfl, hg1, hr1⟩
  go_wp2_with fail
  refine (H37.out _ hr1.now).mono ?_
  rintro e w2 ⟨rfl, hb2⟩
  have hs1 := hg1.size
  have hs2 := hb2.size
  simp only [World.size_alloc] at hs1
  have hrD := (hr1.keep hb2).keep ((Below.refl _ _).alloc (Nat.le_refl _) (.cells #[.int .i64 4, .int .i64 0, .string ⟨#[]⟩, .int .i64 0, .int .i64 0, .int .i64 0, .int .i64 0, .int .i64 0, .int .i64 0, .int .i64 0, .string ⟨#[]⟩, .slice none 0 0] 38))
  have hgD : w.grownBy (w2.alloc (.cells #[.int .i64 4, .int .i64 0, .string ⟨#[]⟩, .int .i64 0, .int .i64 0, .int .i64 0, .int .i64 0, .int .i64 0, .int .i64 0, .int .i64 0, .string ⟨#[]⟩, .slice none 0 0] 38)) (some R) := gr_app (gr_trans (gr_trans hg0 hg1) (gr_below hb2 _)) _
  have mD : (w2.alloc (.cells #[.int .i64 4, .int .i64 0, .string ⟨#[]⟩, .int .i64 0, .int .i64 0, .int .i64 0, .int .i64 0, .int .i64 0, .int .i64 0, .int .i64 0, .string ⟨#[]⟩, .slice none 0 0] 38)).heap[w2.heap.size]? = some (.cells (dcs 4 0 ⟨#[]⟩ 0 0 0 0 0 0 0 ⟨#[]⟩ (.slice none 0 0)) 38 (0, 0)) := heap_alloc_new _ _
  have mD' := Lib.hid mD
  have mY : (w2.alloc (.cells #[.int .i64 4, .int .i64 0, .string ⟨#[]⟩, .int .i64 0, .int .i64 0, .int .i64 0, .int .i64 0, .int .i64 0, .int .i64 0, .int .i64 0, .string ⟨#[]⟩, .slice none 0 0] 38)).heap[w.heap.size]? = some (.cells (dcs 0 0 ⟨#[]⟩ 0 0 0 0 0 0 0 ⟨#[]⟩ (.slice none 0 0)) 38 (0, 0)) := (Below.heap_alloc _ _ _ (by omega)).trans ((hb2.block _ (by omega)).trans ((hg1.block _ (by simp) (by simp; omega)).trans y0'.out))
  have mY' := Lib.hid mY
  clear mD mY y0'
  go_wp2_with fail
  refine (H38.out _).mono ?_
  rintro e w3 ⟨rfl, rfl⟩
  go_wp2_with fail
  refine (H18.out _ hrD).mono ?_
  rintro e w3 ⟨rfl, hg3, hr3⟩
  have hs3 := hg3.size
  simp only [World.size_alloc] at hs3
  have hDR : w2.heap.size ≠ R := by omega
  have hDT : w2.heap.size ≠ T := by omega
  have hDB : w0.heap.size ≤ w2.heap.size := by omega
  have hDw : w.heap.size ≤ w2.heap.size := by omega
  have hDY : w2.heap.size ≠ w.heap.size := by omega
  have hYR : w.heap.size ≠ R := by omega
  have mD3 := Lib.hid ((hg3.block w2.heap.size (by simp) (by simpa using hDR)).trans mD'.out)
  have mY3 := Lib.hid ((hg3.block w.heap.size (by simp; omega) (by simpa using hYR)).trans mY'.out)
  have hgw3 := gr_trans hgD hg3
  generalize hDD : w2.heap.size = D at *
  have q32 : w3.cell? ⟨D, 2, none⟩ = some (.string ⟨#[]⟩) := cell_heap mD3.out 2
  have q30 : w3.cell? ⟨D, 0, none⟩ = some (.int .i64 4) := cell_heap mD3.out 0
  have df3 : ∀ i, w3.frozen? ⟨D, i, none⟩ = false := fun i => free_heap mD3.out i
  have hr3s := hr3.other hDR hDT hDB 2 (.string (bstr s))
  have mD3s : Hid ((w3.setCell ⟨D, 2, none⟩ (.string (bstr s))).heap[D]? = some (.cells (dcs 4 0 (bstr s) 0 0 0 0 0 0 0 ⟨#[]⟩ (.slice none 0 0)) 38 (0, 0))) := Lib.hid (set_heap mD3.out 2 (.string (bstr s)))
  have mY3s := Lib.hid ((Below.heap_setCell w3 ⟨D, 2, none⟩ (.string (bstr s)) _ (Ne.symm hDY)).trans mY3.out)
  have hg3s := gr_new hgw3 (show w.heap.size ≤ D by omega) (p := ⟨D, 2, none⟩) (.string (bstr s))
  go_wp2_with fail
  refine (H16'.out _ hr3s).mono ?_
  rintro e w4 ⟨rfl, hg4, hr4⟩
  have mD4 := Lib.hid ((hg4.block D (heap_lt mD3s.out) (by simpa using hDR)).trans mD3s.out)
  have mY4 := Lib.hid ((hg4.block w.heap.size (heap_lt mY3s.out) (by simpa using hYR)).trans mY3s.out)
  have hDl4 := heap_lt mD4.out
  go_wp2_with fail
  refine (H41.out _ hr4).mono ?_
  rintro e w5 ⟨hg5, ⟨hh, rfl⟩ | ⟨x, r5, k, bits, en, A, n, c, hh, rfl, hx5, hr5⟩⟩
  · have hfin : Hid (Sp.decl m wd last r = .error 70) := Lib.hid (by rw [hw.out, hh])
    clear hh
    go_wp2_with fail
    exact ⟨rfl, gr_trans (gr_trans hg3s hg4) hg5, .inl ⟨70, hfin.out, rfl⟩⟩
  · have hspec : Hid (Sp.decl m wd last r = if r5.ts ≠ [] then .error 70 else if 64 < deep x then .error 2 else if r5.stop ≠ 0 then .error r5.stop else .ok (⟨4, 0, s, 0, 0, 0, 0, 0, x⟩, r5)) := Lib.hid (by rw [hw.out, hh])
    have hdx : deep x ≤ 1000000 := by have := hshal.out x r5 hh; omega
    have mD5 := Lib.hid ((hg5.block D (heap_lt mD4.out) (by simpa using hDR)).trans mD4.out)
    have mY5 := Lib.hid ((hg5.block w.heap.size (heap_lt mY4.out) (by simpa using hYR)).trans mY4.out)
    have q8 : w5.cell? ⟨D, 8, none⟩ = some (.int .i64 0) := cell_heap mD5.out 8
    have q9 : w5.cell? ⟨D, 9, none⟩ = some (.int .i64 0) := cell_heap mD5.out 9
    have q10 : w5.cell? ⟨D, 10, none⟩ = some (.string ⟨#[]⟩) := cell_heap mD5.out 10
    have q11 : w5.cell? ⟨D, 11, none⟩ = some (.slice none 0 0) := cell_heap mD5.out 11
    have df5 : ∀ i, w5.frozen? ⟨D, i, none⟩ = false := fun i => free_heap mD5.out i
    have h45 := hg4.size
    have hx6 : ExAt w5 (fun g => (w.heap.size ≤ g ∧ g ≠ w.heap.size) ∧ g ≠ D) x [.int .i64 k, .int .i64 bits, .string en, .slice A n c] := hx5.mono fun g hg _ => by
      have hg : w4.heap.size ≤ g := hg
      have := heap_lt mY4.out
      exact ⟨⟨by omega, by omega⟩, by omega⟩
    have hnD : ¬ (fun g => (w.heap.size ≤ g ∧ g ≠ w.heap.size) ∧ g ≠ D) D := fun h => h.2 rfl
    have mY6 := ((Below.heap_setCell ((((w5.setCell ⟨D, 8, none⟩ (.int .i64 k)).setCell ⟨D, 9, none⟩ (.int .i64 bits)).setCell ⟨D, 10, none⟩ (.string en))) ⟨D, 11, none⟩ (.slice A n c) _ (Ne.symm hDY)).trans ((Below.heap_setCell (((w5.setCell ⟨D, 8, none⟩ (.int .i64 k)).setCell ⟨D, 9, none⟩ (.int .i64 bits))) ⟨D, 10, none⟩ (.string en) _ (Ne.symm hDY)).trans ((Below.heap_setCell ((w5.setCell ⟨D, 8, none⟩ (.int .i64 k))) ⟨D, 9, none⟩ (.int .i64 bits) _ (Ne.symm hDY)).trans ((Below.heap_setCell w5 ⟨D, 8, none⟩ (.int .i64 k) _ (Ne.symm hDY)).trans mY5.out))))
    have mY6' := Lib.hid mY6
    have hx7 := Lib.hid (((((hx6.other hnD 8 (.int .i64 k)).other hnD 9 (.int .i64 bits)).other hnD 10 (.string en)).other hnD 11 (.slice A n c)).mono fun g hg _ => hg.1)
    clear hh mY6 hx6 hx5
    have hmD : Hid (((((w5.setCell ⟨D, 8, none⟩ (.int .i64 k)).setCell ⟨D, 9, none⟩ (.int .i64 bits)).setCell ⟨D, 10, none⟩ (.string en)).setCell ⟨D, 11, none⟩ (.slice A n c)).heap[D]? = some (.cells (dcs 4 0 (bstr s) 0 0 0 0 0 k bits en (.slice A n c)) 38 (0, 0))) := Lib.hid (set_heap (set_heap (set_heap (set_heap mD5.out 8 _) 9 _) 10 _) 11 _)
    have hmY := Lib.hid mY6'.out
    have hrt := Lib.hid ((((hr5.other hDR hDT hDB 8 (.int .i64 k)).other hDR hDT hDB 9 (.int .i64 bits)).other hDR hDT hDB 10 (.string en)).other hDR hDT hDB 11 (.slice A n c))
    have hgt := Lib.hid (gr_new (gr_new (gr_new (gr_new (gr_trans (gr_trans hg3s hg4) hg5) hDw (p := ⟨D, 8, none⟩) (.int .i64 k)) hDw (p := ⟨D, 9, none⟩) (.int .i64 bits)) hDw (p := ⟨D, 10, none⟩) (.string en)) hDw (p := ⟨D, 11, none⟩) (.slice A n c))
    have hxt := Lib.hid hx7.out
    obtain ⟨Aw, cw, hcw, _⟩ := hrt.out.words
    have hst := (hrt.out.stop).1
    have a0 : ((((w5.setCell ⟨D, 8, none⟩ (.int .i64 k)).setCell ⟨D, 9, none⟩ (.int .i64 bits)).setCell ⟨D, 10, none⟩ (.string en)).setCell ⟨D, 11, none⟩ (.slice A n c)).cell? ⟨D, 0, none⟩ = some (.int .i64 4) := cell_heap hmD.out 0
    have a1 : ((((w5.setCell ⟨D, 8, none⟩ (.int .i64 k)).setCell ⟨D, 9, none⟩ (.int .i64 bits)).setCell ⟨D, 10, none⟩ (.string en)).setCell ⟨D, 11, none⟩ (.slice A n c)).cell? ⟨D, 1, none⟩ = some (.int .i64 0) := cell_heap hmD.out 1
    have a2 : ((((w5.setCell ⟨D, 8, none⟩ (.int .i64 k)).setCell ⟨D, 9, none⟩ (.int .i64 bits)).setCell ⟨D, 10, none⟩ (.string en)).setCell ⟨D, 11, none⟩ (.slice A n c)).cell? ⟨D, 2, none⟩ = some (.string (bstr s)) := cell_heap hmD.out 2
    have a3 : ((((w5.setCell ⟨D, 8, none⟩ (.int .i64 k)).setCell ⟨D, 9, none⟩ (.int .i64 bits)).setCell ⟨D, 10, none⟩ (.string en)).setCell ⟨D, 11, none⟩ (.slice A n c)).cell? ⟨D, 3, none⟩ = some (.int .i64 0) := cell_heap hmD.out 3
    have a4 : ((((w5.setCell ⟨D, 8, none⟩ (.int .i64 k)).setCell ⟨D, 9, none⟩ (.int .i64 bits)).setCell ⟨D, 10, none⟩ (.string en)).setCell ⟨D, 11, none⟩ (.slice A n c)).cell? ⟨D, 4, none⟩ = some (.int .i64 0) := cell_heap hmD.out 4
    have a5 : ((((w5.setCell ⟨D, 8, none⟩ (.int .i64 k)).setCell ⟨D, 9, none⟩ (.int .i64 bits)).setCell ⟨D, 10, none⟩ (.string en)).setCell ⟨D, 11, none⟩ (.slice A n c)).cell? ⟨D, 5, none⟩ = some (.int .i64 0) := cell_heap hmD.out 5
    have a6 : ((((w5.setCell ⟨D, 8, none⟩ (.int .i64 k)).setCell ⟨D, 9, none⟩ (.int .i64 bits)).setCell ⟨D, 10, none⟩ (.string en)).setCell ⟨D, 11, none⟩ (.slice A n c)).cell? ⟨D, 6, none⟩ = some (.int .i64 0) := cell_heap hmD.out 6
    have a7 : ((((w5.setCell ⟨D, 8, none⟩ (.int .i64 k)).setCell ⟨D, 9, none⟩ (.int .i64 bits)).setCell ⟨D, 10, none⟩ (.string en)).setCell ⟨D, 11, none⟩ (.slice A n c)).cell? ⟨D, 7, none⟩ = some (.int .i64 0) := cell_heap hmD.out 7
    have a8 : ((((w5.setCell ⟨D, 8, none⟩ (.int .i64 k)).setCell ⟨D, 9, none⟩ (.int .i64 bits)).setCell ⟨D, 10, none⟩ (.string en)).setCell ⟨D, 11, none⟩ (.slice A n c)).cell? ⟨D, 8, none⟩ = some (.int .i64 k) := cell_heap hmD.out 8
    have a9 : ((((w5.setCell ⟨D, 8, none⟩ (.int .i64 k)).setCell ⟨D, 9, none⟩ (.int .i64 bits)).setCell ⟨D, 10, none⟩ (.string en)).setCell ⟨D, 11, none⟩ (.slice A n c)).cell? ⟨D, 9, none⟩ = some (.int .i64 bits) := cell_heap hmD.out 9
    have a10 : ((((w5.setCell ⟨D, 8, none⟩ (.int .i64 k)).setCell ⟨D, 9, none⟩ (.int .i64 bits)).setCell ⟨D, 10, none⟩ (.string en)).setCell ⟨D, 11, none⟩ (.slice A n c)).cell? ⟨D, 10, none⟩ = some (.string en) := cell_heap hmD.out 10
    have a11 : ((((w5.setCell ⟨D, 8, none⟩ (.int .i64 k)).setCell ⟨D, 9, none⟩ (.int .i64 bits)).setCell ⟨D, 10, none⟩ (.string en)).setCell ⟨D, 11, none⟩ (.slice A n c)).cell? ⟨D, 11, none⟩ = some (.slice A n c) := cell_heap hmD.out 11
    by_cases hts : r5.ts = []
    · have hl0 : r5.ts.length = 0 := by rw [hts]; rfl
      rw [hl0] at hcw
      have hd6 : deep x ≤ 1000000 := hdx
      have H42 := Lib.hid (deep_any (SizeOf.sizeOf x) x (Nat.le_refl _) _ _ _ _ _ _ _ _ hxt.out hd6)
      go_wp2_with fail
      refine H42.out.mono ?_
      rintro e w8 ⟨rfl, hb8⟩
      have st8 := cell_old hb8 hst
      have hm8 := Lib.hid ((hb8.block D (heap_lt hmD.out)).trans hmD.out)
      have hy8 := Lib.hid ((hb8.block w.heap.size (heap_lt hmY.out)).trans hmY.out)
      clear a0 a1 a2 a3 a4 a5 a6 a7 a8 a9 a10 a11 hcw hst q8 q9 q10 q11 df5 hnD
      by_cases hd : 64 < deep x
      · have hfin : Hid (Sp.decl m wd last r = .error 2) := Lib.hid (by rw [hspec.out, if_neg (by simpa using hts), if_pos hd])
        go_wp2_with fail
        exact ⟨rfl, gr_trans hgt.out (gr_below hb8 _), .inl ⟨2, hfin.out, rfl⟩⟩
      · have hdle : deep x ≤ 64 := by omega
        have hd' := Lib.hid hd
        clear hd
        by_cases hs0 : r5.stop = 0
        · have hfin : Hid (Sp.decl m wd last r = .ok (⟨4, 0, s, 0, 0, 0, 0, 0, x⟩, r5)) := Lib.hid (by rw [hspec.out, if_neg (by simpa using hts), if_neg hd'.out, if_neg (by simpa using hs0)])
          have hput := Lib.hid (row_step (x := x) (ok := (fun g => w.heap.size ≤ g ∧ g ≠ w.heap.size)) (q1 := k) (q2 := bits) (q3 := en) (Y := w.heap.size) (dcs 4 0 (bstr s) 0 0 0 0 0 k bits en (.slice A n c)) (Nat.le_refl _) hRw hTw hBw (gr_trans hgt.out (gr_below hb8 _)) (hxt.out.old hb8) (fun g hg => hg.1) (fun h => h.2 rfl) (hrt.out.keep hb8))
          have hp12 := Lib.hid (setRow_heap w8 w.heap.size _ (dcs 4 0 (bstr s) 0 0 0 0 0 k bits en (.slice A n c)) 38 (0, 0) hy8.out)
          rw [hs0] at st8
          clear hx7 hmD hmY mD5 mY5 mD4 mY4 mY6' hrt hxt mD3 mY3 mD3s mY3s
          go_wp2_with (first | (refine wpList_load_row rfl 38 _ rfl D rfl 38 _ (0, 0) _ hm8.out und38 rfl info38s ?_) | (refine wpList_store_row rfl 38 _ _ rfl w.heap.size (dcs 4 0 (bstr s) 0 0 0 0 0 k bits en (.slice A n c)) rfl rfl 38 _ hy8.out info38s rfl (by simp [dcs, Value.oneCell']) ?_))
          exact bodyPost_ret (results38 (p := 4) rfl _ _ w.heap.size 4 0 (bstr s) 0 0 0 0 0 k bits en _ rfl hp12.out) rfl ⟨hput.out.1, .inr ⟨_, r5, _, _, _, _, _, _, hfin.out, rfl, hput.out.2.1, hput.out.2.2⟩⟩
        · have hfin : Hid (Sp.decl m wd last r = .error r5.stop) := Lib.hid (by rw [hspec.out, if_neg (by simpa using hts), if_neg hd'.out, if_pos hs0])
          have hs1 : (r5.stop == 0) = false := beq_eq_false_iff_ne.2 hs0
          have hs2 : (r5.stop != 0) = true := bne_iff_ne.2 hs0
          clear hs0
          clear hx7 hmD hmY mD5 mY5 mD4 mY4 mY6' hrt hxt mD3 mY3 mD3s mY3s hm8 hy8
          go_wp2_with fail
          exact ⟨rfl, gr_trans hgt.out (gr_below hb8 _), .inl ⟨_, hfin.out, rfl⟩⟩
    · have hfin : Hid (Sp.decl m wd last r = .error 70) := Lib.hid (by rw [hspec.out, if_pos hts])
      have hl0 : 0 < r5.ts.length := List.length_pos_iff.2 hts
      clear hts
      go_wp2_with fail
      refine (syntax_any _ _).mono ?_
      rintro e w8 ⟨rfl, rfl⟩
      go_wp2_with fail
      exact ⟨rfl, hgt.out, .inl ⟨70, hfin.out, rfl⟩⟩
end Go.Proofs.YtdkhedefcmjjgaaGreatDoor
/- decl: joined from its kinds.
Conditions: the numbers' contracts at the words of numbers that the line reads. -/
namespace Go.Proofs.YtdkhedefcmjjgaaGreatDoor
open Go.RowKit Sp
set_option linter.unusedSimpArgs false
set_option linter.unusedVariables false
theorem name_mem {s : Bs} {r r' : RS} (h : Sp.name r = some (s, r')) : ∃ t, r.ts = t :: r'.ts := by
  unfold Sp.name at h
  split at h
  · cases h
  · rename_i s1 r1 h1
    split at h
    · simp only [Option.some.injEq, Prod.mk.injEq] at h
      obtain ⟨_, rfl⟩ := h
      obtain ⟨t, e, _⟩ := next_mem h1
      exact ⟨t, e⟩
    · cases h
theorem wholeR_mem {m : Nums} {n : Int} {r r' : RS} (h : Sp.wholeR m r = some (n, r')) : ∃ t, r.ts = t :: r'.ts := by
  unfold Sp.wholeR at h
  split at h
  · cases h
  · rename_i s1 r1 h1
    split at h
    · simp only [Option.some.injEq, Prod.mk.injEq] at h
      obtain ⟨_, rfl⟩ := h
      obtain ⟨t, e, _⟩ := next_mem h1
      exact ⟨t, e⟩
    · cases h
theorem kindOf_range (s : Bs) : kindOf s = 0 ∨ kindOf s = 1 ∨ kindOf s = 2 ∨ kindOf s = 3 ∨ kindOf s = 4 ∨ kindOf s = 5 ∨ kindOf s = 6 := by
  unfold kindOf
  split
  · exact .inl rfl
  · rename_i i h
    have hl : i < 6 := by
      have := List.findIdx?_eq_some_iff_getElem.1 h
      obtain ⟨hi, _⟩ := this
      simpa [kindWords] using hi
    omega
/-- The words whose numbers a line that declares may read: those behind 'let NAME =', those behind 'param NAME ROWS COLS'. -/
def LateNums (m : Nums) (ts : List Tok) : Prop := ∀ t l, ts = t :: l → (kindOf t.text = 4 → NumsAt m (ts.drop 3)) ∧ (kindOf t.text = 3 → NumsAt m (ts.drop 4))
theorem decl_any (m : Nums) (hm : ∀ s, m.whole s = wholeF s) (w0 : World) (R T : Nat) (wd last : Int) (hwd : wd = 32 ∨ wd = 64) (w : World) (r : RS) (hr : Rd w0 w R T wd r) (hN : LateNums m r.ts) :
    Calls Tryz.prog 20 #[.pointer (some ⟨R, 0, none⟩), .int .i64 last] w (DeclPost w0 R T wd w (Sp.decl m wd last r)) := by
  cases h1 : Sp.next 110 r with
  | none => exact decl_no m hm w0 R T wd last hwd w r hr h1
  | some p =>
    obtain ⟨s0, r1⟩ := p
    obtain ⟨t0, e0, et0, _⟩ := next_mem h1
    have hN0 := hN t0 r1.ts e0
    rw [et0] at hN0
    by_cases hk0 : kindOf s0 = 0
    · exact decl_kind0 m hm w0 R T wd last hwd w r hr s0 r1 h1 hk0
    · cases hbh : behind (kindOf s0) last with
      | false => exact decl_behind m hm w0 R T wd last hwd w r hr s0 r1 h1 _ rfl hk0 hbh
      | true =>
        cases h2 : Sp.name r1 with
        | none => exact decl_name m hm w0 R T wd last hwd w r hr s0 r1 h1 _ rfl hk0 hbh h2
        | some p =>
          obtain ⟨s, r2⟩ := p
          obtain ⟨t1, e1⟩ := name_mem h2
          have whole2 : ∀ k : Int, kindOf s0 = k → (Sp.wholeR m r2 = none → Calls Tryz.prog 20 #[.pointer (some ⟨R, 0, none⟩), .int .i64 last] w (DeclPost w0 R T wd w (Sp.decl m wd last r))) → (∀ rows r3, Sp.wholeR m r2 = some (rows, r3) → Sp.wholeR m r3 = none → Calls Tryz.prog 20 #[.pointer (some ⟨R, 0, none⟩), .int .i64 last] w (DeclPost w0 R T wd w (Sp.decl m wd last r))) → (∀ rows r3 cols r4, Sp.wholeR m r2 = some (rows, r3) → Sp.wholeR m r3 = some (cols, r4) → Calls Tryz.prog 20 #[.pointer (some ⟨R, 0, none⟩), .int .i64 last] w (DeclPost w0 R T wd w (Sp.decl m wd last r))) → Calls Tryz.prog 20 #[.pointer (some ⟨R, 0, none⟩), .int .i64 last] w (DeclPost w0 R T wd w (Sp.decl m wd last r)) := fun k _ f1 f2 f3 => by
            cases h3 : Sp.wholeR m r2 with
            | none => exact f1 h3
            | some p => cases h4 : Sp.wholeR m p.2 with
              | none => exact f2 p.1 p.2 h3 h4
              | some q => exact f3 p.1 p.2 q.1 q.2 h3 h4
          rcases kindOf_range s0 with hk | hk | hk | hk | hk | hk | hk
          · exact absurd hk hk0
          · rw [hk] at hbh
            exact whole2 1 hk (fun h3 => decl_1_rows m hm w0 R T wd last hwd w r hr s0 r1 h1 hk hbh s r2 h2 h3) (fun rows r3 h3 h4 => decl_1_cols m hm w0 R T wd last hwd w r hr s0 r1 h1 hk hbh s r2 h2 rows r3 h3 h4) (fun rows r3 cols r4 h3 h4 => decl_1 m hm w0 R T wd last hwd w r hr s0 r1 h1 hk hbh s r2 h2 rows r3 h3 cols r4 h4)
          · rw [hk] at hbh
            exact whole2 2 hk (fun h3 => decl_2_rows m hm w0 R T wd last hwd w r hr s0 r1 h1 hk hbh s r2 h2 h3) (fun rows r3 h3 h4 => decl_2_cols m hm w0 R T wd last hwd w r hr s0 r1 h1 hk hbh s r2 h2 rows r3 h3 h4) (fun rows r3 cols r4 h3 h4 => decl_2 m hm w0 R T wd last hwd w r hr s0 r1 h1 hk hbh s r2 h2 rows r3 h3 cols r4 h4)
          · rw [hk] at hbh
            exact whole2 3 hk (fun h3 => decl_3_rows m hm w0 R T wd last hwd w r hr s0 r1 h1 hk hbh s r2 h2 h3) (fun rows r3 h3 h4 => decl_3_cols m hm w0 R T wd last hwd w r hr s0 r1 h1 hk hbh s r2 h2 rows r3 h3 h4) (fun rows r3 cols r4 h3 h4 => decl_3 m hm w0 R T wd last hwd w r hr s0 r1 h1 hk hbh s r2 h2 rows r3 h3 cols r4 h4 (by
              obtain ⟨t2, e2⟩ := wholeR_mem h3
              obtain ⟨t3, e3⟩ := wholeR_mem h4
              have := hN0.2 hk
              rw [e0, e1, e2, e3] at this
              exact this))
          · rw [hk] at hbh
            cases h3 : Sp.next 61 r2 with
            | none => exact decl_4_is m hm w0 R T wd last hwd w r hr s0 r1 h1 hk hbh s r2 h2 h3
            | some p =>
              obtain ⟨t2, e2, _⟩ := next_mem h3
              refine decl_4 m hm w0 R T wd last hwd w r hr s0 r1 h1 hk hbh s r2 h2 p.1 p.2 h3 ?_ ?_
              · have := hr.ok.1
                rw [e0, e1, e2] at this
                simp at this; omega
              · have := hN0.1 hk
                rw [e0, e1, e2] at this
                exact this
          · rw [hk] at hbh
            exact decl_5 m hm w0 R T wd last hwd w r hr s0 r1 h1 hk hbh s r2 h2
          · rw [hk] at hbh
            exact decl_6 m hm w0 R T wd last hwd w r hr s0 r1 h1 hk hbh s r2 h2
end Go.Proofs.YtdkhedefcmjjgaaGreatDoor
