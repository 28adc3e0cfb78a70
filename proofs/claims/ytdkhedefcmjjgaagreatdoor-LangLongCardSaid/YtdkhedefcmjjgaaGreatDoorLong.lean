/- LangLong, walked.
Conditions: what the library's variables hold. -/
import Derived.Test.YtdkhedefcmjjgaaGreatDoorLong1
import Derived.Test.YtdkhedefcmjjgaaGreatDoorAlive
import Derived.Laws.BytesArg
import Derived.Laws.MakeOwn
namespace Go.Proofs.YtdkhedefcmjjgaaGreatDoor
open Go.RowKit Sp
set_option linter.unusedVariables false
set_option linter.unusedSimpArgs false
theorem bstr_app (a b : Bs) : bstr a ++ bstr b = bstr (a ++ b) := by
  apply ByteArray.ext
  rw [ByteArray.data_append]
  simp [bstr]
theorem under32 : Tryz.prog.underlying 32 = some (.slice 5) := by kernel_rfl
theorem under5 : Tryz.prog.underlying 5 = some (.int .u8) := by kernel_rfl
theorem info5z : (Tryz.prog.info? 5).map (fun i => (i.zero, i.size, i.bytes)) = some (some (.int .u8 0), 1, 1) := by kernel_rfl
/-- Bytes that are being laid. -/
structure Fill (w1 : World) (n j : Nat) (wr : World) : Prop where
  cells : ∃ cs : Array Value, wr.heap[w1.heap.size]? = some (.cells cs 5 (0, 0)) ∧ cs.size = n ∧ ∀ i, i < j → cs[i]? = some (.int .u8 35)
  bel : Below w1.heap.size w1 wr
theorem Fill.start (w1 : World) (n : Nat) (cs : Array Value) (h : cs.size = n) : Fill w1 n 0 (w1.alloc (.cells cs 5)) :=
  ⟨⟨cs, heap_alloc_new _ _, h, fun i hi => absurd hi (Nat.not_lt_zero i)⟩, (Below.refl _ _).alloc (Nat.le_refl _) _⟩
theorem Fill.step {w1 : World} {n j : Nat} {wr : World} (h : Fill w1 n j wr) (hj : j < n) : Fill w1 n (j + 1) (wr.setCell ⟨w1.heap.size, j, none⟩ (.int .u8 35)) := by
  obtain ⟨cs, h1, h2, h3⟩ := h.cells
  refine ⟨⟨_, set_heap h1 j _, by simpa using h2, fun i hi => ?_⟩, h.bel.setCell (p := ⟨w1.heap.size, j, none⟩) (Nat.le_refl _) _⟩
  by_cases e : i = j
  · subst e
    simp [h2, hj]
  · rw [Array.getElem?_setIfInBounds_ne (Ne.symm e)]
    exact h3 i (by omega)
theorem Fill.cell {w1 : World} {n j : Nat} {wr : World} (h : Fill w1 n j wr) (i : Nat) (hi : i < n) : (∃ u, wr.cell? ⟨w1.heap.size, i, none⟩ = some u) ∧ wr.frozen? ⟨w1.heap.size, i, none⟩ = false := by
  obtain ⟨cs, h1, h2, h3⟩ := h.cells
  refine ⟨⟨cs[i]'(by omega), ?_⟩, free_heap h1 i⟩
  rw [cell_heap h1]
  exact Array.getElem?_eq_getElem (by omega)
theorem run_make32 (c : Int) (n : Nat) (hc : c = n) (hn : n ≤ 70000) (W : World) : ∃ cs : Array Value, cs.size = n ∧ (Instr.makeSlice 32 (.int .i64 c) (.int .i64 c)).run Tryz.prog W = .ok (.slice (some ⟨W.heap.size, 0, none⟩) n n) (W.alloc (.cells cs 5)) := by
  obtain ⟨i0, hi0, hz0, hz1, hz2⟩ := info_parts info5z
  have := run_make W 32 5 i0 _ under32 hi0 hz0 .i64 .i64 c c (by omega) (Int.le_refl _) (by rw [hz2]; omega) (by omega)
  subst hc
  rw [Int.toNat_natCast] at this
  exact ⟨_, by simp [madeCells, hz1], this⟩
/-- What Read hands back, in the walk's words. -/
theorem read_slice {m : Nums} {t : Bs} {W : World} {e : Ending} {w' : World} {md : Md} {ln er : Int} (h : ReadPost m t W e w') (hr : Sp.read m t = (md, ln, er)) : ∃ A c, e = .returned (.tuple #[.agg #[.string (bstr md.name), .int .i64 md.width, .slice A md.decls.length c], .int .i64 ln, .int .i64 er]) ∧ Below W.heap.size W w' := by
  obtain ⟨hb, v, he, cs, ho, hd⟩ := h
  rw [hr] at he ho
  simp only at he ho
  rcases ho.2 with ⟨rfl, h0⟩ | ⟨g, cap, cur, rfl, _⟩
  · exact ⟨none, 0, by rw [he, h0], hb⟩
  · exact ⟨_, _, he, hb⟩
theorem t1_str (n : Nat) : bstr smallB ++ bstr (rep n) ++ bstr [10] = bstr (t1 n) := by rw [bstr_app, bstr_app]; rfl
theorem t2_str (k : Nat) : bstr headB ++ bstr (xs k) ++ bstr tailB = bstr (t2 k) := by rw [bstr_app, bstr_app]; rfl
theorem xs_step (k : Nat) : bstr [45, 40] ++ bstr (xs k) ++ bstr [41] = bstr (xs (k + 1)) := by rw [bstr_app, bstr_app]; rfl
theorem read_t1_long (n : Nat) (h : 65536 < 73 + n) (hn : n ≤ 70000) (W : World) (hE : Env W) : Calls Tryz.prog 6 #[.string (bstr smallB ++ bstr (rep n) ++ bstr [10])] W fun e w' => ∃ A c, e = .returned (.tuple #[.agg #[.string (bstr []), .int .i64 0, .slice A 0 c], .int .i64 0, .int .i64 2]) ∧ Below W.heap.size W w' := by
  rw [t1_str]
  refine (read_any m0 (fun _ => rfl) (t1 n) W (by rw [t1_len]; omega) hE (fun h' => absurd h' (by rw [t1_len]; omega)) (fun h' => absurd h' (by rw [t1_len]; omega))).mono (fun e w' h' => ?_)
  exact read_slice h' (t1_read_long n h)
theorem read_t1_ok (n : Nat) (h0 : 0 < n) (h : 73 + n ≤ 65536) (W : World) (hE : Env W) : Calls Tryz.prog 6 #[.string (bstr smallB ++ bstr (rep n) ++ bstr [10])] W fun e w' => ∃ nm wd A c, e = .returned (.tuple #[.agg #[.string nm, .int .i64 wd, .slice A 4 c], .int .i64 0, .int .i64 0]) ∧ Below W.heap.size W w' := by
  rw [t1_str]
  refine (read_any m0 (fun _ => rfl) (t1 n) W (by rw [t1_len]; omega) hE (fun _ => t1_scanC n (by omega)) (fun _ => t1_late n h0)).mono (fun e w' h' => ?_)
  obtain ⟨A, c, he, hb⟩ := read_slice h' (t1_read n h0 h)
  rw [show (⟨sF.name, sF.width, sF.decls⟩ : Md).decls.length = 4 from sF_len] at he
  exact ⟨_, _, A, c, he, hb⟩
theorem read_t2_deep (k : Nat) (h : 64 < k) (hk : k ≤ 200) (W : World) (hE : Env W) : Calls Tryz.prog 6 #[.string (bstr headB ++ bstr (xs k) ++ bstr tailB)] W fun e w' => ∃ A c, e = .returned (.tuple #[.agg #[.string (bstr []), .int .i64 0, .slice A 0 c], .int .i64 4, .int .i64 2]) ∧ Below W.heap.size W w' := by
  rw [t2_str]
  refine (read_any m0 (fun _ => rfl) (t2 k) W (by rw [t2_len]; omega) hE (fun _ => t2_scanC k hk) (fun _ => t2_late k)).mono (fun e w' h' => ?_)
  exact read_slice h' (t2_read_deep k h hk)
theorem read_t2_ok (k : Nat) (h : k ≤ 64) (W : World) (hE : Env W) : Calls Tryz.prog 6 #[.string (bstr headB ++ bstr (xs k) ++ bstr tailB)] W fun e w' => ∃ nm wd A c, e = .returned (.tuple #[.agg #[.string nm, .int .i64 wd, .slice A 3 c], .int .i64 0, .int .i64 0]) ∧ Below W.heap.size W w' := by
  rw [t2_str]
  refine (read_any m0 (fun _ => rfl) (t2 k) W (by rw [t2_len]; omega) hE (fun _ => t2_scanC k (by omega)) (fun _ => t2_late k)).mono (fun e w' h' => ?_)
  obtain ⟨md, hr, hl⟩ := t2_read_ok k h
  obtain ⟨A, c, he, hb⟩ := read_slice h' hr
  rw [hl] at he
  exact ⟨_, _, A, c, he, hb⟩
def HeldW (w wr : World) : Prop := Below w.heap.size w wr
set_option maxRecDepth 100000 in
set_option maxHeartbeats 4000000 in
theorem langLong_in (b : Int) (n d : Nat) (hb : b = (n : Int) + 73) (hn1 : 127 ≤ n) (hn2 : n ≤ 69927) (hd : d ≤ 200) (w : World) (hE : Env w) : Calls Tryz.prog 4 #[.int .i64 b, .int .i64 d] w fun e w' => e = .returned (.bool true) ∧ Below w.heap.size w w' := by
  have H5 := Lib.hid (alive_any w hE)
  have H7 : Hid (∀ (n : Int) (W : World), Calls Tryz.prog 7 #[.int .i64 n] W fun e w' => e = .returned (.int .i64 n) ∧ W = w') := Lib.hid num_any
  have HE := Lib.hid hE
  have Hb := Lib.hid hb
  have b1 : decide (b < 200) = false := decide_eq_false (by omega)
  have b2 : decide (70000 < b) = false := decide_eq_false (by omega)
  have b3 : decide ((d : Int) < 0) = false := decide_eq_false (by omega)
  have b4 : decide (200 < (d : Int)) = false := decide_eq_false (by omega)
  have c1 : 200 ≤ b := by omega
  have c2 : b ≤ 70000 := by omega
  clear hE hb
  go_enter Tryz.func4, Tryz.ntmps4
  go_wp2_with fail
  refine H5.out.mono ?_
  rintro e w1 ⟨rfl, hb1⟩
  have HB1 := Lib.hid hb1
  clear hb1
  obtain ⟨cs, hcs, hmk⟩ := run_make32 (b - 72 - 1) n (by have := Hb.out; omega) (by omega) w1
  go_wp2_with fail
  have hF0 := Lib.hid (Fill.start w1 n cs hcs)
  clear hmk
  go_loopw [7] (fun iv wr => ∃ j : Nat, iv = .int .i64 j ∧ j ≤ n ∧ Hid (Fill w1 n j wr)) (fun iv wr => n - (intOf iv).toNat)
  case atStart => exact ⟨0, rfl, by omega, hF0⟩
  case round =>
    obtain ⟨j, rfl, hjn, HF⟩ := hrel
    by_cases hj : j < n
    · obtain ⟨u0, hu0⟩ := (HF.out.cell j hj).1
      have hf0 := (HF.out.cell j hj).2
      have HF1 := Lib.hid (HF.out.step hj)
      go_wp2_with fail
      go_roundw
      case rel => exact ⟨j + 1, by go_num, by omega, HF1⟩
      case measure => simp [intOf]; omega
    · have hjn' : j = n := by omega
      subst hjn'
      have hcv : (convert 32 9 (.slice (some ⟨w1.heap.size, 0, none⟩) j j)).run Tryz.prog wr = .ok (.string (bstr (rep j))) wr := by
        obtain ⟨cs', h1, h2, h3⟩ := HF.out.cells
        have := run_convert_bytes_arg wr 32 5 under32 under5 w1.heap.size 0 j j (List.replicate j 35) (by simp) (fun i hi => by rw [Nat.zero_add, cell_heap h1, h3 i hi]; simp [hi]) 9 und9
        rw [this]
        congr 2
        unfold strOfNums rep bstr
        simp
      have s1 : 72 + (bstr (rep j)).size ≤ 9223372036854775807 := by rw [bstr_size]; simp [rep]; omega
      have s2 : 72 + (bstr (rep j)).size + 1 ≤ 9223372036854775807 := by rw [bstr_size]; simp [rep]; omega
      have HEr := Lib.hid (HE.out.old (HB1.out.trans (HF.out.bel.mono HB1.out.size)))
      have HBr := Lib.hid (HB1.out.trans (HF.out.bel.mono HB1.out.size))
      clear hj
      by_cases hlong : 65536 < 73 + j
      · have hlI : (65536 : Int) < b := by have := Hb.out; omega
        have H6 := Lib.hid (read_t1_long j hlong (by omega) wr HEr.out)
        go_wp2_with fail
        refine H6.out.mono ?_
        rintro e w2 ⟨A2, c2', rfl, hb2⟩
        have HB2 := Lib.hid hb2
        clear hb2 hcv
        go_wp2_with fail
        refine (H7.out 2 _).mono ?_
        rintro e w3 ⟨rfl, rfl⟩
        go_wp2_with fail
        have HHW : Hid (∀ o, HeldW w (w2.alloc o)) := Lib.hid (fun o => HBr.out.trans ((HB2.out.alloc HB2.out.size o).mono HBr.out.size))
        go_loopw [11, 12] (fun xv iv wr => ∃ k : Nat, xv = .string (bstr (xs k)) ∧ iv = .int .i64 k ∧ k ≤ d ∧ Hid (HeldW w wr)) (fun xv iv wr => d - (intOf iv).toNat)
        case atStart => exact ⟨0, rfl, rfl, by omega, HHW.out _⟩
        case round =>
          obtain ⟨k, rfl, rfl, hkd, hW⟩ := hrel
          by_cases hk : k < d
          · have hkI : (k : Int) < d := by omega
            have s1 : 2 + (bstr (xs k)).size ≤ 9223372036854775807 := by rw [bstr_size, xs_len]; omega
            have s2 : 2 + (bstr (xs k)).size + 1 ≤ 9223372036854775807 := by rw [bstr_size, xs_len]; omega
            have HXS := Lib.hid (xs_step k)
            go_wp2_with fail
            go_roundw
            case rel => exact ⟨k + 1, by rw [← HXS.out]; rfl, by go_num, by omega, hW⟩
            case measure => simp [intOf]; omega
          · have hkd' : k = d := by omega
            subst hkd'
            have s1 : 39 + (bstr (xs k)).size ≤ 9223372036854775807 := by rw [bstr_size, xs_len]; omega
            have s2 : 39 + (bstr (xs k)).size + 9 ≤ 9223372036854775807 := by rw [bstr_size, xs_len]; omega
            clear hk
            by_cases hdeep : 64 < k
            · have hdI : (64 : Int) < k := by omega
              have H6b := Lib.hid (read_t2_deep k hdeep hd wr (HE.out.old hW.out))
              go_wp2_with fail
              refine H6b.out.mono ?_
              rintro e w5 ⟨A5, c5, rfl, hb5⟩
              have HB5 := Lib.hid hb5
              clear hb5
              go_wp2_with fail
              refine (H7.out 2 _).mono ?_
              rintro e w6 ⟨rfl, rfl⟩
              go_wp2_with fail
              go_ret
              exact ⟨rfl, hW.out.trans ((HB5.out.alloc HB5.out.size _).mono hW.out.size)⟩
            · have hdI : ¬ (64 : Int) < k := by omega
              have H6b := Lib.hid (read_t2_ok k (by omega) wr (HE.out.old hW.out))
              go_wp2_with fail
              refine H6b.out.mono ?_
              rintro e w5 ⟨nm5, wd5, A5, c5, rfl, hb5⟩
              have HB5 := Lib.hid hb5
              clear hb5
              go_wp2_with fail
              refine (H7.out 0 _).mono ?_
              rintro e w6 ⟨rfl, rfl⟩
              go_wp2_with fail
              go_ret
              exact ⟨rfl, hW.out.trans ((HB5.out.alloc HB5.out.size _).mono hW.out.size)⟩
      · have hlI : ¬ (65536 : Int) < b := by have := Hb.out; omega
        have H6 := Lib.hid (read_t1_ok j (by omega) (by omega) wr HEr.out)
        go_wp2_with fail
        refine H6.out.mono ?_
        rintro e w2 ⟨nm2, wd2, A2, c2', rfl, hb2⟩
        have HB2 := Lib.hid hb2
        clear hb2 hcv
        go_wp2_with fail
        refine (H7.out 0 _).mono ?_
        rintro e w3 ⟨rfl, rfl⟩
        go_wp2_with fail
        have HHW : Hid (∀ o, HeldW w (w2.alloc o)) := Lib.hid (fun o => HBr.out.trans ((HB2.out.alloc HB2.out.size o).mono HBr.out.size))
        go_loopw [11, 12] (fun xv iv wr => ∃ k : Nat, xv = .string (bstr (xs k)) ∧ iv = .int .i64 k ∧ k ≤ d ∧ Hid (HeldW w wr)) (fun xv iv wr => d - (intOf iv).toNat)
        case atStart => exact ⟨0, rfl, rfl, by omega, HHW.out _⟩
        case round =>
          obtain ⟨k, rfl, rfl, hkd, hW⟩ := hrel
          by_cases hk : k < d
          · have hkI : (k : Int) < d := by omega
            have s1 : 2 + (bstr (xs k)).size ≤ 9223372036854775807 := by rw [bstr_size, xs_len]; omega
            have s2 : 2 + (bstr (xs k)).size + 1 ≤ 9223372036854775807 := by rw [bstr_size, xs_len]; omega
            have HXS := Lib.hid (xs_step k)
            go_wp2_with fail
            go_roundw
            case rel => exact ⟨k + 1, by rw [← HXS.out]; rfl, by go_num, by omega, hW⟩
            case measure => simp [intOf]; omega
          · have hkd' : k = d := by omega
            subst hkd'
            have s1 : 39 + (bstr (xs k)).size ≤ 9223372036854775807 := by rw [bstr_size, xs_len]; omega
            have s2 : 39 + (bstr (xs k)).size + 9 ≤ 9223372036854775807 := by rw [bstr_size, xs_len]; omega
            clear hk
            by_cases hdeep : 64 < k
            · have hdI : (64 : Int) < k := by omega
              have H6b := Lib.hid (read_t2_deep k hdeep hd wr (HE.out.old hW.out))
              go_wp2_with fail
              refine H6b.out.mono ?_
              rintro e w5 ⟨A5, c5, rfl, hb5⟩
              have HB5 := Lib.hid hb5
              clear hb5
              go_wp2_with fail
              refine (H7.out 2 _).mono ?_
              rintro e w6 ⟨rfl, rfl⟩
              go_wp2_with fail
              go_ret
              exact ⟨rfl, hW.out.trans ((HB5.out.alloc HB5.out.size _).mono hW.out.size)⟩
            · have hdI : ¬ (64 : Int) < k := by omega
              have H6b := Lib.hid (read_t2_ok k (by omega) wr (HE.out.old hW.out))
              go_wp2_with fail
              refine H6b.out.mono ?_
              rintro e w5 ⟨nm5, wd5, A5, c5, rfl, hb5⟩
              have HB5 := Lib.hid hb5
              clear hb5
              go_wp2_with fail
              refine (H7.out 0 _).mono ?_
              rintro e w6 ⟨rfl, rfl⟩
              go_wp2_with fail
              go_ret
              exact ⟨rfl, hW.out.trans ((HB5.out.alloc HB5.out.size _).mono hW.out.size)⟩
end Go.Proofs.YtdkhedefcmjjgaaGreatDoor
