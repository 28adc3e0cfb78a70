/- Whole numbers, a reader's name and whole number: walked.
Conditions: a word has at most 70,000 bytes. -/
import Derived.Test.YtdkhedefcmjjgaaGreatDoorSign
import Derived.Test.YtdkhedefcmjjgaaGreatDoorIsName
import Derived.Lib.AtoiErrMem
import Derived.Lib.AtoiAllCases
import Derived.Lib.AppendIntMem
namespace Go.Proofs.YtdkhedefcmjjgaaGreatDoor
open Go.RowKit Sp
set_option linter.unusedVariables false
def wholeF (s : Bs) : Int × Bool := match Lib.atoiAll s with
  | .ok v => (v, decide (0 ≤ v) && decide (s.length ≤ 9) && (s == Lib.itoa v))
  | .range => (Lib.atoiSat s, false)
  | _ => (0, false)
set_option maxHeartbeats 1000000 in
theorem whole_err (s : ByteArray) (n : Int) (N : Nat) (w : World) (Q : World → Prop) (hs : s.size ≤ 70000)
    (H : Calls Tryz.prog 35 #[.string s] w fun e w' => ∃ N, e = .returned (.tuple #[.int .i64 n, .iface 103 (.pointer (some ⟨N, 0, none⟩))]) ∧ Q w') :
    Calls Tryz.prog 19 #[.string s] w fun e w' => e = .returned (.tuple #[.int .i64 n, .bool false]) ∧ Q w' := by
  have hnil : ∀ (p : Value) (w : World), (binOp .eql 75 (.iface 103 p) .nilIface).run Tryz.prog w = .ok (.bool false) w := fun _ _ => by kernel_rfl
  have H' := Lib.hid H
  clear H
  go_enter Tryz.func19, Tryz.ntmps19
  go_wp2_with fail
  refine H'.out.mono ?_
  rintro e w' ⟨N, rfl, hq⟩
  go_wp2_with fail
  go_ret2
  exact ⟨rfl, hq⟩
set_option maxHeartbeats 1000000 in
theorem whole_ok (s : ByteArray) (v : Int) (w : World) (hs : s.size ≤ 70000) (h0 : 0 ≤ v) (h9 : s.size ≤ 9) (t : ByteArray)
    (H : Calls Tryz.prog 35 #[.string s] w fun e w' => e = .returned (.tuple #[.int .i64 v, .nilIface]) ∧ Below w.heap.size w w')
    (H36 : ∀ W, Below w.heap.size w W → Calls Tryz.prog 36 #[.int .i64 v] W fun e w' => e = .returned (.string t) ∧ Below W.heap.size W w') :
    Calls Tryz.prog 19 #[.string s] w fun e w' => e = .returned (.tuple #[.int .i64 v, .bool (s.toList == t.toList)]) ∧ Below w.heap.size w w' := by
  have hnil : ∀ (w : World), (binOp .eql 75 .nilIface .nilIface).run Tryz.prog w = .ok (.bool true) w := fun _ => by kernel_rfl
  have H' := Lib.hid H
  have H36' := Lib.hid H36
  clear H H36
  have h9' : decide ((s.size : Int) ≤ 9) = true := by simp; omega
  go_enter Tryz.func19, Tryz.ntmps19
  go_wp2_with fail
  refine H'.out.mono ?_
  rintro e w' ⟨rfl, hb⟩
  go_wp2_with fail
  refine (H36'.out _ hb).mono ?_
  rintro e w2 ⟨rfl, hb2⟩
  go_wp2_with fail
  go_ret2
  exact ⟨rfl, hb.trans (hb2.mono hb.size)⟩
set_option maxHeartbeats 1000000 in
theorem whole_bad (s : ByteArray) (v : Int) (w : World) (hs : s.size ≤ 70000) (h : v < 0 ∨ 0 ≤ v ∧ 9 < s.size)
    (H : Calls Tryz.prog 35 #[.string s] w fun e w' => e = .returned (.tuple #[.int .i64 v, .nilIface]) ∧ Below w.heap.size w w') :
    Calls Tryz.prog 19 #[.string s] w fun e w' => e = .returned (.tuple #[.int .i64 v, .bool false]) ∧ Below w.heap.size w w' := by
  have hnil : ∀ (w : World), (binOp .eql 75 .nilIface .nilIface).run Tryz.prog w = .ok (.bool true) w := fun _ => by kernel_rfl
  have H' := Lib.hid H
  clear H
  rcases h with h | ⟨h, h9⟩
  · go_enter Tryz.func19, Tryz.ntmps19
    go_wp2_with fail
    refine H'.out.mono ?_
    rintro e w' ⟨rfl, hb⟩
    go_wp2_with fail
    go_ret2
    exact ⟨rfl, hb⟩
  · have h9' : decide ((s.size : Int) ≤ 9) = false := by simp; omega
    go_enter Tryz.func19, Tryz.ntmps19
    go_wp2_with fail
    refine H'.out.mono ?_
    rintro e w' ⟨rfl, hb⟩
    go_wp2_with fail
    go_ret2
    exact ⟨rfl, hb⟩

theorem whole_any (s : Bs) (w : World) (hs : s.length ≤ 70000) (he : Env w) :
    Calls Tryz.prog 19 #[.string (bstr s)] w fun e w' => e = .returned (.tuple #[.int .i64 (wholeF s).1, .bool (wholeF s).2]) ∧ Below w.heap.size w w' := by
  have hz : (bstr s).size ≤ 70000 := by rw [bstr_size]; exact hs
  unfold wholeF
  cases ha : Lib.atoiAll s with
  | ok v =>
    have ha' : Lib.atoiAll (bstr s).data.toList = .ok v := by rw [bstr_data]; exact ha
    have hb := Lib.atoiAll_bounds ha
    have H : Calls Tryz.prog 35 #[.string (bstr s)] w fun e w' => e = .returned (.tuple #[.int .i64 v, .nilIface]) ∧ Below w.heap.size w w' := by
      refine (Tryz.strconv_Atoi_ok (bstr s) (by omega) v ha' w).mono ?_
      rintro e w' ⟨rfl, rfl | ⟨t, rfl⟩⟩
      · exact ⟨rfl, Below.refl _ _⟩
      · exact ⟨rfl, Lib.bytesWorld_below w 5 t⟩
    by_cases h0 : 0 ≤ v
    · by_cases h9 : s.length ≤ 9
      · refine (whole_ok (bstr s) v w hz h0 (by rw [bstr_size]; exact h9) ⟨(Lib.itoa v).toArray⟩ H (fun W hW => ?_)).mono ?_
        · refine (Tryz.strconv_Itoa v hb.1 hb.2 W (he.old hW).pow).mono ?_
          rintro e w' ⟨rfl, k, os, rfl⟩
          exact ⟨rfl, Lib.below_grow _ _ (Nat.le_refl _) _ _⟩
        · rintro e w' ⟨rfl, hw⟩
          refine ⟨?_, hw⟩
          rw [bstr_toList, show (⟨(Lib.itoa v).toArray⟩ : ByteArray) = bstr (Lib.itoa v) from rfl, bstr_toList]
          simp [h0, h9]
      · refine (whole_bad (bstr s) v w hz (.inr ⟨h0, by rw [bstr_size]; omega⟩) H).mono ?_
        rintro e w' ⟨rfl, hw⟩
        exact ⟨by simp [h9], hw⟩
    · refine (whole_bad (bstr s) v w hz (.inl (by omega)) H).mono ?_
      rintro e w' ⟨rfl, hw⟩
      exact ⟨by simp [h0], hw⟩
  | range =>
    have ha' : Lib.atoiAll (bstr s).data.toList = .range := by rw [bstr_data]; exact ha
    obtain ⟨te, pe, hv⟩ := he.rng
    refine whole_err (bstr s) _ 0 w (fun w' => Below w.heap.size w w') hz ?_
    refine (Any.strconv_Atoi_range Tryz.laysC172 (bstr s) (by omega) ha' _ w hv (.inr ⟨te, pe, rfl⟩)).mono ?_
    rintro e w' ⟨N, rfl, _, _, hb⟩
    rw [bstr_data]
    exact ⟨N, rfl, hb⟩
  | _ =>
    have hb0 : (bstr s).data.toList = s := bstr_data s
    rw [← hb0] at ha
    obtain ⟨te, pe, hv⟩ := he.syn
    refine whole_err (bstr s) 0 0 w (fun w' => Below w.heap.size w w') hz ?_
    refine (Any.strconv_Atoi_syntax Tryz.laysC172 (bstr s) (by omega) ha _ w hv (.inr ⟨te, pe, rfl⟩)).mono ?_
    rintro e w' ⟨N, rfl, _, _, hb⟩
    exact ⟨N, rfl, hb⟩

theorem next_text {w0 w : World} {R T : Nat} {wd : Int} {k : UInt8} {s : Bs} {r r' : RS} (hr : Rd w0 w R T wd r) (h : Sp.next k r = some (s, r')) : s.length ≤ 70000 := by
  obtain ⟨ts, st⟩ := r
  cases ts with
  | nil => simp [Sp.next] at h
  | cons t l =>
    simp only [Sp.next] at h
    split at h
    · cases h
    · simp only [Option.some.injEq, Prod.mk.injEq] at h
      obtain ⟨rfl, rfl⟩ := h
      exact (hr.ok.2 t (by simp)).2
set_option maxHeartbeats 1000000 in
theorem name_ok {w0 w : World} {R T : Nat} {wd : Int} {s : Bs} {r r' : RS} (hr : Rd w0 w R T wd r) (h : Sp.name r = some (s, r')) :
    Calls Tryz.prog 18 #[.pointer (some ⟨R, 0, none⟩)] w fun e w' => e = .returned (.string (bstr s)) ∧ w.grownBy w' (some R) ∧ Rd w0 w' R T wd r' := by
  unfold Sp.name at h
  split at h
  · cases h
  · rename_i s1 r1 h1
    split at h
    · rename_i hn
      simp only [Option.some.injEq, Prod.mk.injEq] at h
      obtain ⟨rfl, rfl⟩ := h
      have hl := next_text hr h1
      have H16 := Lib.hid (next_ok (k := 110) (kk := 110) hr rfl h1)
      have H34 := Lib.hid (fun W => isName_any s1 W (by omega))
      rw [hn] at H34
      clear hn h1
      go_enter Tryz.func18, Tryz.ntmps18
      go_wp2_with fail
      refine H16.out.mono ?_
      rintro e w1 ⟨rfl, hg, hr1⟩
      go_wp2_with fail
      refine (H34.out _).mono ?_
      rintro e w2 ⟨rfl, hb⟩
      go_wp2_with fail
      go_ret
      exact ⟨rfl, gr_trans hg (gr_below hb _), hr1.keep hb⟩
    · cases h
set_option maxHeartbeats 1000000 in
theorem name_no {w0 w : World} {R T : Nat} {wd : Int} {r : RS} (hr : Rd w0 w R T wd r) (h : Sp.name r = none) :
    Calls Tryz.prog 18 #[.pointer (some ⟨R, 0, none⟩)] w fun e w' => e = .panicked (giv 70) ∧ w.grownBy w' (some R) := by
  unfold Sp.name at h
  split at h
  · rename_i h1
    have H16 := Lib.hid (next_no (k := 110) (kk := 110) hr rfl h1)
    clear h1
    go_enter Tryz.func18, Tryz.ntmps18
    go_wp2_with fail
    refine H16.out.mono ?_
    rintro e w1 ⟨rfl, rfl⟩
    go_wp2_with fail
    exact ⟨rfl, rfl, gr_refl _ _⟩
  · rename_i s1 r1 h1
    split at h
    · cases h
    · rename_i hn
      have hn' : Sp.isName s1 = false := by simpa using hn
      have hl := next_text hr h1
      have H16 := Lib.hid (next_ok (k := 110) (kk := 110) hr rfl h1)
      have H34 := Lib.hid (fun W => isName_any s1 W (by omega))
      rw [hn'] at H34
      clear hn h1 hn'
      go_enter Tryz.func18, Tryz.ntmps18
      go_wp2_with fail
      refine H16.out.mono ?_
      rintro e w1 ⟨rfl, hg, hr1⟩
      go_wp2_with fail
      refine (H34.out _).mono ?_
      rintro e w2 ⟨rfl, hb⟩
      go_wp2_with fail
      refine (syntax_any _ _).mono ?_
      rintro e w3 ⟨rfl, rfl⟩
      go_wp2_with fail
      exact ⟨rfl, rfl, gr_trans hg (gr_below hb _)⟩
set_option maxHeartbeats 1000000 in
theorem wholeR_ok {m : Nums} (hm : ∀ s, m.whole s = wholeF s) {w0 w : World} {R T : Nat} {wd : Int} {n : Int} {r r' : RS} (hr : Rd w0 w R T wd r) (h : Sp.wholeR m r = some (n, r')) :
    Calls Tryz.prog 39 #[.pointer (some ⟨R, 0, none⟩)] w fun e w' => e = .returned (.int .i64 n) ∧ w.grownBy w' (some R) ∧ Rd w0 w' R T wd r' := by
  unfold Sp.wholeR at h
  split at h
  · cases h
  · rename_i s1 r1 h1
    rw [hm] at h
    split at h
    · rename_i hn
      simp only [Option.some.injEq, Prod.mk.injEq] at h
      obtain ⟨rfl, rfl⟩ := h
      have hl := next_text hr h1
      have H16 := Lib.hid (next_ok (k := 100) (kk := 100) hr rfl h1)
      have H19 := Lib.hid (fun W => whole_any s1 W hl)
      rw [hn] at H19
      generalize (wholeF s1).1 = n at *
      clear hn h1
      go_enter Tryz.func39, Tryz.ntmps39
      go_wp2_with fail
      refine H16.out.mono ?_
      rintro e w1 ⟨rfl, hg, hr1⟩
      go_wp2_with fail
      refine (H19.out _ hr1.now).mono ?_
      rintro e w2 ⟨rfl, hb⟩
      go_wp2_with fail
      go_ret
      exact ⟨rfl, gr_trans hg (gr_below hb _), hr1.keep hb⟩
    · cases h
set_option maxHeartbeats 1000000 in
theorem wholeR_no {m : Nums} (hm : ∀ s, m.whole s = wholeF s) {w0 w : World} {R T : Nat} {wd : Int} {r : RS} (hr : Rd w0 w R T wd r) (h : Sp.wholeR m r = none) :
    Calls Tryz.prog 39 #[.pointer (some ⟨R, 0, none⟩)] w fun e w' => e = .panicked (giv 70) ∧ w.grownBy w' (some R) := by
  unfold Sp.wholeR at h
  split at h
  · rename_i h1
    have H16 := Lib.hid (next_no (k := 100) (kk := 100) hr rfl h1)
    clear h1
    go_enter Tryz.func39, Tryz.ntmps39
    go_wp2_with fail
    refine H16.out.mono ?_
    rintro e w1 ⟨rfl, rfl⟩
    go_wp2_with fail
    exact ⟨rfl, rfl, gr_refl _ _⟩
  · rename_i s1 r1 h1
    rw [hm] at h
    split at h
    · cases h
    · rename_i hn
      have hn' : (wholeF s1).2 = false := by simpa using hn
      have hl := next_text hr h1
      have H16 := Lib.hid (next_ok (k := 100) (kk := 100) hr rfl h1)
      have H19 := Lib.hid (fun W => whole_any s1 W hl)
      rw [hn'] at H19
      generalize (wholeF s1).1 = n at *
      clear hn h1 hn'
      go_enter Tryz.func39, Tryz.ntmps39
      go_wp2_with fail
      refine H16.out.mono ?_
      rintro e w1 ⟨rfl, hg, hr1⟩
      go_wp2_with fail
      refine (H19.out _ hr1.now).mono ?_
      rintro e w2 ⟨rfl, hb⟩
      go_wp2_with fail
      refine (syntax_any _ _).mono ?_
      rintro e w3 ⟨rfl, rfl⟩
      go_wp2_with fail
      exact ⟨rfl, rfl, gr_trans hg (gr_below hb _)⟩
end Go.Proofs.YtdkhedefcmjjgaaGreatDoor
