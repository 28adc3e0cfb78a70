/- The closure of lang.decimal that goes over digits, walked.
Conditions: from the place on digits stand, up to e. -/
import Derived.Test.YtdkhedefcmjjgaaGreatDoorMFpL
import Derived.Deep.RegionWith
import Derived.Handy
import Derived.Test.YtdkhedefcmjjgaaGreatDoorMFpK
namespace Go.Proofs.YtdkhedefcmjjgaaGreatDoor
open Go.RowKit Sp
set_option linter.unusedSimpArgs false
set_option linter.unusedVariables false
theorem ret_i64 {a b : Int} (h : a = b) : Ending.returned (.int .i64 a) = .returned (.int .i64 b) := by rw [h]
set_option maxHeartbeats 1000000 in
theorem digits_any (s : ByteArray) (hs : s.size ≤ 1000) (i e : Nat) (hE : DE s i e) (I L : Nat) (hIL : I ≠ L) (w : World) (hI : w.heap[I]? = some (.cells #[.int .i64 i] 3 (0, 0))) (hL : w.heap[L]? = some (.cells #[.string s] 9 (0, 0))) :
    Calls Tryz.prog 118 #[.pointer (some ⟨I, 0, none⟩), .pointer (some ⟨L, 0, none⟩)] w fun e' w' => e' = .returned (.int .i64 ((e : Int) - i)) ∧ w'.heap[I]? = some (.cells #[.int .i64 e] 3 (0, 0)) ∧ w.grownBy w' (some I) := by
  have HE := Lib.hid hE
  have HI := Lib.hid hI
  have HL := Lib.hid hL
  have hie := hE.ie
  have hes := hE.es
  clear hE hI hL
  go_enter Tryz.func118, Tryz.ntmps118
  go_wp2_with fail
  go_loopw [3] (fun t1 wr => ∃ k j : Nat, t1 = .int .i64 k ∧ j ≤ e ∧ k ≤ 1000 ∧ Hid (j = i + k ∧ wr.heap[I]? = some (.cells #[.int .i64 (j : Int)] 3 (0, 0)) ∧ w.grownBy wr (some I))) (fun t1 _ => (e - i) - (intOf t1).toNat)
  case atStart => exact ⟨0, i, rfl, hie, by omega, Lib.hid ⟨rfl, HI.out, gr_refl _ _⟩⟩
  case round =>
    obtain ⟨k, j, rfl, hj, hk, hb⟩ := hrel
    have kI : wr.cell? ⟨I, 0, none⟩ = some (.int .i64 (j : Int)) := cell_heap hb.out.2.1 0
    have fI : wr.frozen? ⟨I, 0, none⟩ = false := free_heap hb.out.2.1 0
    have kL : wr.cell? ⟨L, 0, none⟩ = some (.string s) := cell_heap ((hb.out.2.2.block L (heap_lt HL.out) (fun h => hIL (by injection h with h; exact h.symm))).trans HL.out) 0
    rcases Nat.lt_or_ge j e with hje | hje
    · have hjs : j < s.size := by omega
      have hd := HE.out.all j (by have := hb.out.1; omega) hje
      rw [← bt_at hjs] at hd
      obtain ⟨hd0, hd1⟩ := hd
      have hd2 : (48 : Int) ≤ ((s[j]).toNat : Int) := by omega
      have hd3 : ((s[j]).toNat : Int) ≤ 57 := by omega
      have hk2 : k + 1 ≤ 1000 := by have := hb.out.1; omega
      have HB : Hid ((wr.setCell ⟨I, 0, none⟩ (.int .i64 ((j : Int) + 1))).heap[I]? = some (.cells #[.int .i64 ((j + 1 : Nat) : Int)] 3 (0, 0)) ∧ w.grownBy (wr.setCell ⟨I, 0, none⟩ (.int .i64 ((j : Int) + 1))) (some I)) := Lib.hid ⟨set_heap hb.out.2.1 0 _, gr_put hb.out.2.2 _ _⟩
      clear hd0 hd1
      go_wp2_with fail
      exact ⟨⟨k + 1, j + 1, by simp, by omega, by omega, Lib.hid ⟨by have := hb.out.1; omega, HB.out⟩⟩, by have := hb.out.1; simp [intOf]; omega⟩
    · have hje2 : j = e := by omega
      subst hje2
      by_cases hjs : j < s.size
      · have hd := HE.out.stop hjs
        rw [← bt_at hjs] at hd
        rcases Nat.lt_or_ge (s[j]).toNat 48 with h48 | h48
        · have hd2 : ¬ (48 : Int) ≤ ((s[j]).toNat : Int) := by omega
          clear hd h48
          go_wp2_with fail
          go_returns
          exact ⟨ret_i64 (by have := hb.out.1; omega), hb.out.2⟩
        · have hd2 : (48 : Int) ≤ ((s[j]).toNat : Int) := by omega
          have hd3 : ¬ ((s[j]).toNat : Int) ≤ 57 := by omega
          clear hd h48
          go_wp2_with fail
          go_returns
          exact ⟨ret_i64 (by have := hb.out.1; omega), hb.out.2⟩
      · go_wp2_with fail
        go_returns
        exact ⟨ret_i64 (by have := hb.out.1; omega), hb.out.2⟩
end Go.Proofs.YtdkhedefcmjjgaaGreatDoor
/- lang.decimal, walked: does a text have a decimal number's form; what it says of the text's places.
Conditions: the text is short. -/
namespace Go.Proofs.YtdkhedefcmjjgaaGreatDoor
open Go.RowKit Sp
set_option linter.unusedSimpArgs false
set_option linter.unusedVariables false
/-- What stands behind the mantissa. -/
def tailV (s : ByteArray) (E : Nat → Nat) (m : Nat) : Bool :=
  if m < s.size ∧ bt s m = 101 then
    (if m + 1 < s.size ∧ bt s (m + 1) = 45 then (if E (m + 2) = m + 2 ∨ 3 < E (m + 2) - (m + 2) then false else decide (E (m + 2) = s.size))
     else (if E (m + 1) = m + 1 ∨ 3 < E (m + 1) - (m + 1) then false else decide (E (m + 1) = s.size)))
  else decide (m = s.size)
def decV (s : ByteArray) (E : Nat → Nat) : Bool :=
  if E 0 = 0 then false
  else if E 0 < s.size ∧ bt s (E 0) = 46 then (if E (E 0 + 1) = E 0 + 1 then false else tailV s E (E (E 0 + 1)))
  else tailV s E (E 0)
theorem tail_form {s : ByteArray} {E : Nat → Nat} (hE : ∀ i, i ≤ s.size → DE s i (E i)) {m : Nat} (hm : m ≤ s.size) (h : tailV s E m = true) : m = s.size ∨ (m < s.size ∧ ∃ q neg, Expn s m q neg) := by
  unfold tailV at h
  split at h
  · rename_i h1
    split at h
    · rename_i h2
      split at h
      · cases h
      · rename_i h3
        have h4 := of_decide_eq_true h
        have hd := hE (m + 2) (by omega)
        have := hd.ie
        refine .inr ⟨h1.1, m + 2, true, h1.2, (fun h => by cases h), fun _ => ⟨rfl, h2.2⟩, by omega, by omega, fun j j1 j2 => hd.all j j1 (by omega)⟩
    · split at h
      · cases h
      · rename_i h3
        have h4 := of_decide_eq_true h
        have hd := hE (m + 1) (by omega)
        have := hd.ie
        refine .inr ⟨h1.1, m + 1, false, h1.2, (fun _ => rfl), (fun h => by cases h), by omega, by omega, fun j j1 j2 => hd.all j j1 (by omega)⟩
  · exact .inl (of_decide_eq_true h)
theorem dec_form {s : ByteArray} {E : Nat → Nat} (hE : ∀ i, i ≤ s.size → DE s i (E i)) (h : decV s E = true) : ∃ a m, Form s a m := by
  unfold decV at h
  have h0 := hE 0 (by omega)
  split at h
  · cases h
  · rename_i n0
    split at h
    · rename_i h1
      split at h
      · cases h
      · rename_i n1
        have h2 := hE (E 0 + 1) (by omega)
        have i1 := h2.ie
        refine ⟨E 0, E (E 0 + 1), by omega, by omega, h2.es, fun j j1 j2 => ?_, fun _ => ⟨h1.2, by omega⟩, tail_form hE h2.es h⟩
        rcases Nat.lt_or_ge j (E 0) with h3 | h3
        · exact h0.all j (by omega) h3
        · exact h2.all j (by omega) j1
    · exact ⟨E 0, E 0, by omega, by omega, h0.es, fun j j1 j2 => h0.all j (by omega) j1, fun h => by omega, tail_form hE h0.es h⟩
/-- decimal's memory: the text, the place. -/
structure DecW (s : ByteArray) (w : World) (i : Nat) (wr : World) : Prop where
  hL : wr.heap[w.heap.size]? = some (.cells #[.string s] 9 (0, 0))
  hI : wr.heap[w.heap.size + 1]? = some (.cells #[.int .i64 i] 3 (0, 0))
  bel : Below w.heap.size w wr
theorem DecW.step {s : ByteArray} {w wr w' : World} {i e : Nat} (h : DecW s w i wr) (h1 : w'.heap[w.heap.size + 1]? = some (.cells #[.int .i64 e] 3 (0, 0))) (h2 : wr.grownBy w' (some (w.heap.size + 1))) : DecW s w e w' :=
  ⟨(h2.block _ (heap_lt h.hL) (fun h => by injection h with h; omega)).trans h.hL, h1, h.bel.grown h2 h.bel.size (fun j e => by injection e with e; omega)⟩
theorem DecW.put {s : ByteArray} {w wr : World} {i : Nat} (h : DecW s w i wr) (u : Nat) : DecW s w u (wr.setCell ⟨w.heap.size + 1, 0, none⟩ (.int .i64 u)) :=
  h.step (set_heap h.hI 0 _) (gr_set 0 _)
theorem DecW.drew {s : ByteArray} {w wr : World} {i : Nat} (h : DecW s w i wr) : DecW s w i wr.drew := ⟨h.hL, h.hI, h.bel.drew⟩
theorem ret_bool {a b : Bool} (h : a = b) : Ending.returned (.bool a) = .returned (.bool b) := by rw [h]
theorem tv_minus {s : ByteArray} {E : Nat → Nat} {m : Nat} (h : m < s.size ∧ bt s m = 101) (h2 : m + 1 < s.size ∧ bt s (m + 1) = 45) : tailV s E m = if E (m + 2) = m + 2 ∨ 3 < E (m + 2) - (m + 2) then false else decide (E (m + 2) = s.size) := by unfold tailV; rw [if_pos h, if_pos h2]
theorem tv_plus {s : ByteArray} {E : Nat → Nat} {m : Nat} (h : m < s.size ∧ bt s m = 101) (h2 : ¬ (m + 1 < s.size ∧ bt s (m + 1) = 45)) : tailV s E m = if E (m + 1) = m + 1 ∨ 3 < E (m + 1) - (m + 1) then false else decide (E (m + 1) = s.size) := by unfold tailV; rw [if_pos h, if_neg h2]
theorem tv_none {s : ByteArray} {E : Nat → Nat} {m : Nat} (h : ¬ (m < s.size ∧ bt s m = 101)) : tailV s E m = decide (m = s.size) := by unfold tailV; rw [if_neg h]
theorem landQ_ret {P : Program} {c : Code} {Q : Exit → Act → World → Prop} {a : Act} {w : World} : landQ P c Q .ret a w = Q .ret a w := rfl
theorem beq_nat (a b : Nat) : ((a : Int) == (b : Int)) = decide (a = b) := by
  by_cases h : a = b
  · simp [h]
  · have h2 : ¬ (a : Int) = b := by omega
    simp [h, h2]
theorem toQ {s : ByteArray} {w wr : World} {i : Nat} (h : DecW s w i wr) : DecW s w (i + 1) (wr.setCell ⟨w.heap.size + 1, 0, none⟩ (.int .i64 ((i : Int) + 1))) := by simpa using h.put (i + 1)
theorem toQ2 {s : ByteArray} {w wr : World} {i : Nat} (h : DecW s w i wr) : DecW s w (i + 2) ((wr.setCell ⟨w.heap.size + 1, 0, none⟩ (.int .i64 ((i : Int) + 1))).setCell ⟨w.heap.size + 1, 0, none⟩ (.int .i64 ((i : Int) + 1 + 1))) := by
  have := (toQ h).put (i + 2)
  rw [show (((i + 2 : Nat) : Int)) = (i : Int) + 1 + 1 by omega] at this
  exact this
set_option maxRecDepth 20000 in
set_option maxHeartbeats 4000000 in
theorem decimal_any (s : ByteArray) (hs : s.size ≤ 1000) : ∃ b : Bool, (b = true → ∃ a m, Form s a m) ∧ ∀ w, Calls Tryz.prog 107 #[.string s] w fun e w' => e = .returned (.bool b) ∧ Below w.heap.size w w' := by
  obtain ⟨E, hE⟩ : ∃ E : Nat → Nat, ∀ i, i ≤ s.size → DE s i (E i) := by
    have : ∀ i, ∃ e, i ≤ s.size → DE s i e := fun i => by
      by_cases h : i ≤ s.size
      · exact (dEx' s i h).imp fun e he _ => he
      · exact ⟨0, fun h' => absurd h' h⟩
    exact ⟨fun i => Classical.choose (this i), fun i => Classical.choose_spec (this i)⟩
  refine ⟨decV s E, dec_form hE, fun w => ?_⟩
  have HE := Lib.hid hE
  have HD := Lib.hid (fun (i e n : Nat) (hi : i ≤ s.size) (he : E i = e) (hn : e = i + n) (wr : World) (h : DecW s w i wr) => (digits_any s hs i (E i) (hE i hi) (w.heap.size + 1) w.heap.size (by omega) wr h.hI h.hL).mono (R' := fun e' w' => e' = .returned (.int .i64 n) ∧ DecW s w e w') (fun e' w' ⟨h1, h2, h3⟩ => ⟨by rw [h1]; exact ret_i64 (by omega), he ▸ h.step h2 h3⟩))
  clear hE
  have hmf : ∀ (fn : Fn) (first cap : Array Value) (w : World), (Instr.makeFunc fn first cap).run Tryz.prog w = .ok (.func fn first cap) w := fun _ _ _ _ => rfl
  have H0 : Hid (DecW s w 0 ((w.alloc (.cells #[.string s] 9)).alloc (.cells #[.int .i64 0] 3))) := Lib.hid ⟨(Below.heap_alloc _ _ _ (by simp)).trans (heap_alloc_new _ _), by
    have := heap_alloc_new (w.alloc (.cells #[.string s] 9)) (.cells #[.int .i64 0] 3)
    rw [show (w.alloc (.cells #[.string s] 9)).heap.size = w.heap.size + 1 by simp] at this
    exact this, ((Below.refl _ _).alloc (Nat.le_refl _) _).alloc (by simp) _⟩
  obtain ⟨e0, he0⟩ : ∃ e0, E 0 = e0 := ⟨_, rfl⟩
  have D0 := Lib.hid (HD.out 0 e0 e0 (Nat.zero_le _) he0 (by omega) _ H0.out)
  have HE0 := Lib.hid he0
  clear he0
  go_enter Tryz.func107, Tryz.ntmps107
  go_wp2_with fail
  apply wp_scope_land
  go_wp2_with fail
  refine D0.out.mono ?_
  rintro e1 w1 ⟨rfl, hw1⟩
  have HW1 := Lib.hid hw1
  clear hw1
  by_cases hz : e0 = 0
  · have hz1 : ((e0 : Int) == 0) = true := by simp [hz]
    have HV : Hid (decV s E = false) := Lib.hid (by unfold decV; rw [HE0.out, if_pos hz])
    clear hz
    go_wp2_with fail
    go_step3
    refine ⟨_, rfl, ?_⟩
    go_wp2_with fail
    rw [Exit.noGoto_ret]
    go_returns
    exact ⟨ret_bool (HV.out.symm), HW1.out.bel⟩
  · have hz1 : ((e0 : Int) == 0) = false := by simp [hz]
    have hz2 := Lib.hid hz
    clear hz
    have kL : w1.cell? ⟨w.heap.size, 0, none⟩ = some (.string s) := cell_heap HW1.out.hL 0
    have kI : w1.cell? ⟨w.heap.size + 1, 0, none⟩ = some (.int .i64 e0) := cell_heap HW1.out.hI 0
    have fI : w1.frozen? ⟨w.heap.size + 1, 0, none⟩ = false := free_heap HW1.out.hI 0
    have HMS : Hid (e0 ≤ s.size) := Lib.hid (by have := (HE.out 0 (Nat.zero_le _)).es; rw [HE0.out] at this; exact this)
    by_cases hd : e0 < s.size
    · by_cases hd2 : bt s e0 = 46
      · have hd3 : (((s[e0]).toNat : Int) == 46) = true := by rw [bt_at hd, hd2]; rfl
        have hd4 := Lib.hid hd2
        clear hd2
        obtain ⟨e1, he1⟩ : ∃ e1, E (e0 + 1) = e1 := ⟨_, rfl⟩
        have hd1 := HE.out (e0 + 1) (by omega)
        rw [he1] at hd1
        obtain ⟨n1, hn1⟩ : ∃ n1, e1 = e0 + 1 + n1 := ⟨e1 - (e0 + 1), by have := hd1.ie; omega⟩
        have HQ := Lib.hid (toQ HW1.out)
        have D1 := Lib.hid (HD.out (e0 + 1) e1 n1 (by omega) he1 hn1 _ HQ.out)
        have HN1 := Lib.hid hn1
        have HE1 := Lib.hid he1
        have HMS : Hid (e1 ≤ s.size) := Lib.hid hd1.es
        clear he1 hd1 hn1
        go_wp2_with fail
        refine D1.out.mono ?_
        rintro e4 w2 ⟨rfl, hw2⟩
        have HW2 := Lib.hid hw2
        clear hw2 D1 kL kI fI
        have kL : w2.cell? ⟨w.heap.size, 0, none⟩ = some (.string s) := cell_heap HW2.out.hL 0
        have kI : w2.cell? ⟨w.heap.size + 1, 0, none⟩ = some (.int .i64 e1) := cell_heap HW2.out.hI 0
        have fI : w2.frozen? ⟨w.heap.size + 1, 0, none⟩ = false := free_heap HW2.out.hI 0
        by_cases hz5 : n1 = 0
        · have hz6 : ((n1 : Int) == 0) = true := by simp [hz5]
          have HV : Hid (decV s E = false) := Lib.hid (by unfold decV; rw [HE0.out, if_neg hz2.out, if_pos ⟨hd, hd4.out⟩, HE1.out, if_pos (by have := HN1.out; omega)])
          clear hz5
          go_wp2_with fail
          go_step3
          refine ⟨_, rfl, ?_⟩
          go_wp2_with fail
          rw [Exit.noGoto_ret]
          go_returns
          exact ⟨ret_bool (HV.out.symm), HW2.out.bel⟩
        · have hz6 : ((n1 : Int) == 0) = false := by simp [hz5]
          have HT : Hid (decV s E = tailV s E e1) := Lib.hid (by unfold decV; rw [HE0.out, if_neg hz2.out, if_pos ⟨hd, hd4.out⟩, HE1.out, if_neg (by have := HN1.out; omega)])
          clear hz5 hd3
          have hms : e1 ≤ s.size := HMS.out
          by_cases hx : e1 < s.size
          · by_cases hx2 : bt s e1 = 101
            · have hx3 : (((s[e1]).toNat : Int) == 101) = true := by rw [bt_at hx, hx2]; rfl
              have hx4 := Lib.hid hx2
              clear hx2
              by_cases hy : e1 + 1 < s.size
              · have hy0 : ((e1 : Nat) : Int) + 1 < (s.size : Int) := by omega
                by_cases hy2 : bt s (e1 + 1) = 45
                · have hy3 : (((s[e1 + 1]).toNat : Int) == 45) = true := by rw [bt_at hy, hy2]; rfl
                  have HH2 := Lib.hid (toQ2 HW2.out)
                  have hy4 := Lib.hid hy2
                  clear hy2
                  obtain ⟨e3, he3⟩ : ∃ e3, E (e1 + 2) = e3 := ⟨_, rfl⟩
                  have hd3 := HE.out (e1 + 2) (by omega)
                  rw [he3] at hd3
                  obtain ⟨n3, hn3⟩ : ∃ n3, e3 = e1 + 2 + n3 := ⟨e3 - (e1 + 2), by have := hd3.ie; omega⟩
                  have he3s : e3 ≤ s.size := hd3.es
                  have D3 := Lib.hid (HD.out (e1 + 2) e3 n3 (by omega) he3 hn3 _ HH2.out)
                  have HV3 : Hid (decV s E = if e3 = e1 + 2 ∨ 3 < e3 - (e1 + 2) then false else decide (e3 = s.size)) := Lib.hid (by rw [HT.out, tv_minus ⟨hx, hx4.out⟩ ⟨hy, hy4.out⟩, he3])
                  have HN3 := Lib.hid hn3
                  clear he3 hd3 hn3
                  go_wp2_with fail
                  refine D3.out.mono ?_
                  clear kL kI fI
                  rintro e5 w5 ⟨rfl, hw5⟩
                  have HW5 := Lib.hid hw5
                  have kI : w5.cell? ⟨w.heap.size + 1, 0, none⟩ = some (.int .i64 e3) := cell_heap HW5.out.hI 0
                  have kL : w5.cell? ⟨w.heap.size, 0, none⟩ = some (.string s) := cell_heap HW5.out.hL 0
                  clear hw5 D3
                  by_cases hz3 : n3 = 0
                  · have hz4 : ((n3 : Int) == 0) = true := by simp [hz3]
                    have HV : Hid (decV s E = false) := Lib.hid (by rw [HV3.out, if_pos (by have := HN3.out; omega)])
                    clear hz3
                    go_wp2_with fail
                    go_step3
                    refine ⟨_, rfl, ?_⟩
                    go_wp2_with fail
                    rw [Exit.noGoto_ret]
                    go_returns
                    exact ⟨ret_bool (HV.out.symm), HW5.out.bel⟩
                  · have hz4 : ((n3 : Int) == 0) = false := by simp [hz3]
                    rcases Nat.lt_or_ge 3 n3 with h33 | h33
                    · have h34 : (3 : Int) < (n3 : Int) := by omega
                      have HV : Hid (decV s E = false) := Lib.hid (by rw [HV3.out, if_pos (by have := HN3.out; omega)])
                      clear hz3
                      go_wp2_with fail
                      go_step3
                      refine ⟨_, rfl, ?_⟩
                      go_wp2_with fail
                      rw [Exit.noGoto_ret]
                      go_returns
                      exact ⟨ret_bool (HV.out.symm), HW5.out.bel⟩
                    · have h34 : ¬ (3 : Int) < (n3 : Int) := by omega
                      have HV : Hid (decV s E = decide (e3 = s.size)) := Lib.hid (by rw [HV3.out, if_neg (by have := HN3.out; omega)])
                      clear hz3
                      go_wp2_with fail
                      rw [landQ_ret]
                      go_returns
                      exact ⟨ret_bool (by rw [HV.out]; first | exact beq_nat _ _ | rfl | simp), HW5.out.bel⟩
                · have hy3 : (((s[e1 + 1]).toNat : Int) == 45) = false := by rw [bt_at hy]; exact beq_eq_false_iff_ne.2 (by omega)
                  have HH1 := Lib.hid (toQ HW2.out)
                  have hy4 := Lib.hid hy2
                  clear hy2
                  obtain ⟨e3, he3⟩ : ∃ e3, E (e1 + 1) = e3 := ⟨_, rfl⟩
                  have hd3 := HE.out (e1 + 1) (by omega)
                  rw [he3] at hd3
                  obtain ⟨n3, hn3⟩ : ∃ n3, e3 = e1 + 1 + n3 := ⟨e3 - (e1 + 1), by have := hd3.ie; omega⟩
                  have he3s : e3 ≤ s.size := hd3.es
                  have D3 := Lib.hid (HD.out (e1 + 1) e3 n3 (by omega) he3 hn3 _ HH1.out)
                  have HV3 : Hid (decV s E = if e3 = e1 + 1 ∨ 3 < e3 - (e1 + 1) then false else decide (e3 = s.size)) := Lib.hid (by rw [HT.out, tv_plus ⟨hx, hx4.out⟩ (fun h => hy4.out h.2), he3])
                  have HN3 := Lib.hid hn3
                  clear he3 hd3 hn3
                  go_wp2_with fail
                  refine D3.out.mono ?_
                  clear kL kI fI
                  rintro e5 w5 ⟨rfl, hw5⟩
                  have HW5 := Lib.hid hw5
                  have kI : w5.cell? ⟨w.heap.size + 1, 0, none⟩ = some (.int .i64 e3) := cell_heap HW5.out.hI 0
                  have kL : w5.cell? ⟨w.heap.size, 0, none⟩ = some (.string s) := cell_heap HW5.out.hL 0
                  clear hw5 D3
                  by_cases hz3 : n3 = 0
                  · have hz4 : ((n3 : Int) == 0) = true := by simp [hz3]
                    have HV : Hid (decV s E = false) := Lib.hid (by rw [HV3.out, if_pos (by have := HN3.out; omega)])
                    clear hz3
                    go_wp2_with fail
                    go_step3
                    refine ⟨_, rfl, ?_⟩
                    go_wp2_with fail
                    rw [Exit.noGoto_ret]
                    go_returns
                    exact ⟨ret_bool (HV.out.symm), HW5.out.bel⟩
                  · have hz4 : ((n3 : Int) == 0) = false := by simp [hz3]
                    rcases Nat.lt_or_ge 3 n3 with h33 | h33
                    · have h34 : (3 : Int) < (n3 : Int) := by omega
                      have HV : Hid (decV s E = false) := Lib.hid (by rw [HV3.out, if_pos (by have := HN3.out; omega)])
                      clear hz3
                      go_wp2_with fail
                      go_step3
                      refine ⟨_, rfl, ?_⟩
                      go_wp2_with fail
                      rw [Exit.noGoto_ret]
                      go_returns
                      exact ⟨ret_bool (HV.out.symm), HW5.out.bel⟩
                    · have h34 : ¬ (3 : Int) < (n3 : Int) := by omega
                      have HV : Hid (decV s E = decide (e3 = s.size)) := Lib.hid (by rw [HV3.out, if_neg (by have := HN3.out; omega)])
                      clear hz3
                      go_wp2_with fail
                      rw [landQ_ret]
                      go_returns
                      exact ⟨ret_bool (by rw [HV.out]; first | exact beq_nat _ _ | rfl | simp), HW5.out.bel⟩
              · have hy0 : ¬ ((e1 : Nat) : Int) + 1 < (s.size : Int) := by omega
                have HH1 := Lib.hid (toQ HW2.out)
                obtain ⟨e3, he3⟩ : ∃ e3, E (e1 + 1) = e3 := ⟨_, rfl⟩
                have hd3 := HE.out (e1 + 1) (by omega)
                rw [he3] at hd3
                obtain ⟨n3, hn3⟩ : ∃ n3, e3 = e1 + 1 + n3 := ⟨e3 - (e1 + 1), by have := hd3.ie; omega⟩
                have he3s : e3 ≤ s.size := hd3.es
                have D3 := Lib.hid (HD.out (e1 + 1) e3 n3 (by omega) he3 hn3 _ HH1.out)
                have HV3 : Hid (decV s E = if e3 = e1 + 1 ∨ 3 < e3 - (e1 + 1) then false else decide (e3 = s.size)) := Lib.hid (by rw [HT.out, tv_plus ⟨hx, hx4.out⟩ (fun h => hy h.1), he3])
                have HN3 := Lib.hid hn3
                clear he3 hd3 hn3
                go_wp2_with fail
                refine D3.out.mono ?_
                clear kL kI fI
                rintro e5 w5 ⟨rfl, hw5⟩
                have HW5 := Lib.hid hw5
                have kI : w5.cell? ⟨w.heap.size + 1, 0, none⟩ = some (.int .i64 e3) := cell_heap HW5.out.hI 0
                have kL : w5.cell? ⟨w.heap.size, 0, none⟩ = some (.string s) := cell_heap HW5.out.hL 0
                clear hw5 D3
                by_cases hz3 : n3 = 0
                · have hz4 : ((n3 : Int) == 0) = true := by simp [hz3]
                  have HV : Hid (decV s E = false) := Lib.hid (by rw [HV3.out, if_pos (by have := HN3.out; omega)])
                  clear hz3
                  go_wp2_with fail
                  go_step3
                  refine ⟨_, rfl, ?_⟩
                  go_wp2_with fail
                  rw [Exit.noGoto_ret]
                  go_returns
                  exact ⟨ret_bool (HV.out.symm), HW5.out.bel⟩
                · have hz4 : ((n3 : Int) == 0) = false := by simp [hz3]
                  rcases Nat.lt_or_ge 3 n3 with h33 | h33
                  · have h34 : (3 : Int) < (n3 : Int) := by omega
                    have HV : Hid (decV s E = false) := Lib.hid (by rw [HV3.out, if_pos (by have := HN3.out; omega)])
                    clear hz3
                    go_wp2_with fail
                    go_step3
                    refine ⟨_, rfl, ?_⟩
                    go_wp2_with fail
                    rw [Exit.noGoto_ret]
                    go_returns
                    exact ⟨ret_bool (HV.out.symm), HW5.out.bel⟩
                  · have h34 : ¬ (3 : Int) < (n3 : Int) := by omega
                    have HV : Hid (decV s E = decide (e3 = s.size)) := Lib.hid (by rw [HV3.out, if_neg (by have := HN3.out; omega)])
                    clear hz3
                    go_wp2_with fail
                    rw [landQ_ret]
                    go_returns
                    exact ⟨ret_bool (by rw [HV.out]; first | exact beq_nat _ _ | rfl | simp), HW5.out.bel⟩
            · have hx3 : (((s[e1]).toNat : Int) == 101) = false := by rw [bt_at hx]; exact beq_eq_false_iff_ne.2 (by omega)
              have HV : Hid (decV s E = decide (e1 = s.size)) := Lib.hid (by rw [HT.out, tv_none (fun h => hx2 h.2)])
              clear hx2
              go_wp2_with fail
              rw [landQ_ret]
              go_returns
              exact ⟨ret_bool (by rw [HV.out]; first | exact beq_nat _ _ | rfl | simp), HW2.out.bel⟩
          · have HV : Hid (decV s E = decide (e1 = s.size)) := Lib.hid (by rw [HT.out, tv_none (fun h => hx h.1)])
            go_wp2_with fail
            rw [landQ_ret]
            go_returns
            exact ⟨ret_bool (by rw [HV.out]; first | exact beq_nat _ _ | rfl | simp), HW2.out.bel⟩
      · have hd3 : (((s[e0]).toNat : Int) == 46) = false := by rw [bt_at hd]; exact beq_eq_false_iff_ne.2 (by omega)
        have HT : Hid (decV s E = tailV s E e0) := Lib.hid (by unfold decV; rw [HE0.out, if_neg hz2.out, if_neg (fun h => hd2 h.2)])
        clear hd2
        have hms : e0 ≤ s.size := HMS.out
        by_cases hx : e0 < s.size
        · by_cases hx2 : bt s e0 = 101
          · have hx3 : (((s[e0]).toNat : Int) == 101) = true := by rw [bt_at hx, hx2]; rfl
            have hx4 := Lib.hid hx2
            clear hx2
            by_cases hy : e0 + 1 < s.size
            · have hy0 : ((e0 : Nat) : Int) + 1 < (s.size : Int) := by omega
              by_cases hy2 : bt s (e0 + 1) = 45
              · have hy3 : (((s[e0 + 1]).toNat : Int) == 45) = true := by rw [bt_at hy, hy2]; rfl
                have HH2 := Lib.hid (toQ2 HW1.out)
                have hy4 := Lib.hid hy2
                clear hy2
                obtain ⟨e3, he3⟩ : ∃ e3, E (e0 + 2) = e3 := ⟨_, rfl⟩
                have hd3 := HE.out (e0 + 2) (by omega)
                rw [he3] at hd3
                obtain ⟨n3, hn3⟩ : ∃ n3, e3 = e0 + 2 + n3 := ⟨e3 - (e0 + 2), by have := hd3.ie; omega⟩
                have he3s : e3 ≤ s.size := hd3.es
                have D3 := Lib.hid (HD.out (e0 + 2) e3 n3 (by omega) he3 hn3 _ HH2.out)
                have HV3 : Hid (decV s E = if e3 = e0 + 2 ∨ 3 < e3 - (e0 + 2) then false else decide (e3 = s.size)) := Lib.hid (by rw [HT.out, tv_minus ⟨hx, hx4.out⟩ ⟨hy, hy4.out⟩, he3])
                have HN3 := Lib.hid hn3
                clear he3 hd3 hn3
                go_wp2_with fail
                refine D3.out.mono ?_
                clear kL kI fI
                rintro e5 w5 ⟨rfl, hw5⟩
                have HW5 := Lib.hid hw5
                have kI : w5.cell? ⟨w.heap.size + 1, 0, none⟩ = some (.int .i64 e3) := cell_heap HW5.out.hI 0
                have kL : w5.cell? ⟨w.heap.size, 0, none⟩ = some (.string s) := cell_heap HW5.out.hL 0
                clear hw5 D3
                by_cases hz3 : n3 = 0
                · have hz4 : ((n3 : Int) == 0) = true := by simp [hz3]
                  have HV : Hid (decV s E = false) := Lib.hid (by rw [HV3.out, if_pos (by have := HN3.out; omega)])
                  clear hz3
                  go_wp2_with fail
                  go_step3
                  refine ⟨_, rfl, ?_⟩
                  go_wp2_with fail
                  rw [Exit.noGoto_ret]
                  go_returns
                  exact ⟨ret_bool (HV.out.symm), HW5.out.bel⟩
                · have hz4 : ((n3 : Int) == 0) = false := by simp [hz3]
                  rcases Nat.lt_or_ge 3 n3 with h33 | h33
                  · have h34 : (3 : Int) < (n3 : Int) := by omega
                    have HV : Hid (decV s E = false) := Lib.hid (by rw [HV3.out, if_pos (by have := HN3.out; omega)])
                    clear hz3
                    go_wp2_with fail
                    go_step3
                    refine ⟨_, rfl, ?_⟩
                    go_wp2_with fail
                    rw [Exit.noGoto_ret]
                    go_returns
                    exact ⟨ret_bool (HV.out.symm), HW5.out.bel⟩
                  · have h34 : ¬ (3 : Int) < (n3 : Int) := by omega
                    have HV : Hid (decV s E = decide (e3 = s.size)) := Lib.hid (by rw [HV3.out, if_neg (by have := HN3.out; omega)])
                    clear hz3
                    go_wp2_with fail
                    rw [landQ_ret]
                    go_returns
                    exact ⟨ret_bool (by rw [HV.out]; first | exact beq_nat _ _ | rfl | simp), HW5.out.bel⟩
              · have hy3 : (((s[e0 + 1]).toNat : Int) == 45) = false := by rw [bt_at hy]; exact beq_eq_false_iff_ne.2 (by omega)
                have HH1 := Lib.hid (toQ HW1.out)
                have hy4 := Lib.hid hy2
                clear hy2
                obtain ⟨e3, he3⟩ : ∃ e3, E (e0 + 1) = e3 := ⟨_, rfl⟩
                have hd3 := HE.out (e0 + 1) (by omega)
                rw [he3] at hd3
                obtain ⟨n3, hn3⟩ : ∃ n3, e3 = e0 + 1 + n3 := ⟨e3 - (e0 + 1), by have := hd3.ie; omega⟩
                have he3s : e3 ≤ s.size := hd3.es
                have D3 := Lib.hid (HD.out (e0 + 1) e3 n3 (by omega) he3 hn3 _ HH1.out)
                have HV3 : Hid (decV s E = if e3 = e0 + 1 ∨ 3 < e3 - (e0 + 1) then false else decide (e3 = s.size)) := Lib.hid (by rw [HT.out, tv_plus ⟨hx, hx4.out⟩ (fun h => hy4.out h.2), he3])
                have HN3 := Lib.hid hn3
                clear he3 hd3 hn3
                go_wp2_with fail
                refine D3.out.mono ?_
                clear kL kI fI
                rintro e5 w5 ⟨rfl, hw5⟩
                have HW5 := Lib.hid hw5
                have kI : w5.cell? ⟨w.heap.size + 1, 0, none⟩ = some (.int .i64 e3) := cell_heap HW5.out.hI 0
                have kL : w5.cell? ⟨w.heap.size, 0, none⟩ = some (.string s) := cell_heap HW5.out.hL 0
                clear hw5 D3
                by_cases hz3 : n3 = 0
                · have hz4 : ((n3 : Int) == 0) = true := by simp [hz3]
                  have HV : Hid (decV s E = false) := Lib.hid (by rw [HV3.out, if_pos (by have := HN3.out; omega)])
                  clear hz3
                  go_wp2_with fail
                  go_step3
                  refine ⟨_, rfl, ?_⟩
                  go_wp2_with fail
                  rw [Exit.noGoto_ret]
                  go_returns
                  exact ⟨ret_bool (HV.out.symm), HW5.out.bel⟩
                · have hz4 : ((n3 : Int) == 0) = false := by simp [hz3]
                  rcases Nat.lt_or_ge 3 n3 with h33 | h33
                  · have h34 : (3 : Int) < (n3 : Int) := by omega
                    have HV : Hid (decV s E = false) := Lib.hid (by rw [HV3.out, if_pos (by have := HN3.out; omega)])
                    clear hz3
                    go_wp2_with fail
                    go_step3
                    refine ⟨_, rfl, ?_⟩
                    go_wp2_with fail
                    rw [Exit.noGoto_ret]
                    go_returns
                    exact ⟨ret_bool (HV.out.symm), HW5.out.bel⟩
                  · have h34 : ¬ (3 : Int) < (n3 : Int) := by omega
                    have HV : Hid (decV s E = decide (e3 = s.size)) := Lib.hid (by rw [HV3.out, if_neg (by have := HN3.out; omega)])
                    clear hz3
                    go_wp2_with fail
                    rw [landQ_ret]
                    go_returns
                    exact ⟨ret_bool (by rw [HV.out]; first | exact beq_nat _ _ | rfl | simp), HW5.out.bel⟩
            · have hy0 : ¬ ((e0 : Nat) : Int) + 1 < (s.size : Int) := by omega
              have HH1 := Lib.hid (toQ HW1.out)
              obtain ⟨e3, he3⟩ : ∃ e3, E (e0 + 1) = e3 := ⟨_, rfl⟩
              have hd3 := HE.out (e0 + 1) (by omega)
              rw [he3] at hd3
              obtain ⟨n3, hn3⟩ : ∃ n3, e3 = e0 + 1 + n3 := ⟨e3 - (e0 + 1), by have := hd3.ie; omega⟩
              have he3s : e3 ≤ s.size := hd3.es
              have D3 := Lib.hid (HD.out (e0 + 1) e3 n3 (by omega) he3 hn3 _ HH1.out)
              have HV3 : Hid (decV s E = if e3 = e0 + 1 ∨ 3 < e3 - (e0 + 1) then false else decide (e3 = s.size)) := Lib.hid (by rw [HT.out, tv_plus ⟨hx, hx4.out⟩ (fun h => hy h.1), he3])
              have HN3 := Lib.hid hn3
              clear he3 hd3 hn3
              go_wp2_with fail
              refine D3.out.mono ?_
              clear kL kI fI
              rintro e5 w5 ⟨rfl, hw5⟩
              have HW5 := Lib.hid hw5
              have kI : w5.cell? ⟨w.heap.size + 1, 0, none⟩ = some (.int .i64 e3) := cell_heap HW5.out.hI 0
              have kL : w5.cell? ⟨w.heap.size, 0, none⟩ = some (.string s) := cell_heap HW5.out.hL 0
              clear hw5 D3
              by_cases hz3 : n3 = 0
              · have hz4 : ((n3 : Int) == 0) = true := by simp [hz3]
                have HV : Hid (decV s E = false) := Lib.hid (by rw [HV3.out, if_pos (by have := HN3.out; omega)])
                clear hz3
                go_wp2_with fail
                go_step3
                refine ⟨_, rfl, ?_⟩
                go_wp2_with fail
                rw [Exit.noGoto_ret]
                go_returns
                exact ⟨ret_bool (HV.out.symm), HW5.out.bel⟩
              · have hz4 : ((n3 : Int) == 0) = false := by simp [hz3]
                rcases Nat.lt_or_ge 3 n3 with h33 | h33
                · have h34 : (3 : Int) < (n3 : Int) := by omega
                  have HV : Hid (decV s E = false) := Lib.hid (by rw [HV3.out, if_pos (by have := HN3.out; omega)])
                  clear hz3
                  go_wp2_with fail
                  go_step3
                  refine ⟨_, rfl, ?_⟩
                  go_wp2_with fail
                  rw [Exit.noGoto_ret]
                  go_returns
                  exact ⟨ret_bool (HV.out.symm), HW5.out.bel⟩
                · have h34 : ¬ (3 : Int) < (n3 : Int) := by omega
                  have HV : Hid (decV s E = decide (e3 = s.size)) := Lib.hid (by rw [HV3.out, if_neg (by have := HN3.out; omega)])
                  clear hz3
                  go_wp2_with fail
                  rw [landQ_ret]
                  go_returns
                  exact ⟨ret_bool (by rw [HV.out]; first | exact beq_nat _ _ | rfl | simp), HW5.out.bel⟩
          · have hx3 : (((s[e0]).toNat : Int) == 101) = false := by rw [bt_at hx]; exact beq_eq_false_iff_ne.2 (by omega)
            have HV : Hid (decV s E = decide (e0 = s.size)) := Lib.hid (by rw [HT.out, tv_none (fun h => hx2 h.2)])
            clear hx2
            go_wp2_with fail
            rw [landQ_ret]
            go_returns
            exact ⟨ret_bool (by rw [HV.out]; first | exact beq_nat _ _ | rfl | simp), HW1.out.bel⟩
        · exact absurd hd hx
    · have HT : Hid (decV s E = tailV s E e0) := Lib.hid (by unfold decV; rw [HE0.out, if_neg hz2.out, if_neg (fun h => hd h.1)])
      have HV : Hid (decV s E = decide (e0 = s.size)) := Lib.hid (by rw [HT.out, tv_none (fun h => hd h.1)])
      go_wp2_with fail
      rw [landQ_ret]
      go_returns
      exact ⟨ret_bool (by rw [HV.out]; first | exact beq_nat _ _ | rfl | simp), HW1.out.bel⟩
end Go.Proofs.YtdkhedefcmjjgaaGreatDoor
