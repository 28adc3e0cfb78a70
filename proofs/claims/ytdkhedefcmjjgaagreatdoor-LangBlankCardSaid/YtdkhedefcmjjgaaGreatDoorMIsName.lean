/- isName, walked: a range over a string, byte by byte while they are ASCII.
Conditions: the string is shorter than 2^62 bytes. -/
import Derived.Test.YtdkhedefcmjjgaaGreatDoorMSign
import Derived.Lib.AtoiErrMem
import Derived.Lib.AtoiAllCases
import Derived.Lib.AppendIntMem
import Derived.Deep.RegionHeld3
import Derived.Deep.AppendLies
namespace Go.Proofs.YtdkhedefcmjjgaaGreatDoor
open Go.RowKit Sp
set_option linter.unusedVariables false
def okAt (s : ByteArray) (i : Nat) (h : i < s.size) : Prop := if i = 0 then small s[i] = true else (small s[i] || ten s[i]) = true
def okTo (s : ByteArray) (k : Nat) : Prop := ∀ i, (h : i < s.size) → i < k → okAt s i h
theorem small_iff (c : UInt8) : small c = true ↔ (97 ≤ (c.toNat : Int) ∧ (c.toNat : Int) ≤ 122) := by
  simp [small, UInt8.le_iff_toNat_le]; omega
theorem ten_iff (c : UInt8) : ten c = true ↔ (48 ≤ (c.toNat : Int) ∧ (c.toNat : Int) ≤ 57) := by
  simp [ten, UInt8.le_iff_toNat_le]; omega
set_option maxHeartbeats 2000000 in
theorem isName_loop (s : ByteArray) (w : World) (hs : s.size ≤ 16) (b1 b2 : Bool) (t1 : Int) (t2 t3 : Bool)
    (H50 : ∀ W, Calls Tryz.prog 50 #[.string s] W fun e w' => e = .returned (.tuple #[.agg #[.int .i64 t1, .bool t2, .bool t3], .bool b1]) ∧ Below W.heap.size W w') (H51 : ∀ W, Calls Tryz.prog 51 #[.string s] W fun e w' => e = .returned (.bool b2) ∧ W = w') :
    Calls Tryz.prog 34 #[.string s] w fun e w' => (e = .returned (.bool false) ∧ ¬ okTo s s.size ∨ okTo s s.size ∧ e = .returned (.bool ((!s.toList.isEmpty) && !b1 && !b2))) ∧ Below w.heap.size w w' := by
  have H50' := Lib.hid H50
  have H51' := Lib.hid H51
  clear H50 H51
  have hs' : ¬ (16 : Int) < s.size := by omega
  go_enter Tryz.func34, Tryz.ntmps34
  go_wp2_with fail
  go_loopw [] (fun w' => ∃ (pos : Nat), w' = w.iter s pos ∧ pos ≤ s.size ∧ Hid (okTo s pos)) (fun w' => s.size - w'.iterPos w.heap.size)
  case atStart => exact ⟨0, rfl, by omega, fun i h hi => absurd hi (by omega)⟩
  case round =>
    obtain ⟨pos, rfl, hps, hok⟩ := hrel
    by_cases hp : pos < s.size
    · have hdl := decode_le s pos
      have hw1 : 1 ≤ (Utf8.decode s pos).2 := by
        by_cases ha : (s[pos]'hp).toNat < 128
        · rw [decode_ascii s pos hp ha]; exact Nat.le_refl _
        · exact (decode_high s pos hp (by omega)).2
      have hgood : okAt s pos hp ∨ ¬ okAt s pos hp := Classical.em _
      have hrune : Hid ((okAt s pos hp → (Utf8.decode s pos).2 = 1 ∧ (97 ≤ ((Utf8.decode s pos).1 : Int) ∧ ((Utf8.decode s pos).1 : Int) ≤ 122 ∨ 0 < pos ∧ 48 ≤ ((Utf8.decode s pos).1 : Int) ∧ ((Utf8.decode s pos).1 : Int) ≤ 57)) ∧
          (¬ okAt s pos hp → (((Utf8.decode s pos).1 : Int) < 97 ∨ 122 < ((Utf8.decode s pos).1 : Int)) ∧ (pos = 0 ∨ ((Utf8.decode s pos).1 : Int) < 48 ∨ 57 < ((Utf8.decode s pos).1 : Int)))) := by
        have h1 := small_iff (s[pos]'hp)
        have h2 := ten_iff (s[pos]'hp)
        unfold okAt
        by_cases ha : (s[pos]'hp).toNat < 128
        · rw [decode_ascii s pos hp ha]
          show _ ∧ _
          refine ⟨fun h => ⟨rfl, ?_⟩, fun h => ?_⟩
          · by_cases h0 : pos = 0
            · rw [if_pos h0] at h; exact .inl (h1.1 h)
            · rw [if_neg h0, Bool.or_eq_true] at h
              rcases h with h | h
              · exact .inl (h1.1 h)
              · exact .inr ⟨by omega, h2.1 h⟩
          · by_cases h0 : pos = 0
            · rw [if_pos h0, h1] at h; exact ⟨by dsimp only; omega, .inl h0⟩
            · rw [if_neg h0, Bool.or_eq_true, h1, h2] at h; exact ⟨by dsimp only; omega, .inr (by dsimp only; omega)⟩
        · have hh := (decode_high s pos hp (by omega)).1
          refine ⟨fun h => ?_, fun h => ⟨by omega, .inr (by omega)⟩⟩
          exfalso
          by_cases h0 : pos = 0
          · rw [if_pos h0, h1] at h; omega
          · rw [if_neg h0, Bool.or_eq_true, h1, h2] at h; omega
      have hnx : ∀ ty, (Instr.next (.pointer (some ⟨w.heap.size, 0, none⟩)) true ty).run Tryz.prog (w.iter s pos) = _ := fun ty => run_next_any w s pos ty hp
      revert hnx hrune hdl hw1
      generalize (Utf8.decode s pos).1 = c
      generalize (Utf8.decode s pos).2 = d
      intro hdl hw1 hrune hnx
      rcases hgood with hg | hg
      · obtain ⟨hd, hc⟩ := hrune.out.1 hg
        subst hd
        have hnext : Hid (okTo s (pos + 1)) := fun i h hi => by
          by_cases he : i = pos
          · subst he; exact hg
          · exact hok.out i h (by omega)
        clear hrune hok hg
        rcases hc with ⟨h1, h2⟩ | ⟨h0, h1, h2⟩
        · go_wp2_with fail
          go_roundw
          case rel => exact ⟨pos + 1, rfl, by omega, hnext⟩
          case measure => simp; omega
        · have e0 : ((pos : Int) == 0) = false := beq_eq_false_iff_ne.2 (by omega)
          have h3 : (c : Int) < 97 := by omega
          go_wp2_with fail
          go_roundw
          case rel => exact ⟨pos + 1, rfl, by omega, hnext⟩
          case measure => simp; omega
      · obtain ⟨hc1, hc2⟩ := hrune.out.2 hg
        have hno : Hid (¬ okTo s s.size) := fun h => hg (h pos hp hp)
        clear hrune hok hg
        by_cases hc97 : (c : Int) < 97
        · clear hc1
          by_cases h0 : pos = 0
          · subst h0
            go_wp2_with fail
            go_ret
            exact ⟨.inl ⟨rfl, hno.out⟩, (Below.refl _ _).alloc (Nat.le_refl _) _⟩
          · have e0 : ((pos : Int) == 0) = false := beq_eq_false_iff_ne.2 (by omega)
            by_cases h48 : (c : Int) < 48
            · go_wp2_with fail
              go_ret
              exact ⟨.inl ⟨rfl, hno.out⟩, (Below.refl _ _).alloc (Nat.le_refl _) _⟩
            · have h57 : 57 < (c : Int) := by omega
              go_wp2_with fail
              go_ret
              exact ⟨.inl ⟨rfl, hno.out⟩, (Below.refl _ _).alloc (Nat.le_refl _) _⟩
        · have h122 : 122 < (c : Int) := by omega
          by_cases h0 : pos = 0
          · subst h0
            go_wp2_with fail
            go_ret
            exact ⟨.inl ⟨rfl, hno.out⟩, (Below.refl _ _).alloc (Nat.le_refl _) _⟩
          · have e0 : ((pos : Int) == 0) = false := beq_eq_false_iff_ne.2 (by omega)
            go_wp2_with fail
            go_ret
            exact ⟨.inl ⟨rfl, hno.out⟩, (Below.refl _ _).alloc (Nat.le_refl _) _⟩
    · have hnx : ∀ ty, (Instr.next (.pointer (some ⟨w.heap.size, 0, none⟩)) true ty).run Tryz.prog (w.iter s pos) = _ := fun ty => run_next_end w s pos ty hp
      have hall : Hid (okTo s s.size) := fun i h hi => hok.out i h (by omega)
      clear hok
      have hbi : Below w.heap.size w (w.iter s pos) := (Below.refl _ _).alloc (Nat.le_refl _) _
      by_cases he : s.toList.isEmpty = true
      · go_wp2_with fail
        refine (H50'.out _).mono ?_
        rintro e w1 ⟨rfl, hb1⟩
        go_wp2_with fail
        go_ret
        exact ⟨.inr ⟨hall.out, by simp [he]⟩, hbi.trans (hb1.mono (by simp [World.iter])) |>.alloc (by have := hb1.size; simp [World.iter] at this; omega) _⟩
      · have he' : s.toList.isEmpty = false := by simpa using he
        clear he
        cases b1 with
        | true =>
          go_wp2_with fail
          refine (H50'.out _).mono ?_
          rintro e w1 ⟨rfl, hb1⟩
          go_wp2_with fail
          go_ret
          exact ⟨.inr ⟨hall.out, by simp⟩, hbi.trans (hb1.mono (by simp [World.iter])) |>.alloc (by have := hb1.size; simp [World.iter] at this; omega) _⟩
        | false =>
          go_wp2_with fail
          refine (H50'.out _).mono ?_
          rintro e w1 ⟨rfl, hb1⟩
          go_wp2_with fail
          refine (H51'.out _).mono ?_
          rintro e w2 ⟨rfl, rfl⟩
          go_wp2_with fail
          go_ret
          exact ⟨.inr ⟨hall.out, by simp [he']⟩, hbi.trans (hb1.mono (by simp [World.iter])) |>.alloc (by have := hb1.size; simp [World.iter] at this; omega) _⟩
set_option maxHeartbeats 1000000 in
theorem isName_long (s : ByteArray) (w : World) (hs : 16 < s.size) (hm : s.size ≤ 9223372036854775807) : Calls Tryz.prog 34 #[.string s] w fun e w' => e = .returned (.bool false) ∧ w = w' := by
  have h16 : (16 : Int) < s.size := by omega
  go_enter Tryz.func34, Tryz.ntmps34
  go_wp2_with fail
  go_ret
  exact ⟨rfl, rfl⟩
theorem size_of_list (s : ByteArray) (l : Bs) (h : s.data.toList = l) : s.size = l.length := by rw [← h]; exact Array.length_toList.symm
theorem okTo_iff (s : ByteArray) : okTo s s.size ↔ Sp.nameBytes s.data.toList = true := by
  have hget : ∀ i (h : i < s.size) (h' : i < s.data.toList.length), s.data.toList[i] = s[i] := fun i h h' => by simp [ByteArray.getElem_eq_getElem_data]
  cases hl : s.data.toList with
  | nil =>
    have h0 : s.size = 0 := size_of_list s [] hl
    exact ⟨fun _ => rfl, fun _ i h => by omega⟩
  | cons c r =>
    have hlen : s.size = r.length + 1 := size_of_list s (c :: r) hl
    have h0 : s[0]'(by omega) = c := by rw [← hget 0 (by omega) (by rw [hl]; simp)]; simp [hl]
    have hs : ∀ i (h : i + 1 < s.size), s[i + 1]'h = r[i]'(by omega) := fun i h => by rw [← hget (i + 1) h (by rw [hl]; simp; omega)]; simp [hl]
    rw [Sp.nameBytes, Bool.and_eq_true, List.all_eq_true]
    constructor
    · intro h
      refine ⟨?_, fun d hd => ?_⟩
      · have := h 0 (by omega) (by omega)
        rw [okAt, if_pos rfl, h0] at this
        exact this
      · obtain ⟨i, hi, rfl⟩ := List.mem_iff_getElem.1 hd
        have := h (i + 1) (by omega) (by omega)
        rw [okAt, if_neg (by omega), hs i (by omega)] at this
        exact this
    · rintro ⟨h1, h2⟩ i h _
      cases i with
      | zero => rw [okAt, if_pos rfl, h0]; exact h1
      | succ i => rw [okAt, if_neg (by omega), hs i h]; exact h2 _ (List.getElem_mem _)
theorem isName_any (s : Bs) (w : World) (hm : s.length ≤ 9223372036854775807) : Calls Tryz.prog 34 #[.string (bstr s)] w fun e w' => e = .returned (.bool (Sp.isName s)) ∧ Below w.heap.size w w' := by
  by_cases h16 : 16 < s.length
  · refine (isName_long (bstr s) w (by rw [bstr_size]; exact h16) (by rw [bstr_size]; exact hm)).mono ?_
    rintro e w' ⟨rfl, rfl⟩
    refine ⟨?_, Below.refl _ _⟩
    rw [Sp.isName, decide_eq_false (by omega)]; rfl
  · refine (isName_loop (bstr s) w (by rw [bstr_size]; omega) (known s).isSome (reserved s) (fnT (known s)) (fnW (known s)) (fnN (known s)) (fun W => ?_) (fun W => ?_)).mono ?_
    · have := known_any (bstr s) W
      rw [bstr_data] at this
      exact this
    · have := reserved_any (bstr s) W
      rw [bstr_data] at this
      exact this
    · rintro e w' ⟨h, hb⟩
      refine ⟨?_, hb⟩
      rw [okTo_iff, bstr_data, bstr_toList] at h
      rw [Sp.isName, decide_eq_true (by omega)]
      rcases h with ⟨rfl, h⟩ | ⟨h, rfl⟩
      · simp [h]
      · rw [h]
        cases known s <;> simp
end Go.Proofs.YtdkhedefcmjjgaaGreatDoor
/- Whole numbers, a reader's name and whole number: walked.
Conditions: a word has at most 70,000 bytes. -/
namespace Go.Proofs.YtdkhedefcmjjgaaGreatDoor
open Go.RowKit Sp
set_option linter.unusedVariables false
def wholeF (s : Bs) : Int × Bool := match Lib.atoiAll s with
  | .ok v => (v, decide (0 ≤ v) && decide (s.length ≤ 9) && (s == Lib.itoa v))
  | .range => (Lib.atoiSat s, false)
  | _ => (0, false)
set_option maxHeartbeats 1000000 in
theorem whole_err (s : ByteArray) (n : Int) (N : Nat) (w : World) (Q : World → Prop) (hs : s.size ≤ 70000)
    (H : Calls Tryz.prog 35 #[.string s] w fun e w' => ∃ N, e = .returned (.tuple #[.int .i64 n, .iface 103 (.pointer (some ⟨N, 0, none⟩))]) ∧ Q w') :
    Calls Tryz.prog 19 #[.string s] w fun e w' => e = .returned (.tuple #[.int .i64 n, .bool false]) ∧ Q w' := by
  have hnil : ∀ (p : Value) (w : World), (binOp .eql 75 (.iface 103 p) .nilIface).run Tryz.prog w = .ok (.bool false) w := fun _ _ => by kernel_rfl
  have H' := Lib.hid H
  clear H
  go_enter Tryz.func19, Tryz.ntmps19
  go_wp2_with fail
  refine H'.out.mono ?_
  rintro e w' ⟨N, rfl, hq⟩
  go_wp2_with fail
  go_ret2
  exact ⟨rfl, hq⟩
set_option maxHeartbeats 1000000 in
theorem whole_ok (s : ByteArray) (v : Int) (w : World) (hs : s.size ≤ 70000) (h0 : 0 ≤ v) (h9 : s.size ≤ 9) (t : ByteArray)
    (H : Calls Tryz.prog 35 #[.string s] w fun e w' => e = .returned (.tuple #[.int .i64 v, .nilIface]) ∧ Below w.heap.size w w')
    (H36 : ∀ W, Below w.heap.size w W → Calls Tryz.prog 36 #[.int .i64 v] W fun e w' => e = .returned (.string t) ∧ Below W.heap.size W w') :
    Calls Tryz.prog 19 #[.string s] w fun e w' => e = .returned (.tuple #[.int .i64 v, .bool (s.toList == t.toList)]) ∧ Below w.heap.size w w' := by
  have hnil : ∀ (w : World), (binOp .eql 75 .nilIface .nilIface).run Tryz.prog w = .ok (.bool true) w := fun _ => by kernel_rfl
  have H' := Lib.hid H
  have H36' := Lib.hid H36
  clear H H36
  have h9' : decide ((s.size : Int) ≤ 9) = true := by simp; omega
  go_enter Tryz.func19, Tryz.ntmps19
  go_wp2_with fail
  refine H'.out.mono ?_
  rintro e w' ⟨rfl, hb⟩
  go_wp2_with fail
  refine (H36'.out _ hb).mono ?_
  rintro e w2 ⟨rfl, hb2⟩
  go_wp2_with fail
  go_ret2
  exact ⟨rfl, hb.trans (hb2.mono hb.size)⟩
set_option maxHeartbeats 1000000 in
theorem whole_bad (s : ByteArray) (v : Int) (w : World) (hs : s.size ≤ 70000) (h : v < 0 ∨ 0 ≤ v ∧ 9 < s.size)
    (H : Calls Tryz.prog 35 #[.string s] w fun e w' => e = .returned (.tuple #[.int .i64 v, .nilIface]) ∧ Below w.heap.size w w') :
    Calls Tryz.prog 19 #[.string s] w fun e w' => e = .returned (.tuple #[.int .i64 v, .bool false]) ∧ Below w.heap.size w w' := by
  have hnil : ∀ (w : World), (binOp .eql 75 .nilIface .nilIface).run Tryz.prog w = .ok (.bool true) w := fun _ => by kernel_rfl
  have H' := Lib.hid H
  clear H
  rcases h with h | ⟨h, h9⟩
  · go_enter Tryz.func19, Tryz.ntmps19
    go_wp2_with fail
    refine H'.out.mono ?_
    rintro e w' ⟨rfl, hb⟩
    go_wp2_with fail
    go_ret2
    exact ⟨rfl, hb⟩
  · have h9' : decide ((s.size : Int) ≤ 9) = false := by simp; omega
    go_enter Tryz.func19, Tryz.ntmps19
    go_wp2_with fail
    refine H'.out.mono ?_
    rintro e w' ⟨rfl, hb⟩
    go_wp2_with fail
    go_ret2
    exact ⟨rfl, hb⟩

theorem whole_any (s : Bs) (w : World) (hs : s.length ≤ 70000) (he : Env w) :
    Calls Tryz.prog 19 #[.string (bstr s)] w fun e w' => e = .returned (.tuple #[.int .i64 (wholeF s).1, .bool (wholeF s).2]) ∧ Below w.heap.size w w' := by
  have hz : (bstr s).size ≤ 70000 := by rw [bstr_size]; exact hs
  unfold wholeF
  cases ha : Lib.atoiAll s with
  | ok v =>
    have ha' : Lib.atoiAll (bstr s).data.toList = .ok v := by rw [bstr_data]; exact ha
    have hb := Lib.atoiAll_bounds ha
    have H : Calls Tryz.prog 35 #[.string (bstr s)] w fun e w' => e = .returned (.tuple #[.int .i64 v, .nilIface]) ∧ Below w.heap.size w w' := by
      refine (Tryz.strconv_Atoi_ok (bstr s) (by omega) v ha' w).mono ?_
      rintro e w' ⟨rfl, rfl | ⟨t, rfl⟩⟩
      · exact ⟨rfl, Below.refl _ _⟩
      · exact ⟨rfl, Lib.bytesWorld_below w 5 t⟩
    by_cases h0 : 0 ≤ v
    · by_cases h9 : s.length ≤ 9
      · refine (whole_ok (bstr s) v w hz h0 (by rw [bstr_size]; exact h9) ⟨(Lib.itoa v).toArray⟩ H (fun W hW => ?_)).mono ?_
        · refine (Tryz.strconv_Itoa v hb.1 hb.2 W (he.old hW).pow).mono ?_
          rintro e w' ⟨rfl, k, os, rfl⟩
          exact ⟨rfl, Lib.below_grow _ _ (Nat.le_refl _) _ _⟩
        · rintro e w' ⟨rfl, hw⟩
          refine ⟨?_, hw⟩
          rw [bstr_toList, show (⟨(Lib.itoa v).toArray⟩ : ByteArray) = bstr (Lib.itoa v) from rfl, bstr_toList]
          simp [h0, h9]
      · refine (whole_bad (bstr s) v w hz (.inr ⟨h0, by rw [bstr_size]; omega⟩) H).mono ?_
        rintro e w' ⟨rfl, hw⟩
        exact ⟨by simp [h9], hw⟩
    · refine (whole_bad (bstr s) v w hz (.inl (by omega)) H).mono ?_
      rintro e w' ⟨rfl, hw⟩
      exact ⟨by simp [h0], hw⟩
  | range =>
    have ha' : Lib.atoiAll (bstr s).data.toList = .range := by rw [bstr_data]; exact ha
    obtain ⟨ae, hv⟩ := he.rng
    refine whole_err (bstr s) _ 0 w (fun w' => Below w.heap.size w w') hz ?_
    refine (Any.strconv_Atoi_range Tryz.laysC172 (bstr s) (by omega) ha' _ w hv (.inr ⟨_, _, rfl⟩)).mono ?_
    rintro e w' ⟨N, rfl, _, _, hb⟩
    rw [bstr_data]
    exact ⟨N, rfl, hb⟩
  | _ =>
    have hb0 : (bstr s).data.toList = s := bstr_data s
    rw [← hb0] at ha
    obtain ⟨te, pe, hv⟩ := he.syn
    refine whole_err (bstr s) 0 0 w (fun w' => Below w.heap.size w w') hz ?_
    refine (Any.strconv_Atoi_syntax Tryz.laysC172 (bstr s) (by omega) ha _ w hv (.inr ⟨te, pe, rfl⟩)).mono ?_
    rintro e w' ⟨N, rfl, _, _, hb⟩
    exact ⟨N, rfl, hb⟩

theorem next_text {w0 w : World} {R T : Nat} {wd : Int} {k : UInt8} {s : Bs} {r r' : RS} (hr : Rd w0 w R T wd r) (h : Sp.next k r = some (s, r')) : s.length ≤ 70000 := by
  obtain ⟨ts, st⟩ := r
  cases ts with
  | nil => simp [Sp.next] at h
  | cons t l =>
    simp only [Sp.next] at h
    split at h
    · cases h
    · simp only [Option.some.injEq, Prod.mk.injEq] at h
      obtain ⟨rfl, rfl⟩ := h
      exact (hr.ok.2 t (by simp)).2
set_option maxHeartbeats 1000000 in
theorem name_ok {w0 w : World} {R T : Nat} {wd : Int} {s : Bs} {r r' : RS} (hr : Rd w0 w R T wd r) (h : Sp.name r = some (s, r')) :
    Calls Tryz.prog 18 #[.pointer (some ⟨R, 0, none⟩)] w fun e w' => e = .returned (.string (bstr s)) ∧ w.grownBy w' (some R) ∧ Rd w0 w' R T wd r' := by
  unfold Sp.name at h
  split at h
  · cases h
  · rename_i s1 r1 h1
    split at h
    · rename_i hn
      simp only [Option.some.injEq, Prod.mk.injEq] at h
      obtain ⟨rfl, rfl⟩ := h
      have hl := next_text hr h1
      have H16 := Lib.hid (next_ok (k := 110) (kk := 110) hr rfl h1)
      have H34 := Lib.hid (fun W => isName_any s1 W (by omega))
      rw [hn] at H34
      clear hn h1
      go_enter Tryz.func18, Tryz.ntmps18
      go_wp2_with fail
      refine H16.out.mono ?_
      rintro e w1 ⟨rfl, hg, hr1⟩
      go_wp2_with fail
      refine (H34.out _).mono ?_
      rintro e w2 ⟨rfl, hb⟩
      go_wp2_with fail
      go_ret
      exact ⟨rfl, gr_trans hg (gr_below hb _), hr1.keep hb⟩
    · cases h
set_option maxHeartbeats 1000000 in
theorem name_no {w0 w : World} {R T : Nat} {wd : Int} {r : RS} (hr : Rd w0 w R T wd r) (h : Sp.name r = none) :
    Calls Tryz.prog 18 #[.pointer (some ⟨R, 0, none⟩)] w fun e w' => e = .panicked (giv 70) ∧ w.grownBy w' (some R) := by
  unfold Sp.name at h
  split at h
  · rename_i h1
    have H16 := Lib.hid (next_no (k := 110) (kk := 110) hr rfl h1)
    clear h1
    go_enter Tryz.func18, Tryz.ntmps18
    go_wp2_with fail
    refine H16.out.mono ?_
    rintro e w1 ⟨rfl, rfl⟩
    go_wp2_with fail
    exact ⟨rfl, rfl, gr_refl _ _⟩
  · rename_i s1 r1 h1
    split at h
    · cases h
    · rename_i hn
      have hn' : Sp.isName s1 = false := by simpa using hn
      have hl := next_text hr h1
      have H16 := Lib.hid (next_ok (k := 110) (kk := 110) hr rfl h1)
      have H34 := Lib.hid (fun W => isName_any s1 W (by omega))
      rw [hn'] at H34
      clear hn h1 hn'
      go_enter Tryz.func18, Tryz.ntmps18
      go_wp2_with fail
      refine H16.out.mono ?_
      rintro e w1 ⟨rfl, hg, hr1⟩
      go_wp2_with fail
      refine (H34.out _).mono ?_
      rintro e w2 ⟨rfl, hb⟩
      go_wp2_with fail
      refine (syntax_any _ _).mono ?_
      rintro e w3 ⟨rfl, rfl⟩
      go_wp2_with fail
      exact ⟨rfl, rfl, gr_trans hg (gr_below hb _)⟩
set_option maxHeartbeats 1000000 in
theorem wholeR_ok {m : Nums} (hm : ∀ s, m.whole s = wholeF s) {w0 w : World} {R T : Nat} {wd : Int} {n : Int} {r r' : RS} (hr : Rd w0 w R T wd r) (h : Sp.wholeR m r = some (n, r')) :
    Calls Tryz.prog 39 #[.pointer (some ⟨R, 0, none⟩)] w fun e w' => e = .returned (.int .i64 n) ∧ w.grownBy w' (some R) ∧ Rd w0 w' R T wd r' := by
  unfold Sp.wholeR at h
  split at h
  · cases h
  · rename_i s1 r1 h1
    rw [hm] at h
    split at h
    · rename_i hn
      simp only [Option.some.injEq, Prod.mk.injEq] at h
      obtain ⟨rfl, rfl⟩ := h
      have hl := next_text hr h1
      have H16 := Lib.hid (next_ok (k := 100) (kk := 100) hr rfl h1)
      have H19 := Lib.hid (fun W => whole_any s1 W hl)
      rw [hn] at H19
      generalize (wholeF s1).1 = n at *
      clear hn h1
      go_enter Tryz.func39, Tryz.ntmps39
      go_wp2_with fail
      refine H16.out.mono ?_
      rintro e w1 ⟨rfl, hg, hr1⟩
      go_wp2_with fail
      refine (H19.out _ hr1.now).mono ?_
      rintro e w2 ⟨rfl, hb⟩
      go_wp2_with fail
      go_ret
      exact ⟨rfl, gr_trans hg (gr_below hb _), hr1.keep hb⟩
    · cases h
set_option maxHeartbeats 1000000 in
theorem wholeR_no {m : Nums} (hm : ∀ s, m.whole s = wholeF s) {w0 w : World} {R T : Nat} {wd : Int} {r : RS} (hr : Rd w0 w R T wd r) (h : Sp.wholeR m r = none) :
    Calls Tryz.prog 39 #[.pointer (some ⟨R, 0, none⟩)] w fun e w' => e = .panicked (giv 70) ∧ w.grownBy w' (some R) := by
  unfold Sp.wholeR at h
  split at h
  · rename_i h1
    have H16 := Lib.hid (next_no (k := 100) (kk := 100) hr rfl h1)
    clear h1
    go_enter Tryz.func39, Tryz.ntmps39
    go_wp2_with fail
    refine H16.out.mono ?_
    rintro e w1 ⟨rfl, rfl⟩
    go_wp2_with fail
    exact ⟨rfl, rfl, gr_refl _ _⟩
  · rename_i s1 r1 h1
    rw [hm] at h
    split at h
    · cases h
    · rename_i hn
      have hn' : (wholeF s1).2 = false := by simpa using hn
      have hl := next_text hr h1
      have H16 := Lib.hid (next_ok (k := 100) (kk := 100) hr rfl h1)
      have H19 := Lib.hid (fun W => whole_any s1 W hl)
      rw [hn'] at H19
      generalize (wholeF s1).1 = n at *
      clear hn h1 hn'
      go_enter Tryz.func39, Tryz.ntmps39
      go_wp2_with fail
      refine H16.out.mono ?_
      rintro e w1 ⟨rfl, hg, hr1⟩
      go_wp2_with fail
      refine (H19.out _ hr1.now).mono ?_
      rintro e w2 ⟨rfl, hb⟩
      go_wp2_with fail
      refine (syntax_any _ _).mono ?_
      rintro e w3 ⟨rfl, rfl⟩
      go_wp2_with fail
      exact ⟨rfl, rfl, gr_trans hg (gr_below hb _)⟩
end Go.Proofs.YtdkhedefcmjjgaaGreatDoor
/- A reader's number and signed number, walked, where what number tells of the text is known.
Conditions: 'NumAt': what lang.number, bits.Class, bits.Neg do at the text. -/
namespace Go.Proofs.YtdkhedefcmjjgaaGreatDoor
open Go.RowKit Sp
set_option linter.unusedVariables false
/-- What is told of a number's text. -/
def NumAt (m : Nums) (s : Bs) : Prop := ∀ wd : Int, wd = 32 ∨ wd = 64 →
  (∀ W, Env W → Calls Tryz.prog 91 #[.string (bstr s), .int .i64 wd] W fun e w' => e = .returned (.tuple #[.int .i64 (m.number s wd).1, .bool (m.number s wd).2]) ∧ Below W.heap.size W w') ∧
  (∀ W, Calls Tryz.prog 92 #[.int .i64 (m.number s wd).1, .int .i64 wd] W fun e w' => e = .returned (.int .i64 (m.cls (m.number s wd).1 wd)) ∧ Below W.heap.size W w') ∧
  (wd = 64 → ∀ W, Calls Tryz.prog 77 #[.int .i64 (m.number s wd).1, .int .i64 wd] W fun e w' => e = .returned (.int .i64 (m.neg (m.number s wd).1)) ∧ Below W.heap.size W w')
/-- The numbers among some words. -/
def NumsAt (m : Nums) (ts : List Tok) : Prop := ∀ t ∈ ts, t.kind = 100 → NumAt m t.text
theorem next_mem {k : UInt8} {s : Bs} {r r' : RS} (h : Sp.next k r = some (s, r')) : ∃ t, r.ts = t :: r'.ts ∧ t.text = s ∧ r'.stop = r.stop ∧ (k ≠ 0 → t.kind = k) := by
  obtain ⟨ts, st⟩ := r
  cases ts with
  | nil => simp [Sp.next] at h
  | cons t l =>
    simp only [Sp.next] at h
    split at h
    · cases h
    · rename_i hb
      simp only [Option.some.injEq, Prod.mk.injEq] at h
      obtain ⟨rfl, rfl⟩ := h
      refine ⟨t, rfl, rfl, rfl, fun hk => ?_⟩
      by_cases he : t.kind = k
      · exact he
      · exact absurd (by simp [hk, he]) hb
theorem sign_mem {sg s : Bs} {r r' : RS} (h : Sp.sign sg r = some (s, r')) : ∃ t, r.ts = t :: r'.ts ∧ t.text = s ∧ r'.stop = r.stop := by
  obtain ⟨ts, st⟩ := r
  cases ts with
  | nil => simp [Sp.sign] at h
  | cons t l =>
    simp only [Sp.sign] at h
    split at h
    · simp only [Option.some.injEq, Prod.mk.injEq] at h
      obtain ⟨rfl, rfl⟩ := h
      exact ⟨t, rfl, rfl, rfl⟩
    · cases h
theorem NumsAt.tail {m : Nums} {t : Tok} {l : List Tok} (h : NumsAt m (t :: l)) : NumsAt m l := fun x hx => h x (List.mem_cons_of_mem _ hx)
theorem NumsAt.next {m : Nums} {k : UInt8} {s : Bs} {r r' : RS} (hn : NumsAt m r.ts) (h : Sp.next k r = some (s, r')) : NumsAt m r'.ts := by
  obtain ⟨t, e, _⟩ := next_mem h
  rw [e] at hn
  exact hn.tail
theorem NumsAt.sign {m : Nums} {sg s : Bs} {r r' : RS} (hn : NumsAt m r.ts) (h : Sp.sign sg r = some (s, r')) : NumsAt m r'.ts := by
  obtain ⟨t, e, _⟩ := sign_mem h
  rw [e] at hn
  exact hn.tail
theorem Rd.stop {w0 w : World} {R T : Nat} {wd : Int} {r : RS} (h : Rd w0 w R T wd r) : w.cell? ⟨R, 2, none⟩ = some (.int .i64 r.stop) ∧ w.frozen? ⟨R, 2, none⟩ = false := by
  obtain ⟨v, dp, h1, h2⟩ := h.at_
  exact ⟨cell_heap h1 2, free_heap h1 2⟩
theorem Rd.width {w0 w : World} {R T : Nat} {wd : Int} {r : RS} (h : Rd w0 w R T wd r) : w.cell? ⟨R, 1, none⟩ = some (.int .i64 wd) := by
  obtain ⟨v, dp, h1, h2⟩ := h.at_
  exact cell_heap h1 1
theorem Rd.words {w0 w : World} {R T : Nat} {wd : Int} {r : RS} (h : Rd w0 w R T wd r) : ∃ A c, w.cell? ⟨R, 0, none⟩ = some (.slice A r.ts.length c) ∧ c ≤ 9223372036854775807 ∧ r.ts.length ≤ c := by
  obtain ⟨v, dp, h1, A, c, rfl, hc, hm, _⟩ := h.at_
  exact ⟨A, c, cell_heap h1 0, hm, hc⟩
theorem Rd.setStop {w0 w : World} {R T : Nat} {wd : Int} {r : RS} (h : Rd w0 w R T wd r) (st : Int) : Rd w0 (w.setCell ⟨R, 2, none⟩ (.int .i64 st)) R T wd ⟨r.ts, st⟩ := by
  obtain ⟨v, dp, h1, h2⟩ := h.at_
  exact ⟨h.env, h.below.setCell h.hR _, h.hR, h.hT, h.ok, h.ne, by simp only [World.size_setCell]; exact h.ltT, v, dp, set_heap h1 2 _, h2.keep (Below.heap_setCell _ _ _ _ h.ne)⟩
set_option maxHeartbeats 1000000 in
theorem numberR_ok {m : Nums} {w0 w : World} {R T : Nat} {wd wn : Int} {n : Int} {r r' : RS} (hr : Rd w0 w R T wd r) (hw : wn = 32 ∨ wn = 64) (hN : NumsAt m r.ts) (h : Sp.numberR m wn r = some (n, r')) :
    Calls Tryz.prog 76 #[.pointer (some ⟨R, 0, none⟩), .int .i64 wn] w fun e w' => e = .returned (.int .i64 n) ∧ w.grownBy w' (some R) ∧ Rd w0 w' R T wd r' := by
  unfold Sp.numberR at h
  split at h
  · cases h
  · rename_i s1 r1 h1
    split at h
    · rename_i hn
      simp only [Option.some.injEq, Prod.mk.injEq] at h
      obtain ⟨rfl, rfl⟩ := h
      obtain ⟨t, et, ett, _, hk⟩ := next_mem h1
      have hA : NumAt m s1 := by rw [← ett]; exact hN t (by rw [et]; simp) (hk (by decide))
      have H16 := Lib.hid (next_ok (k := 100) (kk := 100) hr rfl h1)
      have H91 := Lib.hid (hA wn hw).1
      have H92 := Lib.hid (hA wn hw).2.1
      rw [hn] at H91
      generalize (m.number s1 wn).1 = n at *
      generalize hcc : m.cls n wn = c at *
      obtain ⟨ts1, st1⟩ := r1
      clear hn h1 et ett hk hA hN hcc
      dsimp only at *
      by_cases h0 : st1 = 0
      · subst h0
        by_cases h4 : c = 4
        · subst h4
          rw [if_pos rfl]
          go_enter Tryz.func76, Tryz.ntmps76
          go_wp2_with fail
          refine H16.out.mono ?_
          rintro e w1 ⟨rfl, hg, hr1⟩
          go_wp2_with fail
          refine (H91.out _ hr1.now).mono ?_
          rintro e w2 ⟨rfl, hb⟩
          have hr2 := hr1.keep hb
          obtain ⟨hs, hf⟩ := hr2.stop
          go_wp2_with fail
          refine (H92.out _).mono ?_
          rintro e w3 ⟨rfl, hb3⟩
          have hr3 := hr2.keep hb3
          obtain ⟨hs3, hf3⟩ := hr3.stop
          go_wp2_with fail
          go_ret
          exact ⟨rfl, gr_put (gr_trans hg (gr_trans (gr_below hb _) (gr_below hb3 _))) _ _, hr3.setStop 30⟩
        · have e4 : (c == 4) = false := beq_eq_false_iff_ne.2 h4
          by_cases h3 : c = 3
          · subst h3
            rw [if_pos rfl]
            go_enter Tryz.func76, Tryz.ntmps76
            go_wp2_with fail
            refine H16.out.mono ?_
            rintro e w1 ⟨rfl, hg, hr1⟩
            go_wp2_with fail
            refine (H91.out _ hr1.now).mono ?_
            rintro e w2 ⟨rfl, hb⟩
            have hr2 := hr1.keep hb
            obtain ⟨hs, hf⟩ := hr2.stop
            go_wp2_with fail
            refine (H92.out _).mono ?_
            rintro e w3 ⟨rfl, hb3⟩
            have hr3 := hr2.keep hb3
            obtain ⟨hs3, hf3⟩ := hr3.stop
            go_wp2_with fail
            go_ret
            exact ⟨rfl, gr_put (gr_trans hg (gr_trans (gr_below hb _) (gr_below hb3 _))) _ _, hr3.setStop 31⟩
          · have e3 : (c == 3) = false := beq_eq_false_iff_ne.2 h3
            have hst : stopOf c = 0 := by unfold stopOf; rw [if_neg h4, if_neg h3]
            rw [if_pos rfl, hst]
            clear h4 h3 hst
            go_enter Tryz.func76, Tryz.ntmps76
            go_wp2_with fail
            refine H16.out.mono ?_
            rintro e w1 ⟨rfl, hg, hr1⟩
            go_wp2_with fail
            refine (H91.out _ hr1.now).mono ?_
            rintro e w2 ⟨rfl, hb⟩
            have hr2 := hr1.keep hb
            obtain ⟨hs, hf⟩ := hr2.stop
            go_wp2_with fail
            refine (H92.out _).mono ?_
            rintro e w3 ⟨rfl, hb3⟩
            go_wp2_with fail
            go_ret
            exact ⟨rfl, gr_trans hg (gr_trans (gr_below hb _) (gr_below hb3 _)), hr2.keep hb3⟩
      · have e0 : (st1 == 0) = false := beq_eq_false_iff_ne.2 h0
        rw [if_neg h0]
        clear h0
        go_enter Tryz.func76, Tryz.ntmps76
        go_wp2_with fail
        refine H16.out.mono ?_
        rintro e w1 ⟨rfl, hg, hr1⟩
        go_wp2_with fail
        refine (H91.out _ hr1.now).mono ?_
        rintro e w2 ⟨rfl, hb⟩
        have hr2 := hr1.keep hb
        obtain ⟨hs, hf⟩ := hr2.stop
        go_wp2_with fail
        go_ret
        exact ⟨rfl, gr_trans hg (gr_below hb _), hr2⟩
    · cases h
set_option maxHeartbeats 1000000 in
theorem numberR_no {m : Nums} {w0 w : World} {R T : Nat} {wd wn : Int} {r : RS} (hr : Rd w0 w R T wd r) (hw : wn = 32 ∨ wn = 64) (hN : NumsAt m r.ts) (h : Sp.numberR m wn r = none) :
    Calls Tryz.prog 76 #[.pointer (some ⟨R, 0, none⟩), .int .i64 wn] w fun e w' => e = .panicked (giv 70) ∧ w.grownBy w' (some R) := by
  unfold Sp.numberR at h
  split at h
  · rename_i h1
    have H16 := Lib.hid (next_no (k := 100) (kk := 100) hr rfl h1)
    clear h1
    go_enter Tryz.func76, Tryz.ntmps76
    go_wp2_with fail
    refine H16.out.mono ?_
    rintro e w1 ⟨rfl, rfl⟩
    go_wp2_with fail
    exact ⟨rfl, rfl, gr_refl _ _⟩
  · rename_i s1 r1 h1
    split at h
    · cases h
    · rename_i hn
      have hn' : (m.number s1 wn).2 = false := by simpa using hn
      obtain ⟨t, et, ett, _, hk⟩ := next_mem h1
      have hA : NumAt m s1 := by rw [← ett]; exact hN t (by rw [et]; simp) (hk (by decide))
      have H16 := Lib.hid (next_ok (k := 100) (kk := 100) hr rfl h1)
      have H91 := Lib.hid (hA wn hw).1
      rw [hn'] at H91
      generalize (m.number s1 wn).1 = n at *
      clear hn h1 et ett hk hA hN hn'
      go_enter Tryz.func76, Tryz.ntmps76
      go_wp2_with fail
      refine H16.out.mono ?_
      rintro e w1 ⟨rfl, hg, hr1⟩
      go_wp2_with fail
      refine (H91.out _ hr1.now).mono ?_
      rintro e w2 ⟨rfl, hb⟩
      go_wp2_with fail
      refine (syntax_any _ _).mono ?_
      rintro e w3 ⟨rfl, rfl⟩
      go_wp2_with fail
      exact ⟨rfl, rfl, gr_trans hg (gr_below hb _)⟩
theorem numberR_neg {m : Nums} {n : Int} {r r' : RS} (hN : NumsAt m r.ts) (h : Sp.numberR m 64 r = some (n, r')) :
    ∀ W, Calls Tryz.prog 77 #[.int .i64 n, .int .i64 64] W fun e w' => e = .returned (.int .i64 (m.neg n)) ∧ Below W.heap.size W w' := by
  unfold Sp.numberR at h
  split at h
  · cases h
  · rename_i s1 r1 h1
    split at h
    · simp only [Option.some.injEq, Prod.mk.injEq] at h
      obtain ⟨rfl, rfl⟩ := h
      obtain ⟨t, et, ett, _, hk⟩ := next_mem h1
      have hA : NumAt m s1 := by rw [← ett]; exact hN t (by rw [et]; simp) (hk (by decide))
      exact (hA 64 (.inr rfl)).2.2 rfl
    · cases h
theorem numberR_nums {m : Nums} {wn n : Int} {r r' : RS} (hN : NumsAt m r.ts) (h : Sp.numberR m wn r = some (n, r')) : NumsAt m r'.ts := by
  unfold Sp.numberR at h
  split at h
  · cases h
  · rename_i s1 r1 h1
    split at h
    · simp only [Option.some.injEq, Prod.mk.injEq] at h
      obtain ⟨rfl, rfl⟩ := h
      have := hN.next h1; exact this
    · cases h
theorem signedR_nums {m : Nums} {n : Int} {r r' : RS} (hN : NumsAt m r.ts) (h : Sp.signedR m r = some (n, r')) : NumsAt m r'.ts := by
  unfold Sp.signedR at h
  split at h
  · exact numberR_nums hN h
  · rename_i s r1 h1
    split at h
    · cases h
    · rename_i b r2 h2
      simp only [Option.some.injEq, Prod.mk.injEq] at h
      obtain ⟨rfl, rfl⟩ := h
      exact numberR_nums (hN.sign h1) h2
set_option maxHeartbeats 1000000 in
theorem signedR_ok {m : Nums} {w0 w : World} {R T : Nat} {wd : Int} {n : Int} {r r' : RS} (hr : Rd w0 w R T wd r) (hN : NumsAt m r.ts) (h : Sp.signedR m r = some (n, r')) :
    Calls Tryz.prog 56 #[.pointer (some ⟨R, 0, none⟩)] w fun e w' => e = .returned (.int .i64 n) ∧ w.grownBy w' (some R) ∧ Rd w0 w' R T wd r' := by
  unfold Sp.signedR at h
  split at h
  · rename_i h1
    have H75 := Lib.hid (sign_no (sg := [45]) hr h1)
    have H76 := Lib.hid (numberR_ok hr (.inr rfl) hN h)
    clear h1 h hN
    go_enter Tryz.func56, Tryz.ntmps56
    go_wp2_with fail
    refine H75.out.mono ?_
    rintro e w1 ⟨rfl, rfl⟩
    go_wp2_with fail
    refine H76.out.mono ?_
    rintro e w2 ⟨rfl, hg, hr2⟩
    go_wp2_with fail
    go_ret
    exact ⟨rfl, hg, hr2⟩
  · rename_i s r1 h1
    have hN1 := hN.sign h1
    have H75 := Lib.hid (sign_ok (sg := [45]) hr h1)
    split at h
    · cases h
    · rename_i b r2 h2
      simp only [Option.some.injEq, Prod.mk.injEq] at h
      obtain ⟨rfl, rfl⟩ := h
      have H77 := Lib.hid (numberR_neg hN1 h2)
      have H76 := Lib.hid (fun W (hr : Rd w0 W R T wd r1) => numberR_ok hr (.inr rfl) hN1 h2)
      clear h1 h2 hN hN1
      go_enter Tryz.func56, Tryz.ntmps56
      go_wp2_with fail
      refine H75.out.mono ?_
      rintro e w1 ⟨rfl, hg, hr1⟩
      go_wp2_with fail
      refine (H76.out _ hr1).mono ?_
      rintro e w2 ⟨rfl, hg2, hr2⟩
      go_wp2_with fail
      refine (H77.out _).mono ?_
      rintro e w3 ⟨rfl, hb3⟩
      go_wp2_with fail
      go_ret
      exact ⟨rfl, gr_trans hg (gr_trans hg2 (gr_below hb3 _)), hr2.keep hb3⟩
set_option maxHeartbeats 1000000 in
theorem signedR_no {m : Nums} {w0 w : World} {R T : Nat} {wd : Int} {r : RS} (hr : Rd w0 w R T wd r) (hN : NumsAt m r.ts) (h : Sp.signedR m r = none) :
    Calls Tryz.prog 56 #[.pointer (some ⟨R, 0, none⟩)] w fun e w' => e = .panicked (giv 70) ∧ w.grownBy w' (some R) := by
  unfold Sp.signedR at h
  split at h
  · rename_i h1
    have H75 := Lib.hid (sign_no (sg := [45]) hr h1)
    have H76 := Lib.hid (numberR_no hr (.inr rfl) hN h)
    clear h1 h hN
    go_enter Tryz.func56, Tryz.ntmps56
    go_wp2_with fail
    refine H75.out.mono ?_
    rintro e w1 ⟨rfl, rfl⟩
    go_wp2_with fail
    refine H76.out.mono ?_
    rintro e w2 ⟨rfl, hg⟩
    go_wp2_with fail
    exact ⟨rfl, rfl, hg⟩
  · rename_i s r1 h1
    have hN1 := hN.sign h1
    have H75 := Lib.hid (sign_ok (sg := [45]) hr h1)
    split at h
    · rename_i h2
      have H76 := Lib.hid (fun W (hr : Rd w0 W R T wd r1) => numberR_no hr (.inr rfl) hN1 h2)
      clear h1 h2 hN hN1
      go_enter Tryz.func56, Tryz.ntmps56
      go_wp2_with fail
      refine H75.out.mono ?_
      rintro e w1 ⟨rfl, hg, hr1⟩
      go_wp2_with fail
      refine (H76.out _ hr1).mono ?_
      rintro e w2 ⟨rfl, hg2⟩
      go_wp2_with fail
      exact ⟨rfl, rfl, gr_trans hg hg2⟩
    · cases h
end Go.Proofs.YtdkhedefcmjjgaaGreatDoor
/- Expressions in memory: a tree of rows; what stays of it when other blocks turn; 'call', walked.
Conditions: none. -/
namespace Go.Proofs.YtdkhedefcmjjgaaGreatDoor
open Go.RowKit Sp
set_option linter.unusedVariables false
/-- The cells cs are the expression x, whose rows lie in blocks that are ok. -/
inductive ExAt (w : World) (ok : Nat → Prop) : Ex → List Value → Prop
  | mk (k b : Int) (n : Bs) (args : List Ex) (A : Option Addr) (c : Nat) (f : Nat → Value) (hc : args.length ≤ c) (hm : c ≤ 9223372036854775807)
      (hA : args ≠ [] → ∃ g o, A = some ⟨g, o, none⟩ ∧ ok g ∧ g < w.heap.size ∧ ∀ j, j < 4 * args.length → w.cell? ⟨g, o + j, none⟩ = some (f j))
      (hx : ∀ i x, args[i]? = some x → ExAt w ok x [f (4 * i), f (4 * i + 1), f (4 * i + 2), f (4 * i + 3)]) :
      ExAt w ok (.mk k b n args) [.int .i64 k, .int .i64 b, .string (bstr n), .slice A args.length c]
theorem ExAt.keep {w w' : World} {ok : Nat → Prop} {x : Ex} {cs : List Value} (h : ExAt w ok x cs) (hs : w.heap.size ≤ w'.heap.size) (hk : ∀ k, ok k → k < w.heap.size → w'.heap[k]? = w.heap[k]?) : ExAt w' ok x cs := by
  induction h with
  | mk k b n args A c f hc hm hA hx ih =>
    refine .mk k b n args A c f hc hm (fun hne => ?_) ih
    obtain ⟨g, o, e, h1, h2, h3⟩ := hA hne
    exact ⟨g, o, e, h1, by omega, fun j hj => (World.cell?_of_block (a := ⟨g, o + j, none⟩) (hk g h1 h2)).trans (h3 j hj)⟩
theorem ExAt.mono {w : World} {ok ok' : Nat → Prop} {x : Ex} {cs : List Value} (h : ExAt w ok x cs) (hk : ∀ k, ok k → k < w.heap.size → ok' k) : ExAt w ok' x cs := by
  induction h with
  | mk k b n args A c f hc hm hA hx ih =>
    refine .mk k b n args A c f hc hm (fun hne => ?_) ih
    obtain ⟨g, o, e, h1, h2, h3⟩ := hA hne
    exact ⟨g, o, e, hk g h1 h2, h2, h3⟩
/-- What is made since block B. -/
abbrev Since (B : Nat) : Nat → Prop := fun k => B ≤ k
theorem ExAt.grown {w w' : World} {B : Nat} {R : Nat} {x : Ex} {cs : List Value} (h : ExAt w (Since B) x cs) (hg : w.grownBy w' (some R)) (hR : R < B) : ExAt w' (Since B) x cs :=
  h.keep hg.size fun k hk hlt => hg.block k hlt (by intro e; injection e with e; have : B ≤ k := hk; omega)
theorem ExAt.old {w w' : World} {ok : Nat → Prop} {x : Ex} {cs : List Value} (h : ExAt w ok x cs) (hb : Below w.heap.size w w') : ExAt w' ok x cs :=
  h.keep hb.size fun k _ hlt => hb.block k hlt
theorem ExAt.lower {w : World} {B B' : Nat} {x : Ex} {cs : List Value} (h : ExAt w (Since B) x cs) (hB : B' ≤ B) : ExAt w (Since B') x cs := h.mono fun k hk _ => Nat.le_trans hB hk
/-- A value that is an expression. -/
def ExV (w : World) (B : Nat) (x : Ex) (v : Value) : Prop := ∃ k b s sl, v = .agg #[.int .i64 k, .int .i64 b, .string s, sl] ∧ ExAt w (Since B) x [.int .i64 k, .int .i64 b, .string s, sl]
theorem ExV.leaf (w : World) (B : Nat) (k b : Int) (n : Bs) : ExAt w (Since B) (.mk k b n []) [.int .i64 k, .int .i64 b, .string (bstr n), .slice none 0 0] :=
  .mk k b n [] none 0 (fun _ => undef) (Nat.le_refl _) (by omega) (fun h => absurd rfl h) (fun i x h => by simp at h)
theorem ExAt.other {w : World} {ok : Nat → Prop} {x : Ex} {cs : List Value} (h : ExAt w ok x cs) {Y : Nat} (hY : ¬ ok Y) (i : Nat) (u : Value) : ExAt (w.setCell ⟨Y, i, none⟩ u) ok x cs :=
  h.keep (by simp) fun k hk _ => Below.heap_setCell _ _ _ _ (fun e => hY (by rw [← show k = Y from e]; exact hk))
theorem Rd.other {w0 w : World} {R T : Nat} {wd : Int} {r : RS} (h : Rd w0 w R T wd r) {Y : Nat} (hR : Y ≠ R) (hT : Y ≠ T) (hB : w0.heap.size ≤ Y) (i : Nat) (u : Value) : Rd w0 (w.setCell ⟨Y, i, none⟩ u) R T wd r := by
  obtain ⟨v, dp, h1, h2⟩ := h.at_
  exact ⟨h.env, h.below.setCell hB _, h.hR, h.hT, h.ok, h.ne, by simp only [World.size_setCell]; exact h.ltT, v, dp, (Below.heap_setCell _ _ _ _ (Ne.symm hR)).trans h1, h2.keep (Below.heap_setCell _ _ _ _ (Ne.symm hT))⟩
/-- Four cells. -/
def four (k b : Int) (s : ByteArray) (sl : Value) : Array Value := #[.int .i64 k, .int .i64 b, .string s, sl]
theorem und36 : Tryz.prog.underlying 36 = some (.struct (match Tryz.prog.underlying 36 with | some (.struct f) => f | _ => #[])) := by kernel_rfl
theorem info36s : (Tryz.prog.info? 36).map (·.size) = some 4 := by kernel_rfl
theorem results36 {fn : Func} {p : Tmp} (h : fn.results = #[.cell p 36]) (tmps : Array Value) (W : World) (Y : Nat) (k b : Int) (s : ByteArray) (sl : Value)
    (hp : tmps.getD p undef = .pointer (some ⟨Y, 0, none⟩)) (hY : W.heap[Y]? = some (.cells (four k b s sl) 36 (0, 0))) : (results fn tmps).run Tryz.prog W = .ok (.agg (four k b s sl)) W :=
  results_cell_row h tmps W Y 36 (four k b s sl) (0, 0) _ hp hY und36 rfl info36s
theorem set4 {w : World} {Y : Nat} {k b k' b' : Int} {s s' : ByteArray} {sl sl' : Value} (h : w.heap[Y]? = some (.cells (four k b s sl) 36 (0, 0))) :
    ((((w.setCell ⟨Y, 0, none⟩ (.int .i64 k')).setCell ⟨Y, 1, none⟩ (.int .i64 b')).setCell ⟨Y, 2, none⟩ (.string s')).setCell ⟨Y, 3, none⟩ sl').heap[Y]? = some (.cells (four k' b' s' sl') 36 (0, 0)) :=
  set_heap (set_heap (set_heap (set_heap h 0 _) 1 _) 2 _) 3 _
theorem cells4 {w : World} {Y : Nat} {k b : Int} {s : ByteArray} {sl : Value} (h : w.heap[Y]? = some (.cells (four k b s sl) 36 (0, 0))) :
    w.cell? ⟨Y, 0, none⟩ = some (.int .i64 k) ∧ w.cell? ⟨Y, 1, none⟩ = some (.int .i64 b) ∧ w.cell? ⟨Y, 2, none⟩ = some (.string s) ∧ w.cell? ⟨Y, 3, none⟩ = some sl :=
  ⟨cell_heap h 0, cell_heap h 1, cell_heap h 2, cell_heap h 3⟩
set_option maxHeartbeats 1000000 in
theorem call_any (s : ByteArray) (A : Option Addr) (n c : Nat) (w : World) :
    Calls Tryz.prog 78 #[.string s, .slice A n c] w fun e w' => e = .returned (.agg #[.int .i64 3, .int .i64 0, .string s, .slice A n c]) ∧ Below w.heap.size w w' := by
  go_enter Tryz.func78, Tryz.ntmps78
  go_wp2_with fail
  go_returns
  exact ⟨rfl, by go_grown⟩
end Go.Proofs.YtdkhedefcmjjgaaGreatDoor
