/- isName, walked: a range over a string, byte by byte while they are ASCII.
Conditions: the string is shorter than 2^62 bytes. -/
import Derived.Test.YtdkhedefcmjjgaaGreatDoorKnown
namespace Go.Proofs.YtdkhedefcmjjgaaGreatDoor
open Go.RowKit Sp
set_option linter.unusedVariables false
def okAt (s : ByteArray) (i : Nat) (h : i < s.size) : Prop := if i = 0 then small s[i] = true else (small s[i] || ten s[i]) = true
def okTo (s : ByteArray) (k : Nat) : Prop := ∀ i, (h : i < s.size) → i < k → okAt s i h
theorem small_iff (c : UInt8) : small c = true ↔ (97 ≤ (c.toNat : Int) ∧ (c.toNat : Int) ≤ 122) := by
  simp [small, UInt8.le_iff_toNat_le]; omega
theorem ten_iff (c : UInt8) : ten c = true ↔ (48 ≤ (c.toNat : Int) ∧ (c.toNat : Int) ≤ 57) := by
  simp [ten, UInt8.le_iff_toNat_le]; omega
set_option maxHeartbeats 2000000 in
theorem isName_loop (s : ByteArray) (w : World) (hs : s.size ≤ 16) (b1 b2 : Bool) (t1 : Int) (t2 t3 : Bool)
    (H50 : ∀ W, Calls Tryz.prog 50 #[.string s] W fun e w' => e = .returned (.tuple #[.agg #[.int .i64 t1, .bool t2, .bool t3], .bool b1]) ∧ Below W.heap.size W w') (H51 : ∀ W, Calls Tryz.prog 51 #[.string s] W fun e w' => e = .returned (.bool b2) ∧ W = w') :
    Calls Tryz.prog 34 #[.string s] w fun e w' => (e = .returned (.bool false) ∧ ¬ okTo s s.size ∨ okTo s s.size ∧ e = .returned (.bool ((!s.toList.isEmpty) && !b1 && !b2))) ∧ Below w.heap.size w w' := by
  have H50' := Lib.hid H50
  have H51' := Lib.hid H51
  clear H50 H51
  have hs' : ¬ (16 : Int) < s.size := by omega
  go_enter Tryz.func34, Tryz.ntmps34
  go_wp2_with fail
  go_loopw [] (fun w' => ∃ (pos : Nat), w' = w.iter s pos ∧ pos ≤ s.size ∧ Hid (okTo s pos)) (fun w' => s.size - w'.iterPos w.heap.size)
  case atStart => exact ⟨0, rfl, by omega, fun i h hi => absurd hi (by omega)⟩
  case round =>
    obtain ⟨pos, rfl, hps, hok⟩ := hrel
    by_cases hp : pos < s.size
    · have hdl := decode_le s pos
      have hw1 : 1 ≤ (Utf8.decode s pos).2 := by
        by_cases ha : (s[pos]'hp).toNat < 128
        · rw [decode_ascii s pos hp ha]; exact Nat.le_refl _
        · exact (decode_high s pos hp (by omega)).2
      have hgood : okAt s pos hp ∨ ¬ okAt s pos hp := Classical.em _
      have hrune : Hid ((okAt s pos hp → (Utf8.decode s pos).2 = 1 ∧ (97 ≤ ((Utf8.decode s pos).1 : Int) ∧ ((Utf8.decode s pos).1 : Int) ≤ 122 ∨ 0 < pos ∧ 48 ≤ ((Utf8.decode s pos).1 : Int) ∧ ((Utf8.decode s pos).1 : Int) ≤ 57)) ∧
          (¬ okAt s pos hp → (((Utf8.decode s pos).1 : Int) < 97 ∨ 122 < ((Utf8.decode s pos).1 : Int)) ∧ (pos = 0 ∨ ((Utf8.decode s pos).1 : Int) < 48 ∨ 57 < ((Utf8.decode s pos).1 : Int)))) := by
        have h1 := small_iff (s[pos]'hp)
        have h2 := ten_iff (s[pos]'hp)
        unfold okAt
        by_cases ha : (s[pos]'hp).toNat < 128
        · rw [decode_ascii s pos hp ha]
          show _ ∧ _
          refine ⟨fun h => ⟨rfl, ?_⟩, fun h => ?_⟩
          · by_cases h0 : pos = 0
            · rw [if_pos h0] at h; exact .inl (h1.1 h)
            · rw [if_neg h0, Bool.or_eq_true] at h
              rcases h with h | h
              · exact .inl (h1.1 h)
              · exact .inr ⟨by omega, h2.1 h⟩
          · by_cases h0 : pos = 0
            · rw [if_pos h0, h1] at h; exact ⟨by dsimp only; omega, .inl h0⟩
            · rw [if_neg h0, Bool.or_eq_true, h1, h2] at h; exact ⟨by dsimp only; omega, .inr (by dsimp only; omega)⟩
        · have hh := (decode_high s pos hp (by omega)).1
          refine ⟨fun h => ?_, fun h => ⟨by omega, .inr (by omega)⟩⟩
          exfalso
          by_cases h0 : pos = 0
          · rw [if_pos h0, h1] at h; omega
          · rw [if_neg h0, Bool.or_eq_true, h1, h2] at h; omega
      have hnx : ∀ ty, (Instr.next (.pointer (some ⟨w.heap.size, 0, none⟩)) true ty).run Tryz.prog (w.iter s pos) = _ := fun ty => run_next_any w s pos ty hp
      revert hnx hrune hdl hw1
      generalize (Utf8.decode s pos).1 = c
      generalize (Utf8.decode s pos).2 = d
      intro hdl hw1 hrune hnx
      rcases hgood with hg | hg
      · obtain ⟨hd, hc⟩ := hrune.out.1 hg
        subst hd
        have hnext : Hid (okTo s (pos + 1)) := fun i h hi => by
          by_cases he : i = pos
          · subst he; exact hg
          · exact hok.out i h (by omega)
        clear hrune hok hg
        rcases hc with ⟨h1, h2⟩ | ⟨h0, h1, h2⟩
        · go_wp2_with fail
          go_roundw
          case rel => exact ⟨pos + 1, rfl, by omega, hnext⟩
          case measure => simp; omega
        · have e0 : ((pos : Int) == 0) = false := beq_eq_false_iff_ne.2 (by omega)
          have h3 : (c : Int) < 97 := by omega
          go_wp2_with fail
          go_roundw
          case rel => exact ⟨pos + 1, rfl, by omega, hnext⟩
          case measure => simp; omega
      · obtain ⟨hc1, hc2⟩ := hrune.out.2 hg
        have hno : Hid (¬ okTo s s.size) := fun h => hg (h pos hp hp)
        clear hrune hok hg
        by_cases hc97 : (c : Int) < 97
        · clear hc1
          by_cases h0 : pos = 0
          · subst h0
            go_wp2_with fail
            go_ret
            exact ⟨.inl ⟨rfl, hno.out⟩, (Below.refl _ _).alloc (Nat.le_refl _) _⟩
          · have e0 : ((pos : Int) == 0) = false := beq_eq_false_iff_ne.2 (by omega)
            by_cases h48 : (c : Int) < 48
            · go_wp2_with fail
              go_ret
              exact ⟨.inl ⟨rfl, hno.out⟩, (Below.refl _ _).alloc (Nat.le_refl _) _⟩
            · have h57 : 57 < (c : Int) := by omega
              go_wp2_with fail
              go_ret
              exact ⟨.inl ⟨rfl, hno.out⟩, (Below.refl _ _).alloc (Nat.le_refl _) _⟩
        · have h122 : 122 < (c : Int) := by omega
          by_cases h0 : pos = 0
          · subst h0
            go_wp2_with fail
            go_ret
            exact ⟨.inl ⟨rfl, hno.out⟩, (Below.refl _ _).alloc (Nat.le_refl _) _⟩
          · have e0 : ((pos : Int) == 0) = false := beq_eq_false_iff_ne.2 (by omega)
            go_wp2_with fail
            go_ret
            exact ⟨.inl ⟨rfl, hno.out⟩, (Below.refl _ _).alloc (Nat.le_refl _) _⟩
    · have hnx : ∀ ty, (Instr.next (.pointer (some ⟨w.heap.size, 0, none⟩)) true ty).run Tryz.prog (w.iter s pos) = _ := fun ty => run_next_end w s pos ty hp
      have hall : Hid (okTo s s.size) := fun i h hi => hok.out i h (by omega)
      clear hok
      have hbi : Below w.heap.size w (w.iter s pos) := (Below.refl _ _).alloc (Nat.le_refl _) _
      by_cases he : s.toList.isEmpty = true
      · go_wp2_with fail
        refine (H50'.out _).mono ?_
        rintro e w1 ⟨rfl, hb1⟩
        go_wp2_with fail
        go_ret
        exact ⟨.inr ⟨hall.out, by simp [he]⟩, hbi.trans (hb1.mono (by simp [World.iter])) |>.alloc (by have := hb1.size; simp [World.iter] at this; omega) _⟩
      · have he' : s.toList.isEmpty = false := by simpa using he
        clear he
        cases b1 with
        | true =>
          go_wp2_with fail
          refine (H50'.out _).mono ?_
          rintro e w1 ⟨rfl, hb1⟩
          go_wp2_with fail
          go_ret
          exact ⟨.inr ⟨hall.out, by simp⟩, hbi.trans (hb1.mono (by simp [World.iter])) |>.alloc (by have := hb1.size; simp [World.iter] at this; omega) _⟩
        | false =>
          go_wp2_with fail
          refine (H50'.out _).mono ?_
          rintro e w1 ⟨rfl, hb1⟩
          go_wp2_with fail
          refine (H51'.out _).mono ?_
          rintro e w2 ⟨rfl, rfl⟩
          go_wp2_with fail
          go_ret
          exact ⟨.inr ⟨hall.out, by simp [he']⟩, hbi.trans (hb1.mono (by simp [World.iter])) |>.alloc (by have := hb1.size; simp [World.iter] at this; omega) _⟩
set_option maxHeartbeats 1000000 in
theorem isName_long (s : ByteArray) (w : World) (hs : 16 < s.size) (hm : s.size ≤ 9223372036854775807) : Calls Tryz.prog 34 #[.string s] w fun e w' => e = .returned (.bool false) ∧ w = w' := by
  have h16 : (16 : Int) < s.size := by omega
  go_enter Tryz.func34, Tryz.ntmps34
  go_wp2_with fail
  go_ret
  exact ⟨rfl, rfl⟩
theorem size_of_list (s : ByteArray) (l : Bs) (h : s.data.toList = l) : s.size = l.length := by rw [← h]; exact Array.length_toList.symm
theorem okTo_iff (s : ByteArray) : okTo s s.size ↔ Sp.nameBytes s.data.toList = true := by
  have hget : ∀ i (h : i < s.size) (h' : i < s.data.toList.length), s.data.toList[i] = s[i] := fun i h h' => by simp [ByteArray.getElem_eq_getElem_data]
  cases hl : s.data.toList with
  | nil =>
    have h0 : s.size = 0 := size_of_list s [] hl
    exact ⟨fun _ => rfl, fun _ i h => by omega⟩
  | cons c r =>
    have hlen : s.size = r.length + 1 := size_of_list s (c :: r) hl
    have h0 : s[0]'(by omega) = c := by rw [← hget 0 (by omega) (by rw [hl]; simp)]; simp [hl]
    have hs : ∀ i (h : i + 1 < s.size), s[i + 1]'h = r[i]'(by omega) := fun i h => by rw [← hget (i + 1) h (by rw [hl]; simp; omega)]; simp [hl]
    rw [Sp.nameBytes, Bool.and_eq_true, List.all_eq_true]
    constructor
    · intro h
      refine ⟨?_, fun d hd => ?_⟩
      · have := h 0 (by omega) (by omega)
        rw [okAt, if_pos rfl, h0] at this
        exact this
      · obtain ⟨i, hi, rfl⟩ := List.mem_iff_getElem.1 hd
        have := h (i + 1) (by omega) (by omega)
        rw [okAt, if_neg (by omega), hs i (by omega)] at this
        exact this
    · rintro ⟨h1, h2⟩ i h _
      cases i with
      | zero => rw [okAt, if_pos rfl, h0]; exact h1
      | succ i => rw [okAt, if_neg (by omega), hs i h]; exact h2 _ (List.getElem_mem _)
theorem isName_any (s : Bs) (w : World) (hm : s.length ≤ 9223372036854775807) : Calls Tryz.prog 34 #[.string (bstr s)] w fun e w' => e = .returned (.bool (Sp.isName s)) ∧ Below w.heap.size w w' := by
  by_cases h16 : 16 < s.length
  · refine (isName_long (bstr s) w (by rw [bstr_size]; exact h16) (by rw [bstr_size]; exact hm)).mono ?_
    rintro e w' ⟨rfl, rfl⟩
    refine ⟨?_, Below.refl _ _⟩
    rw [Sp.isName, decide_eq_false (by omega)]; rfl
  · refine (isName_loop (bstr s) w (by rw [bstr_size]; omega) (known s).isSome (reserved s) (fnT (known s)) (fnW (known s)) (fnN (known s)) (fun W => ?_) (fun W => ?_)).mono ?_
    · have := known_any (bstr s) W
      rw [bstr_data] at this
      exact this
    · have := reserved_any (bstr s) W
      rw [bstr_data] at this
      exact this
    · rintro e w' ⟨h, hb⟩
      refine ⟨?_, hb⟩
      rw [okTo_iff, bstr_data, bstr_toList] at h
      rw [Sp.isName, decide_eq_true (by omega)]
      rcases h with ⟨rfl, h⟩ | ⟨h, rfl⟩
      · simp [h]
      · rw [h]
        cases known s <;> simp
end Go.Proofs.YtdkhedefcmjjgaaGreatDoor
