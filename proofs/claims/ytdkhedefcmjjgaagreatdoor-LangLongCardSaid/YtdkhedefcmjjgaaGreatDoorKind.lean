/- behind, kindOf: which lines declare, and where they may stand.
Conditions: none. -/
import Derived.Test.YtdkhedefcmjjgaaGreatDoorTree
import Derived.Test.YtdkhedefcmjjgaaGreatDoorShelf
namespace Go.Proofs.YtdkhedefcmjjgaaGreatDoor
open Go.RowKit Sp
set_option linter.unusedSimpArgs false
set_option linter.unusedVariables false
set_option maxHeartbeats 1000000 in
theorem behind_any (kind last : Int) (w : World) : Calls Tryz.prog 38 #[.int .i64 kind, .int .i64 last] w fun e w' => e = .returned (.bool (behind kind last)) ∧ w = w' := by
  by_cases h1 : kind = 1
  · subst h1
    go_enter Tryz.func38, Tryz.ntmps38
    go_wp2
    go_returns
    exact ⟨by simp [behind], rfl⟩
  by_cases h2 : kind = 2
  · subst h2
    go_enter Tryz.func38, Tryz.ntmps38
    go_wp2
    go_returns
    exact ⟨by simp [behind], rfl⟩
  by_cases h6 : kind = 6
  · subst h6
    go_enter Tryz.func38, Tryz.ntmps38
    go_wp2
    go_returns
    exact ⟨by simp [behind], rfl⟩
  have hb : behind kind last = (decide (1 ≤ last) && decide (last ≤ 4)) := by rw [behind, if_neg h1, if_neg h2, if_neg h6]
  have hb' := Lib.hid hb
  have e1 : (kind == 1) = false := beq_eq_false_iff_ne.2 h1
  have e2 : (kind == 2) = false := beq_eq_false_iff_ne.2 h2
  have e6 : (kind == 6) = false := beq_eq_false_iff_ne.2 h6
  clear hb h1 h2 h6
  by_cases h : (1 : Int) ≤ last
  · go_enter Tryz.func38, Tryz.ntmps38
    go_wp2
    go_returns
    exact ⟨by rw [hb'.out, decide_eq_true h]; rfl, rfl⟩
  · have h : decide ((1 : Int) ≤ last) = false := decide_eq_false h
    go_enter Tryz.func38, Tryz.ntmps38
    go_wp2
    go_returns
    exact ⟨by rw [hb'.out, show decide ((1 : Int) ≤ last) = false from decide_eq_false (by omega)]; rfl, rfl⟩
theorem kind_lit : Lib.fields [105, 110, 112, 117, 116, 32, 108, 97, 98, 101, 108, 32, 112, 97, 114, 97, 109, 32, 108, 101, 116, 32, 111, 117, 116, 32, 108, 111, 115, 115] = kindWords := by decide
set_option maxHeartbeats 4000000 in
theorem kindOf_any (s : ByteArray) (w : World) (hsp : Lib.TabIs Tryz.prog w "strings.asciiSpace" .u8 Lib.asciiSpaceTab) : Calls Tryz.prog 37 #[.string s] w fun e w' => e = .returned (.int .i64 (kindOf s.data.toList)) ∧ Below w.heap.size w w' := by
  have h55 := Tryz.strings_Fields ⟨#[105, 110, 112, 117, 116, 32, 108, 97, 98, 101, 108, 32, 112, 97, 114, 97, 109, 32, 108, 101, 116, 32, 111, 117, 116, 32, 108, 111, 115, 115]⟩ w (by decide) (fun j b h => by
    have hall : ∀ b ∈ [105, 110, 112, 117, 116, 32, 108, 97, 98, 101, 108, 32, 112, 97, 114, 97, 109, 32, 108, 101, 116, 32, 111, 117, 116, 32, 108, 111, 115, 115], (b : UInt8).toNat < 128 := by decide
    exact hall b (List.mem_of_getElem? h)) hsp
  rw [show (⟨#[105, 110, 112, 117, 116, 32, 108, 97, 98, 101, 108, 32, 112, 97, 114, 97, 109, 32, 108, 101, 116, 32, 111, 117, 116, 32, 108, 111, 115, 115]⟩ : ByteArray).data.toList = [105, 110, 112, 117, 116, 32, 108, 97, 98, 101, 108, 32, 112, 97, 114, 97, 109, 32, 108, 101, 116, 32, 111, 117, 116, 32, 108, 111, 115, 115] from rfl, kind_lit] at h55
  have H55 := Lib.hid h55
  clear h55
  have gr0 : Below w.heap.size w (w.alloc (.cells #[.string ⟨#[105, 110, 112, 117, 116]⟩, .string ⟨#[108, 97, 98, 101, 108]⟩, .string ⟨#[112, 97, 114, 97, 109]⟩, .string ⟨#[108, 101, 116]⟩, .string ⟨#[111, 117, 116]⟩, .string ⟨#[108, 111, 115, 115]⟩] 9)) := (Below.refl _ _).alloc (Nat.le_refl _) _
  go_enter Tryz.func37, Tryz.ntmps37
  go_wp2_with fail
  refine H55.out.mono ?_
  rintro e w1 ⟨rfl, rfl⟩
  simp only [kindWords, List.map_cons, List.map_nil, List.length_cons, List.length_nil]
  go_wp2_with fail
  go_loop [7] (fun t7 => ∃ i : Nat, i ≤ 6 ∧ t7 = .int .i64 i ∧ Hid (∀ j, j < i → kindWords[j]? ≠ some s.data.toList)) (fun t7 => 6 - (intOf t7).toNat)
  case atStart => exact ⟨0, by omega, rfl, fun j hj => absurd hj (by omega)⟩
  case round =>
    obtain ⟨i, hi, rfl, hne⟩ := hrel
    rcases Nat.lt_or_ge i 6 with hlt | hge
    · rcases (by omega : i = 0 ∨ i = 1 ∨ i = 2 ∨ i = 3 ∨ i = 4 ∨ i = 5) with rfl | rfl | rfl | rfl | rfl | rfl
      · by_cases hq : s.data.toList = [105, 110, 112, 117, 116]
        · obtain rfl : s = ⟨#[105, 110, 112, 117, 116]⟩ := eq_bstr hq
          have hfin : (kindOf [105, 110, 112, 117, 116]) = 1 := by decide
          have hfin' := Lib.hid hfin
          clear hfin hne
          go_wp2_with fail
          go_returns
          exact ⟨by rw [hfin'.out]; rfl, gr0⟩
        · have hq' : (s.toList == [105, 110, 112, 117, 116]) = false := by rw [ByteArray.toList_eq]; exact beq_eq_false_iff_ne.2 hq
          have hne' : Hid (∀ j, j < 1 → kindWords[j]? ≠ some s.data.toList) := Lib.hid (fun j hj => by
            rcases Nat.lt_succ_iff_lt_or_eq.1 hj with h | rfl
            · exact hne.out j h
            · intro e; exact hq (by simpa [kindWords] using e.symm))
          clear hne hq
          go_wp2_with fail
          go_round
          case rel => exact ⟨1, by omega, rfl, hne'⟩
          case measure => simp [intOf]
      · by_cases hq : s.data.toList = [108, 97, 98, 101, 108]
        · obtain rfl : s = ⟨#[108, 97, 98, 101, 108]⟩ := eq_bstr hq
          have hfin : (kindOf [108, 97, 98, 101, 108]) = 2 := by decide
          have hfin' := Lib.hid hfin
          clear hfin hne
          go_wp2_with fail
          go_returns
          exact ⟨by rw [hfin'.out]; rfl, gr0⟩
        · have hq' : (s.toList == [108, 97, 98, 101, 108]) = false := by rw [ByteArray.toList_eq]; exact beq_eq_false_iff_ne.2 hq
          have hne' : Hid (∀ j, j < 2 → kindWords[j]? ≠ some s.data.toList) := Lib.hid (fun j hj => by
            rcases Nat.lt_succ_iff_lt_or_eq.1 hj with h | rfl
            · exact hne.out j h
            · intro e; exact hq (by simpa [kindWords] using e.symm))
          clear hne hq
          go_wp2_with fail
          go_round
          case rel => exact ⟨2, by omega, rfl, hne'⟩
          case measure => simp [intOf]
      · by_cases hq : s.data.toList = [112, 97, 114, 97, 109]
        · obtain rfl : s = ⟨#[112, 97, 114, 97, 109]⟩ := eq_bstr hq
          have hfin : (kindOf [112, 97, 114, 97, 109]) = 3 := by decide
          have hfin' := Lib.hid hfin
          clear hfin hne
          go_wp2_with fail
          go_returns
          exact ⟨by rw [hfin'.out]; rfl, gr0⟩
        · have hq' : (s.toList == [112, 97, 114, 97, 109]) = false := by rw [ByteArray.toList_eq]; exact beq_eq_false_iff_ne.2 hq
          have hne' : Hid (∀ j, j < 3 → kindWords[j]? ≠ some s.data.toList) := Lib.hid (fun j hj => by
            rcases Nat.lt_succ_iff_lt_or_eq.1 hj with h | rfl
            · exact hne.out j h
            · intro e; exact hq (by simpa [kindWords] using e.symm))
          clear hne hq
          go_wp2_with fail
          go_round
          case rel => exact ⟨3, by omega, rfl, hne'⟩
          case measure => simp [intOf]
      · by_cases hq : s.data.toList = [108, 101, 116]
        · obtain rfl : s = ⟨#[108, 101, 116]⟩ := eq_bstr hq
          have hfin : (kindOf [108, 101, 116]) = 4 := by decide
          have hfin' := Lib.hid hfin
          clear hfin hne
          go_wp2_with fail
          go_returns
          exact ⟨by rw [hfin'.out]; rfl, gr0⟩
        · have hq' : (s.toList == [108, 101, 116]) = false := by rw [ByteArray.toList_eq]; exact beq_eq_false_iff_ne.2 hq
          have hne' : Hid (∀ j, j < 4 → kindWords[j]? ≠ some s.data.toList) := Lib.hid (fun j hj => by
            rcases Nat.lt_succ_iff_lt_or_eq.1 hj with h | rfl
            · exact hne.out j h
            · intro e; exact hq (by simpa [kindWords] using e.symm))
          clear hne hq
          go_wp2_with fail
          go_round
          case rel => exact ⟨4, by omega, rfl, hne'⟩
          case measure => simp [intOf]
      · by_cases hq : s.data.toList = [111, 117, 116]
        · obtain rfl : s = ⟨#[111, 117, 116]⟩ := eq_bstr hq
          have hfin : (kindOf [111, 117, 116]) = 5 := by decide
          have hfin' := Lib.hid hfin
          clear hfin hne
          go_wp2_with fail
          go_returns
          exact ⟨by rw [hfin'.out]; rfl, gr0⟩
        · have hq' : (s.toList == [111, 117, 116]) = false := by rw [ByteArray.toList_eq]; exact beq_eq_false_iff_ne.2 hq
          have hne' : Hid (∀ j, j < 5 → kindWords[j]? ≠ some s.data.toList) := Lib.hid (fun j hj => by
            rcases Nat.lt_succ_iff_lt_or_eq.1 hj with h | rfl
            · exact hne.out j h
            · intro e; exact hq (by simpa [kindWords] using e.symm))
          clear hne hq
          go_wp2_with fail
          go_round
          case rel => exact ⟨5, by omega, rfl, hne'⟩
          case measure => simp [intOf]
      · by_cases hq : s.data.toList = [108, 111, 115, 115]
        · obtain rfl : s = ⟨#[108, 111, 115, 115]⟩ := eq_bstr hq
          have hfin : (kindOf [108, 111, 115, 115]) = 6 := by decide
          have hfin' := Lib.hid hfin
          clear hfin hne
          go_wp2_with fail
          go_returns
          exact ⟨by rw [hfin'.out]; rfl, gr0⟩
        · have hq' : (s.toList == [108, 111, 115, 115]) = false := by rw [ByteArray.toList_eq]; exact beq_eq_false_iff_ne.2 hq
          have hne' : Hid (∀ j, j < 6 → kindWords[j]? ≠ some s.data.toList) := Lib.hid (fun j hj => by
            rcases Nat.lt_succ_iff_lt_or_eq.1 hj with h | rfl
            · exact hne.out j h
            · intro e; exact hq (by simpa [kindWords] using e.symm))
          clear hne hq
          go_wp2_with fail
          go_round
          case rel => exact ⟨6, by omega, rfl, hne'⟩
          case measure => simp [intOf]
    · obtain rfl : i = 6 := by omega
      have hfin : kindOf s.data.toList = 0 := by
        have hnone : kindWords.findIdx? (fun x => x == s.data.toList) = none := List.findIdx?_eq_none_iff.2 (fun x hx => by
          obtain ⟨j, hj⟩ := List.mem_iff_getElem?.1 hx
          have hj6 : j < 6 := by have := (List.getElem?_eq_some_iff.1 hj).1; simpa [kindWords] using this
          refine beq_eq_false_iff_ne.2 fun e => hne.out j hj6 ?_
          rw [hj, e])
        unfold kindOf
        rw [hnone]
      have hfin' := Lib.hid hfin
      clear hfin hne
      go_wp2_with fail
      go_returns
      exact ⟨by rw [hfin'.out]; rfl, gr0⟩
end Go.Proofs.YtdkhedefcmjjgaaGreatDoor
