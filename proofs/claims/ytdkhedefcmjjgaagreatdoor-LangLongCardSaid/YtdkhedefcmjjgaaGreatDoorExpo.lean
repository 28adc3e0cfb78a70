/- exponent, walked: does a minus belong to the number ahead of it?
Conditions: where the word begins and where it ends lie in the line. -/
import Derived.Test.YtdkhedefcmjjgaaGreatDoorKnown
namespace Go.Proofs.YtdkhedefcmjjgaaGreatDoor
open Go.RowKit Sp
set_option linter.unusedVariables false
set_option linter.unusedSimpArgs false
set_option maxHeartbeats 1000000 in
theorem exponent_none (s : ByteArray) (i : Int) (w : World) : Calls Tryz.prog 32 #[.string s, .int .i64 (-1), .int .i64 i] w fun e w' => e = .returned (.bool false) ∧ w = w' := by
  go_enter Tryz.func32, Tryz.ntmps32
  go_wp2
  go_returns
  exact ⟨rfl, rfl⟩
set_option maxHeartbeats 2000000 in
theorem exponent_some (s : ByteArray) (a i : Nat) (w : World) (ha : a < i) (hi : i < s.size) (hs : s.size ≤ 1000000) :
    Calls Tryz.prog 32 #[.string s, .int .i64 a, .int .i64 i] w fun e w' => e = .returned (.bool ((s[i - 1] == 101) && ten s[a] && (s[a + 1] != 120))) ∧ w = w' := by
  have g0 : ¬ ((a : Int) < 0) := by omega
  have i1 : (i : Int) - 1 = ((i - 1 : Nat) : Int) := by omega
  have i2 : (a : Int) + 1 = ((a + 1 : Nat) : Int) := by omega
  have hl : ¬ ((s.size : Int) ≤ (a : Int) + 1) := by omega
  have u1 : (((s[i - 1]).toNat : Int) != 101) = (s[i - 1] != 101) := u8_ne _ 101
  have u4 : (((s[a + 1]).toNat : Int) != 120) = (s[a + 1] != 120) := u8_ne _ 120
  have t1 : ten s[a] = (decide (48 ≤ ((s[a]).toNat : Int)) && decide (((s[a]).toNat : Int) ≤ 57)) := by
    unfold ten; simp only [UInt8.le_iff_toNat_le, decide_eq_decide]; congr 1 <;> (simp only [decide_eq_decide]; exact ⟨fun h => by simp at h ⊢; omega, fun h => by simp at h ⊢; omega⟩)
  have t1' := Lib.hid t1
  clear t1
  by_cases c1 : s[i - 1] = 101
  · have k1 : (((s[i - 1]).toNat : Int) != 101) = false := by rw [u1]; simpa using c1
    by_cases c2 : ((s[a]).toNat : Int) < 48
    · have hfin : Hid (((s[i - 1] == 101) && ten s[a] && (s[a + 1] != 120)) = false) := Lib.hid (by rw [t1'.out, show decide (48 ≤ ((s[a]).toNat : Int)) = false from decide_eq_false (by omega)]; simp)
      clear u1 u4 c1
      go_enter Tryz.func32, Tryz.ntmps32
      go_wp2
      go_returns
      exact ⟨by rw [hfin.out]; rfl, rfl⟩
    · by_cases c3 : (57 : Int) < ((s[a]).toNat : Int)
      · have hfin : Hid (((s[i - 1] == 101) && ten s[a] && (s[a + 1] != 120)) = false) := Lib.hid (by rw [t1'.out, show decide (((s[a]).toNat : Int) ≤ 57) = false from decide_eq_false (by omega)]; simp)
        clear u1 u4 c1
        go_enter Tryz.func32, Tryz.ntmps32
        go_wp2
        go_returns
        exact ⟨by rw [hfin.out]; rfl, rfl⟩
      · have hfin : Hid (((s[i - 1] == 101) && ten s[a] && (s[a + 1] != 120)) = (((s[a + 1]).toNat : Int) != 120)) := Lib.hid (by rw [t1'.out, show decide (48 ≤ ((s[a]).toNat : Int)) = true from decide_eq_true (by omega), show decide (((s[a]).toNat : Int) ≤ 57) = true from decide_eq_true (by omega), c1, u4]; simp)
        clear u1 u4 c1 i2
        have i3 : (a : Int) + 1 < (s.size : Int) := by omega
        have i4 : (0 : Int) ≤ (a : Int) + 1 := by omega
        go_enter Tryz.func32, Tryz.ntmps32
        go_wp2
        go_returns
        exact ⟨by rw [hfin.out]; rfl, rfl⟩
  · have k1 : (((s[i - 1]).toNat : Int) != 101) = true := by rw [u1]; simpa using c1
    have hfin : Hid (((s[i - 1] == 101) && ten s[a] && (s[a + 1] != 120)) = false) := Lib.hid (by rw [show (s[i - 1] == 101) = false from beq_eq_false_iff_ne.2 c1]; rfl)
    clear u1 u4 c1
    go_enter Tryz.func32, Tryz.ntmps32
    go_wp2
    go_returns
    exact ⟨by rw [hfin.out]; rfl, rfl⟩
end Go.Proofs.YtdkhedefcmjjgaaGreatDoor
