/- num, walked: an error's number.
Conditions: none. -/
import Derived.Test.YtdkhedefcmjjgaaGreatDoorMIsName
import Derived.Test.YtdkhedefcmjjgaaGreatDoorMSign
import Derived.Test.YtdkhedefcmjjgaaGreatDoorMSpec
import Derived.Deep.RegionLaw
import Derived.Maps.AppendAt
import Derived.Deep.AppendLies
import Derived.OneCell
import Derived.Lib.Hide
import Derived.Handy
namespace Go.Proofs.YtdkhedefcmjjgaaGreatDoor
open Go.RowKit Sp
set_option linter.unusedSimpArgs false
theorem num_any (n : Int) (w : World) : Calls Tryz.prog 7 #[.int .i64 n] w fun e w' => e = .returned (.int .i64 n) ∧ w = w' := by
  go_enter Tryz.func7, Tryz.ntmps7
  go_wp2
  go_returns
  exact ⟨rfl, rfl⟩
end Go.Proofs.YtdkhedefcmjjgaaGreatDoor
/- exponent, walked: does a minus belong to the number ahead of it?
Conditions: where the word begins and where it ends lie in the line. -/
namespace Go.Proofs.YtdkhedefcmjjgaaGreatDoor
open Go.RowKit Sp
set_option linter.unusedVariables false
set_option linter.unusedSimpArgs false
set_option maxHeartbeats 1000000 in
theorem exponent_none (s : ByteArray) (i : Int) (w : World) : Calls Tryz.prog 32 #[.string s, .int .i64 (-1), .int .i64 i] w fun e w' => e = .returned (.bool false) ∧ w = w' := by
  go_enter Tryz.func32, Tryz.ntmps32
  go_wp2
  go_returns
  exact ⟨rfl, rfl⟩
set_option maxHeartbeats 2000000 in
theorem exponent_some (s : ByteArray) (a i : Nat) (w : World) (ha : a < i) (hi : i < s.size) (hs : s.size ≤ 1000000) :
    Calls Tryz.prog 32 #[.string s, .int .i64 a, .int .i64 i] w fun e w' => e = .returned (.bool ((s[i - 1] == 101) && ten s[a] && (s[a + 1] != 120))) ∧ w = w' := by
  have g0 : ¬ ((a : Int) < 0) := by omega
  have i1 : (i : Int) - 1 = ((i - 1 : Nat) : Int) := by omega
  have i2 : (a : Int) + 1 = ((a + 1 : Nat) : Int) := by omega
  have hl : ¬ ((s.size : Int) ≤ (a : Int) + 1) := by omega
  have u1 : (((s[i - 1]).toNat : Int) != 101) = (s[i - 1] != 101) := u8_ne _ 101
  have u4 : (((s[a + 1]).toNat : Int) != 120) = (s[a + 1] != 120) := u8_ne _ 120
  have t1 : ten s[a] = (decide (48 ≤ ((s[a]).toNat : Int)) && decide (((s[a]).toNat : Int) ≤ 57)) := by
    unfold ten; simp only [UInt8.le_iff_toNat_le, decide_eq_decide]; congr 1 <;> (simp only [decide_eq_decide]; exact ⟨fun h => by simp at h ⊢; omega, fun h => by simp at h ⊢; omega⟩)
  have t1' := Lib.hid t1
  clear t1
  by_cases c1 : s[i - 1] = 101
  · have k1 : (((s[i - 1]).toNat : Int) != 101) = false := by rw [u1]; simpa using c1
    by_cases c2 : ((s[a]).toNat : Int) < 48
    · have hfin : Hid (((s[i - 1] == 101) && ten s[a] && (s[a + 1] != 120)) = false) := Lib.hid (by rw [t1'.out, show decide (48 ≤ ((s[a]).toNat : Int)) = false from decide_eq_false (by omega)]; simp)
      clear u1 u4 c1
      go_enter Tryz.func32, Tryz.ntmps32
      go_wp2
      go_returns
      exact ⟨by rw [hfin.out]; rfl, rfl⟩
    · by_cases c3 : (57 : Int) < ((s[a]).toNat : Int)
      · have hfin : Hid (((s[i - 1] == 101) && ten s[a] && (s[a + 1] != 120)) = false) := Lib.hid (by rw [t1'.out, show decide (((s[a]).toNat : Int) ≤ 57) = false from decide_eq_false (by omega)]; simp)
        clear u1 u4 c1
        go_enter Tryz.func32, Tryz.ntmps32
        go_wp2
        go_returns
        exact ⟨by rw [hfin.out]; rfl, rfl⟩
      · have hfin : Hid (((s[i - 1] == 101) && ten s[a] && (s[a + 1] != 120)) = (((s[a + 1]).toNat : Int) != 120)) := Lib.hid (by rw [t1'.out, show decide (48 ≤ ((s[a]).toNat : Int)) = true from decide_eq_true (by omega), show decide (((s[a]).toNat : Int) ≤ 57) = true from decide_eq_true (by omega), c1, u4]; simp)
        clear u1 u4 c1 i2
        have i3 : (a : Int) + 1 < (s.size : Int) := by omega
        have i4 : (0 : Int) ≤ (a : Int) + 1 := by omega
        go_enter Tryz.func32, Tryz.ntmps32
        go_wp2
        go_returns
        exact ⟨by rw [hfin.out]; rfl, rfl⟩
  · have k1 : (((s[i - 1]).toNat : Int) != 101) = true := by rw [u1]; simpa using c1
    have hfin : Hid (((s[i - 1] == 101) && ten s[a] && (s[a + 1] != 120)) = false) := Lib.hid (by rw [show (s[i - 1] == 101) = false from beq_eq_false_iff_ne.2 c1]; rfl)
    clear u1 u4 c1
    go_enter Tryz.func32, Tryz.ntmps32
    go_wp2
    go_returns
    exact ⟨by rw [hfin.out]; rfl, rfl⟩
end Go.Proofs.YtdkhedefcmjjgaaGreatDoor
/- scan's own closure, walked: a word that was begun is laid behind the others.
Conditions: where the word begins and ends lies in the line; the row of words is short. -/
namespace Go.Proofs.YtdkhedefcmjjgaaGreatDoor
open Go.RowKit Sp
set_option linter.unusedSimpArgs false
set_option linter.unusedVariables false
theorem under51 : Tryz.prog.underlying 51 = some (.slice 70) := by kernel_rfl
theorem info70z : (Tryz.prog.info? 70).map (fun i => (i.zero, i.size, i.bytes)) = some (some (.agg #[.int .u8 0, .string ⟨#[]⟩]), 2, 24) := by kernel_rfl
set_option maxHeartbeats 1000000 in
/-- No word was begun. -/
theorem shut_none (i : Int) (S O K L : Nat) (w : World) (hS : w.cell? ⟨S, 0, none⟩ = some (.int .i64 (-1))) (hf : w.frozen? ⟨S, 0, none⟩ = false) :
    Calls Tryz.prog 31 #[.int .i64 i, .pointer (some ⟨S, 0, none⟩), .pointer (some ⟨O, 0, none⟩), .pointer (some ⟨K, 0, none⟩), .pointer (some ⟨L, 0, none⟩)] w fun e w' => e = .returned (.tuple #[]) ∧ w.setCell ⟨S, 0, none⟩ (.int .i64 (-1)) = w' := by
  go_enter Tryz.func31, Tryz.ntmps31
  go_wp2
  go_end0
  exact ⟨rfl, rfl⟩
set_option maxRecDepth 100000 in
set_option maxHeartbeats 4000000 in
/-- A word was begun at a. -/
theorem shut_some (s : ByteArray) (a i : Nat) (hai : a ≤ i) (his : i ≤ s.size) (hss : s.size ≤ 1000000) (kd : Int) (S O K L B : Nat) (v : Value) (n : Nat) (xs : List Value) (hn : n ≤ 1000000) (w : World)
    (hS : w.cell? ⟨S, 0, none⟩ = some (.int .i64 a)) (hf : w.frozen? ⟨S, 0, none⟩ = false) (hO : w.cell? ⟨O, 0, none⟩ = some v) (hOf : w.frozen? ⟨O, 0, none⟩ = false) (hK : w.cell? ⟨K, 0, none⟩ = some (.int .u8 kd)) (hL : w.cell? ⟨L, 0, none⟩ = some (.string s))
    (hown : w.ownsRow B 70 2 v n xs) (hSB : S < B) (hOB : O < B) (hB : B ≤ w.heap.size) (hSO : S ≠ O) :
    Calls Tryz.prog 31 #[.int .i64 i, .pointer (some ⟨S, 0, none⟩), .pointer (some ⟨O, 0, none⟩), .pointer (some ⟨K, 0, none⟩), .pointer (some ⟨L, 0, none⟩)] w fun e w' => e = .returned (.tuple #[]) ∧
      ∃ g cap w2, (w.alloc (.cells #[.int .u8 kd, .string (s.extract a i)] 70)).grownBy w2 v.ownBlock ∧ w2.ownsRow B 70 2 (.slice (some ⟨g, 0, none⟩) (n + 1) cap) (n + 1) (xs ++ [.int .u8 kd, .string (s.extract a i)]) ∧ w' = (w2.setCell ⟨O, 0, none⟩ (.slice (some ⟨g, 0, none⟩) (n + 1) cap)).setCell ⟨S, 0, none⟩ (.int .i64 (-1)) := by
  obtain ⟨i0, hi0, hz0, hz1, hz2⟩ := info_parts info70z
  have ha0 : (0 : Int) ≤ (a : Int) := by omega
  have hai' : (a : Int) ≤ (i : Int) := by omega
  have his' : (i : Int) ≤ (s.size : Int) := by omega
  have LO := fun o => cell_old ((Below.refl w.heap.size w).alloc (Nat.le_refl _) o) hO
  have LS := fun o => cell_old ((Below.refl w.heap.size w).alloc (Nat.le_refl _) o) hS
  have LK := fun o => cell_old ((Below.refl w.heap.size w).alloc (Nat.le_refl _) o) hK
  have LL := fun o => cell_old ((Below.refl w.heap.size w).alloc (Nat.le_refl _) o) hL
  go_enter Tryz.func31, Tryz.ntmps31
  go_wp2_with fail
  have hm5 : n + 1 ≤ maxLen := by unfold maxLen; omega
  have hb5 : (n + 1) * 24 ≤ 140737488355328 := by omega
  have nvO : (some O : Option Nat) ≠ v.ownBlock := fun e => by have := (hown.lt O e.symm).1; omega
  have nvS : (some S : Option Nat) ≠ v.ownBlock := fun e => by have := (hown.lt S e.symm).1; omega
  have hcell : ∀ (p : Addr) (u : Value), w.cell? p = some u → (w.drew.alloc (.cells #[.int .u8 kd, .string (s.extract a i)] 70)).cell? p = some u := fun p u h => cell_old ((Below.refl _ _).drew.alloc (Nat.le_refl _) _) h
  have hfr : ∀ (p : Addr), p.block < w.heap.size → w.frozen? p = false → (w.drew.alloc (.cells #[.int .u8 kd, .string (s.extract a i)] 70)).frozen? p = false := fun p hp h => ((((Below.refl w.heap.size w).drew.alloc (Nat.le_refl _) _).frozen hp)).trans h
  have Hc := Lib.hid hcell
  have Hf := Lib.hid hfr
  clear hcell hfr
  have HN := Lib.hid nvO
  have HNS := Lib.hid nvS
  clear nvO nvS
  go_region_law (first | (refine step_append_lies _ rfl _ _ _ rfl B 70 i0 _ 2 24 under51 hi0 hz0 hz1 hz2 rfl (by decide) v n xs (by simp [Act.eval, Act.put]) (hown.drew.alloc _) ⟨w.heap.size, 0, none⟩ 1 1 [.int .u8 kd, .string (s.extract a i)] (by simp [Act.eval, Act.put]) rfl (World.news_of_block (heap_alloc_new _ _)) (by simp [Value.oneCell']) (by omega) hm5 hb5 (by simp; omega) _ rfl ?_; intro g cap wa hown2 hga hat hlt; have jO := (hga.cell_far ⟨O, 0, none⟩ (by simp; omega) HN.out).trans (Hc.out ⟨O, 0, none⟩ _ hO); have jOf := (hga.frozen_far ⟨O, 0, none⟩ (by simp; omega) HN.out).trans (Hf.out ⟨O, 0, none⟩ (by show O < w.heap.size; omega) hOf); have jS := (hga.cell_far ⟨S, 0, none⟩ (by simp; omega) HNS.out).trans (Hc.out ⟨S, 0, none⟩ _ hS); have jSf := (hga.frozen_far ⟨S, 0, none⟩ (by simp; omega) HNS.out).trans (Hf.out ⟨S, 0, none⟩ (by show S < w.heap.size; omega) hf)))
  all_goals
    go_wp2
    go_end0
    exact ⟨rfl, g, cap, wa, ⟨hga.os, hga.tape, hga.output, hga.size, hga.block⟩, hown2, rfl⟩
end Go.Proofs.YtdkhedefcmjjgaaGreatDoor
