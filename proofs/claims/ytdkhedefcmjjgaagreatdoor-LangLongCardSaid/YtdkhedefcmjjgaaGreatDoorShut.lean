/- scan's own closure, walked: a word that was begun is laid behind the others.
Conditions: where the word begins and ends lies in the line; the row of words is short. -/
import Derived.Test.YtdkhedefcmjjgaaGreatDoorMem
import Derived.Deep.RegionLaw
import Derived.Maps.AppendAt
import Derived.Deep.AppendLies
import Derived.OneCell
import Derived.Lib.Hide
import Derived.Handy
namespace Go.Proofs.YtdkhedefcmjjgaaGreatDoor
open Go.RowKit Sp
set_option linter.unusedSimpArgs false
set_option linter.unusedVariables false
theorem under51 : Tryz.prog.underlying 51 = some (.slice 70) := by kernel_rfl
theorem info70z : (Tryz.prog.info? 70).map (fun i => (i.zero, i.size, i.bytes)) = some (some (.agg #[.int .u8 0, .string ⟨#[]⟩]), 2, 24) := by kernel_rfl
set_option maxHeartbeats 1000000 in
/-- No word was begun. -/
theorem shut_none (i : Int) (S O K L : Nat) (w : World) (hS : w.cell? ⟨S, 0, none⟩ = some (.int .i64 (-1))) (hf : w.frozen? ⟨S, 0, none⟩ = false) :
    Calls Tryz.prog 31 #[.int .i64 i, .pointer (some ⟨S, 0, none⟩), .pointer (some ⟨O, 0, none⟩), .pointer (some ⟨K, 0, none⟩), .pointer (some ⟨L, 0, none⟩)] w fun e w' => e = .returned (.tuple #[]) ∧ w.setCell ⟨S, 0, none⟩ (.int .i64 (-1)) = w' := by
  go_enter Tryz.func31, Tryz.ntmps31
  go_wp2
  go_end0
  exact ⟨rfl, rfl⟩
set_option maxRecDepth 100000 in
set_option maxHeartbeats 4000000 in
/-- A word was begun at a. -/
theorem shut_some (s : ByteArray) (a i : Nat) (hai : a ≤ i) (his : i ≤ s.size) (hss : s.size ≤ 1000000) (kd : Int) (S O K L B : Nat) (v : Value) (n : Nat) (xs : List Value) (hn : n ≤ 1000000) (w : World)
    (hS : w.cell? ⟨S, 0, none⟩ = some (.int .i64 a)) (hf : w.frozen? ⟨S, 0, none⟩ = false) (hO : w.cell? ⟨O, 0, none⟩ = some v) (hOf : w.frozen? ⟨O, 0, none⟩ = false) (hK : w.cell? ⟨K, 0, none⟩ = some (.int .u8 kd)) (hL : w.cell? ⟨L, 0, none⟩ = some (.string s))
    (hown : w.ownsRow B 70 2 v n xs) (hSB : S < B) (hOB : O < B) (hB : B ≤ w.heap.size) (hSO : S ≠ O) :
    Calls Tryz.prog 31 #[.int .i64 i, .pointer (some ⟨S, 0, none⟩), .pointer (some ⟨O, 0, none⟩), .pointer (some ⟨K, 0, none⟩), .pointer (some ⟨L, 0, none⟩)] w fun e w' => e = .returned (.tuple #[]) ∧
      ∃ g cap w2, (w.alloc (.cells #[.int .u8 kd, .string (s.extract a i)] 70)).grownBy w2 v.ownBlock ∧ w2.ownsRow B 70 2 (.slice (some ⟨g, 0, none⟩) (n + 1) cap) (n + 1) (xs ++ [.int .u8 kd, .string (s.extract a i)]) ∧ w' = (w2.setCell ⟨O, 0, none⟩ (.slice (some ⟨g, 0, none⟩) (n + 1) cap)).setCell ⟨S, 0, none⟩ (.int .i64 (-1)) := by
  obtain ⟨i0, hi0, hz0, hz1, hz2⟩ := info_parts info70z
  have ha0 : (0 : Int) ≤ (a : Int) := by omega
  have hai' : (a : Int) ≤ (i : Int) := by omega
  have his' : (i : Int) ≤ (s.size : Int) := by omega
  have LO := fun o => cell_old ((Below.refl w.heap.size w).alloc (Nat.le_refl _) o) hO
  have LS := fun o => cell_old ((Below.refl w.heap.size w).alloc (Nat.le_refl _) o) hS
  have LK := fun o => cell_old ((Below.refl w.heap.size w).alloc (Nat.le_refl _) o) hK
  have LL := fun o => cell_old ((Below.refl w.heap.size w).alloc (Nat.le_refl _) o) hL
  go_enter Tryz.func31, Tryz.ntmps31
  go_wp2_with fail
  have hm5 : n + 1 ≤ maxLen := by unfold maxLen; omega
  have hb5 : (n + 1) * 24 ≤ 140737488355328 := by omega
  have nvO : (some O : Option Nat) ≠ v.ownBlock := fun e => by have := (hown.lt O e.symm).1; omega
  have nvS : (some S : Option Nat) ≠ v.ownBlock := fun e => by have := (hown.lt S e.symm).1; omega
  have hcell : ∀ (p : Addr) (u : Value), w.cell? p = some u → (w.drew.alloc (.cells #[.int .u8 kd, .string (s.extract a i)] 70)).cell? p = some u := fun p u h => cell_old ((Below.refl _ _).drew.alloc (Nat.le_refl _) _) h
  have hfr : ∀ (p : Addr), p.block < w.heap.size → w.frozen? p = false → (w.drew.alloc (.cells #[.int .u8 kd, .string (s.extract a i)] 70)).frozen? p = false := fun p hp h => ((((Below.refl w.heap.size w).drew.alloc (Nat.le_refl _) _).frozen hp)).trans h
  have Hc := Lib.hid hcell
  have Hf := Lib.hid hfr
  clear hcell hfr
  have HN := Lib.hid nvO
  have HNS := Lib.hid nvS
  clear nvO nvS
  go_region_law (first | (refine step_append_lies _ rfl _ _ _ rfl B 70 i0 _ 2 24 under51 hi0 hz0 hz1 hz2 rfl (by decide) v n xs (by simp [Act.eval, Act.put]) (hown.drew.alloc _) ⟨w.heap.size, 0, none⟩ 1 1 [.int .u8 kd, .string (s.extract a i)] (by simp [Act.eval, Act.put]) rfl (World.news_of_block (heap_alloc_new _ _)) (by simp [Value.oneCell']) (by omega) hm5 hb5 (by simp; omega) _ rfl ?_; intro g cap wa hown2 hga hat hlt; have jO := (hga.cell_far ⟨O, 0, none⟩ (by simp; omega) HN.out).trans (Hc.out ⟨O, 0, none⟩ _ hO); have jOf := (hga.frozen_far ⟨O, 0, none⟩ (by simp; omega) HN.out).trans (Hf.out ⟨O, 0, none⟩ (by show O < w.heap.size; omega) hOf); have jS := (hga.cell_far ⟨S, 0, none⟩ (by simp; omega) HNS.out).trans (Hc.out ⟨S, 0, none⟩ _ hS); have jSf := (hga.frozen_far ⟨S, 0, none⟩ (by simp; omega) HNS.out).trans (Hf.out ⟨S, 0, none⟩ (by show S < w.heap.size; omega) hf)))
  all_goals
    go_wp2
    go_end0
    exact ⟨rfl, g, cap, wa, ⟨hga.os, hga.tape, hga.output, hga.size, hga.block⟩, hown2, rfl⟩
end Go.Proofs.YtdkhedefcmjjgaaGreatDoor
