/- A declaration in memory; frames that let a reader's cells and one block go.
Conditions: none. -/
import Derived.Test.YtdkhedefcmjjgaaGreatDoorTree
namespace Go.Proofs.YtdkhedefcmjjgaaGreatDoor
open Go.RowKit Sp
set_option linter.unusedSimpArgs false
set_option linter.unusedVariables false
/-- Twelve cells. -/
def dcs (kind line : Int) (name : ByteArray) (rows cols init a b k bits : Int) (en : ByteArray) (sl : Value) : Array Value :=
  #[.int .i64 kind, .int .i64 line, .string name, .int .i64 rows, .int .i64 cols, .int .i64 init, .int .i64 a, .int .i64 b, .int .i64 k, .int .i64 bits, .string en, sl]
/-- All but blocks R and D is as it was. -/
structure Gr2 (w w' : World) (R D : Nat) : Prop where
  os : w'.os = w.os
  tape : w'.tape = w.tape
  output : w'.output = w.output
  size : w.heap.size ≤ w'.heap.size
  block : ∀ k, k < w.heap.size → k ≠ R → k ≠ D → w'.heap[k]? = w.heap[k]?
theorem Gr2.refl (w : World) (R D : Nat) : Gr2 w w R D := ⟨rfl, rfl, rfl, Nat.le_refl _, fun _ _ _ _ => rfl⟩
theorem Gr2.trans {a b c : World} {R D : Nat} (h : Gr2 a b R D) (k : Gr2 b c R D) : Gr2 a c R D :=
  ⟨k.os.trans h.os, k.tape.trans h.tape, k.output.trans h.output, Nat.le_trans h.size k.size, fun i hi h1 h2 => (k.block i (Nat.lt_of_lt_of_le hi h.size) h1 h2).trans (h.block i hi h1 h2)⟩
theorem Gr2.grown {a b c : World} {R D : Nat} (h : Gr2 a b R D) (k : b.grownBy c (some R)) : Gr2 a c R D :=
  h.trans ⟨k.os, k.tape, k.output, k.size, fun i hi h1 _ => k.block i hi (by intro e; injection e with e; exact h1 e)⟩
theorem Gr2.set {a b : World} {R D : Nat} (h : Gr2 a b R D) (i : Nat) (u : Value) : Gr2 a (b.setCell ⟨D, i, none⟩ u) R D :=
  ⟨h.os, h.tape, h.output, by simp only [World.size_setCell]; exact h.size, fun k hk h1 h2 => (Below.heap_setCell _ _ _ _ h2).trans (h.block k hk h1 h2)⟩
theorem Gr2.over {a b c : World} {R D : Nat} (h : a.grownBy b (some R)) (k : Gr2 b c R D) (hD : a.heap.size ≤ D) : a.grownBy c (some R) :=
  ⟨k.os.trans h.os, k.tape.trans h.tape, k.output.trans h.output, Nat.le_trans h.size k.size, fun i hi h1 => (k.block i (Nat.lt_of_lt_of_le hi h.size) (by intro e; exact h1 (by rw [e])) (by omega)).trans (h.block i hi h1)⟩
end Go.Proofs.YtdkhedefcmjjgaaGreatDoor
