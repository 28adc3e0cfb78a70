/- scan's memory between two bytes of a line, in words for the walk; what its words are, bounded.
Conditions: none. -/
import Derived.Test.YtdkhedefcmjjgaaGreatDoorShut
import Derived.Lib.OthersKept
namespace Go.Proofs.YtdkhedefcmjjgaaGreatDoor
open Go.RowKit Sp
set_option linter.unusedVariables false
/-- The blocks of a scan: the line, the words, where a word began, its kind, the iterator. -/
structure ScanW (s : ByteArray) (w0 : World) (fr kd : Int) (p : Nat) (v : Value) (n : Nat) (xs : List Value) (wr : World) : Prop where
  hS : wr.heap[w0.heap.size]? = some (.cells #[.string s] 9 (0, 0))
  hO : wr.heap[w0.heap.size + 1]? = some (.cells #[v] 51 (0, 0))
  hF : wr.heap[w0.heap.size + 2]? = some (.cells #[.int .i64 fr] 3 (0, 0))
  hK : wr.heap[w0.heap.size + 3]? = some (.cells #[.int .u8 kd] 5 (0, 0))
  hI : wr.heap[w0.heap.size + 4]? = some (.stringIter s p)
  own : wr.ownsRow (w0.heap.size + 5) 70 2 v n xs
  bel : Below w0.heap.size w0 wr
theorem own_same {w w' : World} {base : Nat} {e : TypeId} {size : Nat} {v : Value} {n : Nat} {xs : List Value} (h : w.ownsRow base e size v n xs) (hk : ∀ g, v.ownBlock = some g → w'.heap[g]? = w.heap[g]?) : w'.ownsRow base e size v n xs := by
  refine ⟨h.1, ?_⟩
  rcases h.2 with h0 | ⟨g, cap, cur, rfl, h1, h2, h3⟩
  · exact .inl h0
  · exact .inr ⟨g, cap, cur, rfl, h1, (hk g rfl).trans h2, h3⟩
section
variable {s : ByteArray} {w0 : World} {fr kd : Int} {p : Nat} {v : Value} {n : Nat} {xs : List Value} {wr : World}
theorem ScanW.lt (h : ScanW s w0 fr kd p v n xs wr) : w0.heap.size + 5 ≤ wr.heap.size := heap_lt h.hI
theorem ScanW.far (h : ScanW s w0 fr kd p v n xs wr) : ∀ g, v.ownBlock = some g → w0.heap.size + 5 ≤ g ∧ g < wr.heap.size := h.own.lt
theorem ScanW.cS (h : ScanW s w0 fr kd p v n xs wr) : wr.cell? ⟨w0.heap.size, 0, none⟩ = some (.string s) := by rw [cell_heap h.hS]; rfl
theorem ScanW.cO (h : ScanW s w0 fr kd p v n xs wr) : wr.cell? ⟨w0.heap.size + 1, 0, none⟩ = some v := by rw [cell_heap h.hO]; rfl
theorem ScanW.cF (h : ScanW s w0 fr kd p v n xs wr) : wr.cell? ⟨w0.heap.size + 2, 0, none⟩ = some (.int .i64 fr) := by rw [cell_heap h.hF]; rfl
theorem ScanW.cK (h : ScanW s w0 fr kd p v n xs wr) : wr.cell? ⟨w0.heap.size + 3, 0, none⟩ = some (.int .u8 kd) := by rw [cell_heap h.hK]; rfl
theorem ScanW.fO (h : ScanW s w0 fr kd p v n xs wr) : wr.frozen? ⟨w0.heap.size + 1, 0, none⟩ = false := free_heap h.hO 0
theorem ScanW.fF (h : ScanW s w0 fr kd p v n xs wr) : wr.frozen? ⟨w0.heap.size + 2, 0, none⟩ = false := free_heap h.hF 0
theorem ScanW.fK (h : ScanW s w0 fr kd p v n xs wr) : wr.frozen? ⟨w0.heap.size + 3, 0, none⟩ = false := free_heap h.hK 0
/-- At the beginning. -/
theorem ScanW.start (s : ByteArray) (w0 : World) : ScanW s w0 (-1) 0 0 (.slice none 0 0) 0 [] (((((w0.alloc (.cells #[.string s] 9)).alloc (.cells #[.slice none 0 0] 51)).alloc (.cells #[.int .i64 (-1)] 3)).alloc (.cells #[.int .u8 0] 5)).alloc (.stringIter s 0)) := by
  have hs : ∀ (w : World) (o o' : Obj) (k : Nat), w.heap.size = k → ((w.alloc o).alloc o').heap[k]? = some o := fun w o o' k hk => by
    rw [Below.heap_alloc _ _ _ (by simp <;> omega), ← hk]; exact heap_alloc_new _ _
  refine ⟨?_, ?_, ?_, ?_, ?_, World.ownsRow_nil _ _ _ _, ?_⟩
  · rw [Below.heap_alloc _ _ _ (by simp <;> omega), Below.heap_alloc _ _ _ (by simp <;> omega), Below.heap_alloc _ _ _ (by simp <;> omega), hs _ _ _ _ rfl]
  · rw [Below.heap_alloc _ _ _ (by simp <;> omega), Below.heap_alloc _ _ _ (by simp <;> omega), hs _ _ _ _ (by simp)]
  · rw [Below.heap_alloc _ _ _ (by simp <;> omega), hs _ _ _ _ (by simp)]
  · rw [hs _ _ _ _ (by simp)]
  · have := heap_alloc_new ((((w0.alloc (.cells #[.string s] 9)).alloc (.cells #[.slice none 0 0] 51)).alloc (.cells #[.int .i64 (-1)] 3)).alloc (.cells #[.int .u8 0] 5)) (.stringIter s 0)
    simpa using this
  · exact (((((Below.refl _ _).alloc (Nat.le_refl _) _).alloc (by simp) _).alloc (by simp <;> omega) _).alloc (by simp <;> omega) _).alloc (by simp <;> omega) _
theorem ScanW.drew (h : ScanW s w0 fr kd p v n xs wr) : ScanW s w0 fr kd p v n xs wr.drew := ⟨h.hS, h.hO, h.hF, h.hK, h.hI, h.own, h.bel.drew⟩
/-- The iterator moved on. -/
theorem ScanW.iter (h : ScanW s w0 fr kd p v n xs wr) (q : Nat) : ScanW s w0 fr kd q v n xs (wr.iterAt (w0.heap.size + 4) s q) := by
  have k : ∀ j, j ≠ w0.heap.size + 4 → (wr.iterAt (w0.heap.size + 4) s q).heap[j]? = wr.heap[j]? := fun j hj => Lib.iterAt_other _ _ _ _ _ hj
  refine ⟨(k _ (by omega)).trans h.hS, (k _ (by omega)).trans h.hO, (k _ (by omega)).trans h.hF, (k _ (by omega)).trans h.hK, Lib.iterAt_heap _ _ _ _ _ h.hI, own_same h.own (fun g hg => k _ (by have := (h.far g hg).1; omega)), Lib.below_iterAt h.bel (by omega) _ _⟩
theorem ScanW.setF (h : ScanW s w0 fr kd p v n xs wr) (x : Int) : ScanW s w0 x kd p v n xs (wr.setCell ⟨w0.heap.size + 2, 0, none⟩ (.int .i64 x)) := by
  have k : ∀ j, j ≠ w0.heap.size + 2 → (wr.setCell ⟨w0.heap.size + 2, 0, none⟩ (.int .i64 x)).heap[j]? = wr.heap[j]? := fun j hj => Below.heap_setCell _ _ _ _ hj
  refine ⟨(k _ (by omega)).trans h.hS, (k _ (by omega)).trans h.hO, ?_, (k _ (by omega)).trans h.hK, (k _ (by omega)).trans h.hI, own_same h.own (fun g hg => k _ (by have := (h.far g hg).1; omega)), h.bel.setCell (by show w0.heap.size ≤ _; simp) _⟩
  have := set_heap h.hF 0 (.int .i64 x)
  simpa using this
theorem ScanW.setK (h : ScanW s w0 fr kd p v n xs wr) (x : Int) : ScanW s w0 fr x p v n xs (wr.setCell ⟨w0.heap.size + 3, 0, none⟩ (.int .u8 x)) := by
  have k : ∀ j, j ≠ w0.heap.size + 3 → (wr.setCell ⟨w0.heap.size + 3, 0, none⟩ (.int .u8 x)).heap[j]? = wr.heap[j]? := fun j hj => Below.heap_setCell _ _ _ _ hj
  refine ⟨(k _ (by omega)).trans h.hS, (k _ (by omega)).trans h.hO, (k _ (by omega)).trans h.hF, ?_, (k _ (by omega)).trans h.hI, own_same h.own (fun g hg => k _ (by have := (h.far g hg).1; omega)), h.bel.setCell (by show w0.heap.size ≤ _; simp) _⟩
  have := set_heap h.hK 0 (.int .u8 x)
  simpa using this
/-- A word more. -/
theorem ScanW.push {o : Obj} {w2 : World} {v' : Value} {m : Nat} {ys : List Value} (h : ScanW s w0 fr kd p v n xs wr) (hg : (wr.alloc o).grownBy w2 v.ownBlock) (hown : w2.ownsRow (w0.heap.size + 5) 70 2 v' m ys) :
    ScanW s w0 fr kd p v' m ys (w2.setCell ⟨w0.heap.size + 1, 0, none⟩ v') := by
  have hl := h.lt
  have k2 : ∀ j, j < w0.heap.size + 5 → w2.heap[j]? = wr.heap[j]? := fun j hj =>
    (hg.block j (by simp <;> omega) (fun e => by have := (h.far j e.symm).1; omega)).trans (Below.heap_alloc _ _ _ (by omega))
  have k : ∀ j, j ≠ w0.heap.size + 1 → (w2.setCell ⟨w0.heap.size + 1, 0, none⟩ v').heap[j]? = w2.heap[j]? := fun j hj => Below.heap_setCell _ _ _ _ hj
  refine ⟨(k _ (by omega)).trans ((k2 _ (by omega)).trans h.hS), ?_, (k _ (by omega)).trans ((k2 _ (by omega)).trans h.hF), (k _ (by omega)).trans ((k2 _ (by omega)).trans h.hK), (k _ (by omega)).trans ((k2 _ (by omega)).trans h.hI), own_same hown (fun g hg => k _ (by have := (hown.lt g hg).1; omega)), ?_⟩
  · have := set_heap ((k2 _ (by omega)).trans h.hO) 0 v'
    simpa using this
  · exact ((h.bel.alloc (by omega) o).grown hg (by simp <;> omega) (fun j e => by have := (h.far j e).1; omega)).setCell (by show w0.heap.size ≤ _; simp) _
end
theorem ownsRow_toks {w : World} {B : Nat} {v : Value} {ts : List Tok} (h : w.ownsRow B 70 2 v ts.length (flat ts)) (T0 : Nat) (hT0 : T0 < w.heap.size) : ∃ T, TokS w T v ts ∧ T < w.heap.size ∧ (T = T0 ∨ B ≤ T) := by
  rcases h.2 with ⟨rfl, h0⟩ | ⟨g, cap, cur, rfl, hb, hh, hn, hm, hs, ht⟩
  · have : ts = [] := List.eq_nil_of_length_eq_zero h0
    subst this
    exact ⟨T0, ⟨none, 0, rfl, by simp, by omega, fun hne => absurd rfl hne⟩, hT0, .inl rfl⟩
  · refine ⟨g, ⟨some ⟨g, 0, none⟩, cap, rfl, hn, by unfold maxLen at hm; exact hm, fun _ => ⟨0, rfl, fun j u hu => ?_⟩⟩, heap_lt hh, .inr hb⟩
    have := h.cells (g := g) rfl j u hu
    rwa [add_plain'] at this
end Go.Proofs.YtdkhedefcmjjgaaGreatDoor
