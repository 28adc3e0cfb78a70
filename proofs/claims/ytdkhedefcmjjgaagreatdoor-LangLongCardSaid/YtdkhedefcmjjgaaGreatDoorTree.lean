/- Expressions in memory: a tree of rows; what stays of it when other blocks turn; 'call', walked.
Conditions: none. -/
import Derived.Test.YtdkhedefcmjjgaaGreatDoorNum
import Derived.Deep.RegionHeld3
import Derived.Deep.AppendLies
namespace Go.Proofs.YtdkhedefcmjjgaaGreatDoor
open Go.RowKit Sp
set_option linter.unusedVariables false
/-- The cells cs are the expression x, whose rows lie in blocks that are ok. -/
inductive ExAt (w : World) (ok : Nat → Prop) : Ex → List Value → Prop
  | mk (k b : Int) (n : Bs) (args : List Ex) (A : Option Addr) (c : Nat) (f : Nat → Value) (hc : args.length ≤ c) (hm : c ≤ 9223372036854775807)
      (hA : args ≠ [] → ∃ g o, A = some ⟨g, o, none⟩ ∧ ok g ∧ g < w.heap.size ∧ ∀ j, j < 4 * args.length → w.cell? ⟨g, o + j, none⟩ = some (f j))
      (hx : ∀ i x, args[i]? = some x → ExAt w ok x [f (4 * i), f (4 * i + 1), f (4 * i + 2), f (4 * i + 3)]) :
      ExAt w ok (.mk k b n args) [.int .i64 k, .int .i64 b, .string (bstr n), .slice A args.length c]
theorem ExAt.keep {w w' : World} {ok : Nat → Prop} {x : Ex} {cs : List Value} (h : ExAt w ok x cs) (hs : w.heap.size ≤ w'.heap.size) (hk : ∀ k, ok k → k < w.heap.size → w'.heap[k]? = w.heap[k]?) : ExAt w' ok x cs := by
  induction h with
  | mk k b n args A c f hc hm hA hx ih =>
    refine .mk k b n args A c f hc hm (fun hne => ?_) ih
    obtain ⟨g, o, e, h1, h2, h3⟩ := hA hne
    exact ⟨g, o, e, h1, by omega, fun j hj => (World.cell?_of_block (a := ⟨g, o + j, none⟩) (hk g h1 h2)).trans (h3 j hj)⟩
theorem ExAt.mono {w : World} {ok ok' : Nat → Prop} {x : Ex} {cs : List Value} (h : ExAt w ok x cs) (hk : ∀ k, ok k → k < w.heap.size → ok' k) : ExAt w ok' x cs := by
  induction h with
  | mk k b n args A c f hc hm hA hx ih =>
    refine .mk k b n args A c f hc hm (fun hne => ?_) ih
    obtain ⟨g, o, e, h1, h2, h3⟩ := hA hne
    exact ⟨g, o, e, hk g h1 h2, h2, h3⟩
/-- What is made since block B. -/
abbrev Since (B : Nat) : Nat → Prop := fun k => B ≤ k
theorem ExAt.grown {w w' : World} {B : Nat} {R : Nat} {x : Ex} {cs : List Value} (h : ExAt w (Since B) x cs) (hg : w.grownBy w' (some R)) (hR : R < B) : ExAt w' (Since B) x cs :=
  h.keep hg.size fun k hk hlt => hg.block k hlt (by intro e; injection e with e; have : B ≤ k := hk; omega)
theorem ExAt.old {w w' : World} {ok : Nat → Prop} {x : Ex} {cs : List Value} (h : ExAt w ok x cs) (hb : Below w.heap.size w w') : ExAt w' ok x cs :=
  h.keep hb.size fun k _ hlt => hb.block k hlt
theorem ExAt.lower {w : World} {B B' : Nat} {x : Ex} {cs : List Value} (h : ExAt w (Since B) x cs) (hB : B' ≤ B) : ExAt w (Since B') x cs := h.mono fun k hk _ => Nat.le_trans hB hk
/-- A value that is an expression. -/
def ExV (w : World) (B : Nat) (x : Ex) (v : Value) : Prop := ∃ k b s sl, v = .agg #[.int .i64 k, .int .i64 b, .string s, sl] ∧ ExAt w (Since B) x [.int .i64 k, .int .i64 b, .string s, sl]
theorem ExV.leaf (w : World) (B : Nat) (k b : Int) (n : Bs) : ExAt w (Since B) (.mk k b n []) [.int .i64 k, .int .i64 b, .string (bstr n), .slice none 0 0] :=
  .mk k b n [] none 0 (fun _ => undef) (Nat.le_refl _) (by omega) (fun h => absurd rfl h) (fun i x h => by simp at h)
theorem ExAt.other {w : World} {ok : Nat → Prop} {x : Ex} {cs : List Value} (h : ExAt w ok x cs) {Y : Nat} (hY : ¬ ok Y) (i : Nat) (u : Value) : ExAt (w.setCell ⟨Y, i, none⟩ u) ok x cs :=
  h.keep (by simp) fun k hk _ => Below.heap_setCell _ _ _ _ (fun e => hY (by rw [← show k = Y from e]; exact hk))
theorem Rd.other {w0 w : World} {R T : Nat} {wd : Int} {r : RS} (h : Rd w0 w R T wd r) {Y : Nat} (hR : Y ≠ R) (hT : Y ≠ T) (hB : w0.heap.size ≤ Y) (i : Nat) (u : Value) : Rd w0 (w.setCell ⟨Y, i, none⟩ u) R T wd r := by
  obtain ⟨v, dp, h1, h2⟩ := h.at_
  exact ⟨h.env, h.below.setCell hB _, h.hR, h.hT, h.ok, h.ne, by simp only [World.size_setCell]; exact h.ltT, v, dp, (Below.heap_setCell _ _ _ _ (Ne.symm hR)).trans h1, h2.keep (Below.heap_setCell _ _ _ _ (Ne.symm hT))⟩
/-- Four cells. -/
def four (k b : Int) (s : ByteArray) (sl : Value) : Array Value := #[.int .i64 k, .int .i64 b, .string s, sl]
theorem und36 : Tryz.prog.underlying 36 = some (.struct (match Tryz.prog.underlying 36 with | some (.struct f) => f | _ => #[])) := by kernel_rfl
theorem info36s : (Tryz.prog.info? 36).map (·.size) = some 4 := by kernel_rfl
theorem results36 {fn : Func} {p : Tmp} (h : fn.results = #[.cell p 36]) (tmps : Array Value) (W : World) (Y : Nat) (k b : Int) (s : ByteArray) (sl : Value)
    (hp : tmps.getD p undef = .pointer (some ⟨Y, 0, none⟩)) (hY : W.heap[Y]? = some (.cells (four k b s sl) 36 (0, 0))) : (results fn tmps).run Tryz.prog W = .ok (.agg (four k b s sl)) W :=
  results_cell_row h tmps W Y 36 (four k b s sl) (0, 0) _ hp hY und36 rfl info36s
theorem set4 {w : World} {Y : Nat} {k b k' b' : Int} {s s' : ByteArray} {sl sl' : Value} (h : w.heap[Y]? = some (.cells (four k b s sl) 36 (0, 0))) :
    ((((w.setCell ⟨Y, 0, none⟩ (.int .i64 k')).setCell ⟨Y, 1, none⟩ (.int .i64 b')).setCell ⟨Y, 2, none⟩ (.string s')).setCell ⟨Y, 3, none⟩ sl').heap[Y]? = some (.cells (four k' b' s' sl') 36 (0, 0)) :=
  set_heap (set_heap (set_heap (set_heap h 0 _) 1 _) 2 _) 3 _
theorem cells4 {w : World} {Y : Nat} {k b : Int} {s : ByteArray} {sl : Value} (h : w.heap[Y]? = some (.cells (four k b s sl) 36 (0, 0))) :
    w.cell? ⟨Y, 0, none⟩ = some (.int .i64 k) ∧ w.cell? ⟨Y, 1, none⟩ = some (.int .i64 b) ∧ w.cell? ⟨Y, 2, none⟩ = some (.string s) ∧ w.cell? ⟨Y, 3, none⟩ = some sl :=
  ⟨cell_heap h 0, cell_heap h 1, cell_heap h 2, cell_heap h 3⟩
set_option maxHeartbeats 1000000 in
theorem call_any (s : ByteArray) (A : Option Addr) (n c : Nat) (w : World) :
    Calls Tryz.prog 78 #[.string s, .slice A n c] w fun e w' => e = .returned (.agg #[.int .i64 3, .int .i64 0, .string s, .slice A n c]) ∧ Below w.heap.size w w' := by
  go_enter Tryz.func78, Tryz.ntmps78
  go_wp2_with fail
  go_returns
  exact ⟨rfl, by go_grown⟩
end Go.Proofs.YtdkhedefcmjjgaaGreatDoor
