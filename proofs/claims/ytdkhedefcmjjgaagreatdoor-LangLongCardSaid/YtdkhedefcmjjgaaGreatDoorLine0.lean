/- A text on its way, in memory: its state behind a pointer, its declarations in rows of twelve cells; how line ends.
Conditions: none. -/
import Derived.Test.YtdkhedefcmjjgaaGreatDoorDecl
import Derived.Test.YtdkhedefcmjjgaaGreatDoorScan
import Derived.Test.YtdkhedefcmjjgaaGreatDoorTrim
import Derived.Test.YtdkhedefcmjjgaaGreatDoorCatch
namespace Go.Proofs.YtdkhedefcmjjgaaGreatDoor
open Go.RowKit Sp
set_option linter.unusedVariables false
set_option linter.unusedSimpArgs false
/-- A row of declarations. -/
def DRows (w : World) (ok : Nat → Prop) : List Dc → List Value → Prop
  | [], cs => cs = []
  | d :: l, cs => ∃ k bits en A n c r, cs = (dcs d.kind d.line (bstr d.name) d.rows d.cols d.init d.a d.b k bits en (.slice A n c)).toList ++ r ∧ ExAt w ok d.expr [.int .i64 k, .int .i64 bits, .string en, .slice A n c] ∧ DRows w ok l r
theorem DRows.keep {w w' : World} {ok : Nat → Prop} : ∀ {l : List Dc} {cs : List Value}, DRows w ok l cs → w.heap.size ≤ w'.heap.size → (∀ k, ok k → k < w.heap.size → w'.heap[k]? = w.heap[k]?) → DRows w' ok l cs
  | [], _, h, _, _ => h
  | d :: l, cs, ⟨k, b, en, A, n, c, r, e, hx, hl⟩, hs, hk => ⟨k, b, en, A, n, c, r, e, hx.keep hs hk, DRows.keep hl hs hk⟩
theorem DRows.mono {w : World} {ok ok' : Nat → Prop} : ∀ {l : List Dc} {cs : List Value}, DRows w ok l cs → (∀ k, ok k → k < w.heap.size → ok' k) → DRows w ok' l cs
  | [], _, h, _ => h
  | d :: l, cs, ⟨k, b, en, A, n, c, r, e, hx, hl⟩, hk => ⟨k, b, en, A, n, c, r, e, hx.mono hk, DRows.mono hl hk⟩
theorem DRows.snoc {w : World} {ok : Nat → Prop} {d : Dc} {k b : Int} {en : ByteArray} {A : Option Addr} {n c : Nat} (hd : ExAt w ok d.expr [.int .i64 k, .int .i64 b, .string en, .slice A n c]) : ∀ {l : List Dc} {cs : List Value}, DRows w ok l cs → DRows w ok (l ++ [d]) (cs ++ (dcs d.kind d.line (bstr d.name) d.rows d.cols d.init d.a d.b k b en (.slice A n c)).toList)
  | [], cs, h => by
    have h : cs = [] := h
    subst h
    exact ⟨k, b, en, A, n, c, [], by simp, hd, rfl⟩
  | x :: l, cs, ⟨k', b', en', A', n', c', r, e, hx, hl⟩ => ⟨k', b', en', A', n', c', r ++ (dcs d.kind d.line (bstr d.name) d.rows d.cols d.init d.a d.b k b en (.slice A n c)).toList, by rw [e, List.append_assoc], hx, DRows.snoc hd hl⟩
/-- A state's five cells. -/
def five (nm : ByteArray) (wd : Int) (v : Value) (seen last : Int) : Array Value := #[.string nm, .int .i64 wd, v, .int .i64 seen, .int .i64 last]
/-- A text's state behind its pointer. wb: the world ahead of it. -/
structure StAt (wb : World) (S : Nat) (s : St) (w : World) : Prop where
  env : Env wb
  bel : Below wb.heap.size wb w
  hb : wb.heap.size ≤ S
  at_ : ∃ v cs, w.heap[S]? = some (.cells (five (bstr s.name) s.width v s.seen s.last) 42 (0, 0)) ∧ w.ownsRow (S + 1) 38 12 v s.decls.length cs ∧ DRows w (fun g => S + 1 ≤ g ∧ v.ownBlock ≠ some g) s.decls cs
theorem StAt.lt {wb w : World} {S : Nat} {s : St} (h : StAt wb S s w) : S < w.heap.size := by
  obtain ⟨v, cs, h1, _⟩ := h.at_
  exact heap_lt h1
theorem StAt.now {wb w : World} {S : Nat} {s : St} (h : StAt wb S s w) : Env w := h.env.old h.bel
/-- How a line ends. -/
def LinePost (wb : World) (S : Nat) (o : Except Int St) (w : World) (e : Ending) (w' : World) : Prop :=
  Below S w w' ∧ ((∃ n, o = .error n ∧ e = .returned (.int .i64 n)) ∨ ∃ s', o = .ok s' ∧ e = .returned (.int .i64 0) ∧ StAt wb S s' w')
theorem below_low {S : Nat} {w w' : World} (h : Below w.heap.size w w') (hS : S ≤ w.heap.size) : Below S w w' := h.mono hS
theorem below_grown {S : Nat} {a w w' : World} {R : Nat} (h : Below S a w) (hg : w.grownBy w' (some R)) (hS : S ≤ w.heap.size) (hR : S ≤ R) : Below S a w' := h.grown hg hS (fun j e => by injection e with e; omega)
/-- Nothing of a state is turned but new blocks. -/
theorem StAt.keep {wb w w' : World} {S : Nat} {s : St} (h : StAt wb S s w) (hb : Below w.heap.size w w') : StAt wb S s w' := by
  obtain ⟨v, cs, h1, h2, h3⟩ := h.at_
  refine ⟨h.env, h.bel.trans (hb.mono h.bel.size), h.hb, v, cs, (hb.block _ (heap_lt h1)).trans h1, own_same h2 (fun g hg => hb.block _ (h2.lt g hg).2), h3.keep hb.size (fun k _ hk => hb.block _ hk)⟩
/-- .. a state's own cell turned. -/
theorem StAt.setS {wb w w' : World} {S : Nat} {s s' : St} {v : Value} {cs : List Value} (h : StAt wb S s w) (hat : w.heap[S]? = some (.cells (five (bstr s.name) s.width v s.seen s.last) 42 (0, 0)) ∧ w.ownsRow (S + 1) 38 12 v s.decls.length cs ∧ DRows w (fun g => S + 1 ≤ g ∧ v.ownBlock ≠ some g) s.decls cs)
    (hs : w.heap.size ≤ w'.heap.size) (hk : ∀ g, g < w.heap.size → g ≠ S → w'.heap[g]? = w.heap[g]?) (hb : Below S w w') (hS : w'.heap[S]? = some (.cells (five (bstr s'.name) s'.width v s'.seen s'.last) 42 (0, 0))) (hd : s'.decls = s.decls) : StAt wb S s' w' := by
  obtain ⟨h1, h2, h3⟩ := hat
  refine ⟨h.env, h.bel.trans (hb.mono h.hb), h.hb, v, cs, hS, ?_, ?_⟩
  · rw [hd]; exact own_same h2 (fun g hg => hk g (h2.lt g hg).2 (by have := (h2.lt g hg).1; omega))
  · rw [hd]; exact h3.keep hs (fun g hg hl => hk g hl (by have := hg.1; omega))
/-- One declaration more. -/
theorem StAt.push {wb w w1 wa w' : World} {sn : Int} {S g cap : Nat} {s : St} {v : Value} {cs : List Value} {d : Dc} {k b : Int} {en : ByteArray} {A : Option Addr} {n c : Nat} {B0 : Nat} (h : StAt wb S s w) (hat : w.heap[S]? = some (.cells (five (bstr s.name) s.width v s.seen s.last) 42 (0, 0)) ∧ w.ownsRow (S + 1) 38 12 v s.decls.length cs ∧ DRows w (fun g => S + 1 ≤ g ∧ v.ownBlock ≠ some g) s.decls cs)
    (hs : w.heap.size ≤ w1.heap.size) (hk : ∀ g, g < w.heap.size → g ≠ S → w1.heap[g]? = w.heap[g]?) (hb : Below S w w1)
    (hB0 : w.heap.size ≤ B0) (hx : ExAt w1 (Since B0) d.expr [.int .i64 k, .int .i64 b, .string en, .slice A n c])
    (hga : w1.grownBy wa v.ownBlock) (hown : wa.ownsRow (S + 1) 38 12 (.slice (some ⟨g, 0, none⟩) (s.decls.length + 1) cap) (s.decls.length + 1) (cs ++ (dcs d.kind d.line (bstr d.name) d.rows d.cols d.init d.a d.b k b en (.slice A n c)).toList))
    (hat2 : v.ownBlock = some g ∨ w1.heap.size ≤ g)
    (hs' : wa.heap.size ≤ w'.heap.size) (hk' : ∀ g, g < wa.heap.size → S + 1 ≤ g → (g < w.heap.size ∨ B0 ≤ g) → w'.heap[g]? = wa.heap[g]?) (hbb : Below S w w')
    (hS : w'.heap[S]? = some (.cells (five (bstr s.name) s.width (.slice (some ⟨g, 0, none⟩) (s.decls.length + 1) cap) sn d.kind) 42 (0, 0))) (hgB : g < w.heap.size ∨ B0 ≤ g) :
    StAt wb S { s with seen := sn, last := d.kind, decls := s.decls ++ [d] } w' := by
  obtain ⟨h1, h2, h3⟩ := hat
  have hv := h2.lt
  refine ⟨h.env, h.bel.trans (hbb.mono h.hb), h.hb, _, cs ++ (dcs d.kind d.line (bstr d.name) d.rows d.cols d.init d.a d.b k b en (.slice A n c)).toList, hS, ?_, ?_⟩
  · have : (s.decls ++ [d]).length = s.decls.length + 1 := by simp
    rw [this]
    exact own_same hown (fun g' hg' => by
      obtain ⟨l1, l2⟩ := hown.lt g' hg'
      have e : g = g' := by simpa [Value.ownBlock] using hg'
      subst e
      exact hk' g l2 l1 hgB)
  · have gr : ∀ j, j < w1.heap.size → v.ownBlock ≠ some j → wa.heap[j]? = w1.heap[j]? := fun j hj hn => hga.block j hj (fun e => hn e.symm)
    have nown : ∀ j, j < w1.heap.size → v.ownBlock ≠ some j → (Value.slice (some ⟨g, 0, none⟩) (s.decls.length + 1) cap).ownBlock ≠ some j := fun j hj hn => by
      simp only [Value.ownBlock, ne_eq, Option.some.injEq]
      rcases hat2 with e | e
      · intro e'; subst e'; exact hn e
      · omega
    have hs1 := hga.size
    refine DRows.snoc (d := d) ?_ ?_
    · refine ExAt.mono (ok := fun j => B0 ≤ j ∧ j < w1.heap.size) (ExAt.keep (hx.mono fun j hj hl => ⟨hj, hl⟩) (by omega) (fun j hj hl => ?_)) (fun j hj _ => ?_)
      · have hj1 := hj.1
        have hn : v.ownBlock ≠ some j := fun e => by have := (hv j e).2; omega
        rw [hk' j (by omega) (by have := heap_lt h1; omega) (.inr hj1), gr j hl hn]
      · have hj1 := hj.1
        have hn : v.ownBlock ≠ some j := fun e => by have := (hv j e).2; omega
        exact ⟨by have := heap_lt h1; omega, nown j hj.2 hn⟩
    · refine DRows.mono (ok := fun j => (S + 1 ≤ j ∧ v.ownBlock ≠ some j) ∧ j < w.heap.size) (DRows.keep (h3.mono fun j hj hl => ⟨hj, hl⟩) (by omega) (fun j hj hl => ?_)) (fun j hj _ => ?_)
      · rw [hk' j (by omega) hj.1.1 (.inl hl), gr j (by omega) hj.1.2, hk j hl (by have := hj.1.1; omega)]
      · exact ⟨hj.1.1, nown j (by omega) hj.1.2⟩
/-- The door of a line that returns. -/
theorem door_ret {R : Ending → World → Prop} {tmps : Array Value} {W : World} {H : Nat} {n : Int} (ht : tmps.getD 6 undef = .pointer (some ⟨H, 0, none⟩)) (hc : W.cell? ⟨H, 0, none⟩ = some (.int .i64 n)) (h : R (.returned (.int .i64 n)) W) :
    bodyPostD Tryz.prog Tryz.f10 R Exit.ret { tmps := tmps, defers := [{ target := .fn (.func 13) #[.pointer (some ⟨H, 0, none⟩)], args := #[] }] } W := by
  have ht' : tmps[6]?.getD undef = .pointer (some ⟨H, 0, none⟩) := by rw [← ht]; simp
  refine leaves_cons (f := 13) (args := #[.pointer (some ⟨H, 0, none⟩)]) (by simp) (by simp [go_sem]) ?_
  refine (catch_idle ⟨H, 0, none⟩ W).mono ?_
  rintro e u' w'' ⟨rfl, rfl, rfl⟩
  simp [Leaves, settle, results, Tryz.results10, go_sem, ht', hc]
  exact h
/-- The door of a line that gives up. -/
theorem door_panic {R : Ending → World → Prop} {tmps : Array Value} {W : World} {H : Nat} {x n : Int} (ht : tmps.getD 6 undef = .pointer (some ⟨H, 0, none⟩)) (hc : W.heap[H]? = some (.cells #[.int .i64 x] 26 (0, 0))) (h : R (.returned (.int .i64 n)) (W.setCell ⟨H, 0, none⟩ (.int .i64 n))) :
    bodyPostD Tryz.prog Tryz.f10 R (Exit.panic (giv n)) { tmps := tmps, defers := [{ target := .fn (.func 13) #[.pointer (some ⟨H, 0, none⟩)], args := #[] }] } W := by
  have ht' : tmps[6]?.getD undef = .pointer (some ⟨H, 0, none⟩) := by rw [← ht]; simp
  have hc2 : (W.setCell ⟨H, 0, none⟩ (.int .i64 n)).cell? ⟨H, 0, none⟩ = some (.int .i64 n) := by rw [cell_heap (set_heap hc 0 (.int .i64 n))]; rfl
  refine leaves_cons (f := 13) (args := #[.pointer (some ⟨H, 0, none⟩)]) (by simp) (by simp [go_sem]) ?_
  refine (catch_wrong ⟨H, 0, none⟩ x n [] W (cell_heap hc 0) (free_heap hc 0)).mono ?_
  rintro e u' w'' ⟨rfl, rfl, rfl⟩
  simp [Leaves, settle, results, Tryz.results10, go_sem, ht', hc2]
  exact h
theorem leaves_congr {P : Program} {fn : Func} {tmps tmps' : Array Value} {R : Ending → World → Prop} (h : results fn tmps' = results fn tmps) : ∀ (ds : List Deferred) (u : FrameMode) (w : World), Leaves P fn tmps' R ds u w → Leaves P fn tmps R ds u w
  | [], .returning, w, hl => by
    obtain ⟨v, h1, h2⟩ := hl
    exact ⟨v, by rw [← h]; exact h1, h2⟩
  | [], .panicking chain, w, hl => hl
  | [], .run, _, hl => hl
  | d :: ds, u, w, hl => by
    obtain ⟨h1, fv, cap, f, args, h2, h3, h4⟩ := hl
    refine ⟨h1, fv, cap, f, args, h2, h3, h4.mono ?_⟩
    intro e u' w' he
    cases e with
    | returned v => exact leaves_congr h ds _ _ he
    | panicked chain => exact leaves_congr h ds _ _ he
    | outgrown => exact he
theorem panic_put {R : Ending → World → Prop} {ch : List PanicEntry} {a : Act} {d : Nat} {v : Value} {W : World} (hd : d ≠ 6) (h : bodyPostD Tryz.prog Tryz.f10 R (Exit.panic ch) (a.put (some d) v) W) : bodyPostD Tryz.prog Tryz.f10 R (Exit.panic ch) a W := by
  refine leaves_congr ?_ _ _ _ h
  have : (a.tmps.setIfInBounds d v).getD 6 undef = a.tmps.getD 6 undef := by
    rw [Array.getD_eq_getD_getElem?, Array.getD_eq_getD_getElem?, Array.getElem?_setIfInBounds_ne hd]
  obtain ⟨G, key⟩ : ∃ G : Value → Sem Value, ∀ t : Array Value, results Tryz.f10 t = G (t.getD 6 undef) := ⟨fun x => do
    let v ← (do loadVar 26 (← asAddr x))
    pure v, fun t => by unfold results; rw [Tryz.results10]; simp⟩
  rw [key, key]
  exact congrArg G this
theorem ecell {w w1 : World} {o : Obj} (hb : Below (w.alloc o).heap.size (w.alloc o) w1) : w1.heap[w.heap.size]? = some o :=
  (hb.block _ (by simp)).trans (heap_alloc_new _ _)
end Go.Proofs.YtdkhedefcmjjgaaGreatDoor
