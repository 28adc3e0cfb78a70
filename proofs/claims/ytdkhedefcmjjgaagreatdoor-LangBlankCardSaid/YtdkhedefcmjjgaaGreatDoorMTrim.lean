/- strings.Trim at blanks and tabs, by the library's own contract.
Conditions: the line's length is a number that an int holds. -/
import Derived.Test.YtdkhedefcmjjgaaGreatDoorMSpec
import Derived.Shelf.Strings.SlTrimAscii
import Derived.Tactics2
import Derived.Defers
import Derived.Recover
import Derived.Laws.Pointers
import Derived.Lib.Hide
import Derived.Test.YtdkhedefcmjjgaaGreatDoorMDeclD
import Derived.Test.YtdkhedefcmjjgaaGreatDoorMScan
namespace Go.Proofs
open Go.Shelf
def Tryz.lays160_ren : Go.Shelf.Ren := ⟨fun | 160 => 14 | 232 => 25 | 231 => 24 | 227 => 26 | 234 => 28 | 233 => 27 | 236 => 30 | 235 => 29 | 228 => 47 | 271 => 48 | 151 => 33 | 197 => 44 | 120 => 64 | 152 => 49 | 260 => 59 | 137 => 65 | 119 => 66 | 224 => 62 | 225 => 61 | 217 => 60 | 266 => 80 | n => n, fun | 9 => 9 | 4 => 4 | 3 => 3 | 5 => 5 | 117 => 65 | 116 => 64 | 0 => 0 | 124 => 68 | 21 => 21 | 105 => 85 | 46 => 98 | 119 => 107 | 139 => 115 | 138 => 114 | n => n, fun | 3 => 2 | 4 => 3 | n => n⟩
theorem Tryz.lays160 : Go.Proofs.Lays.n160 Tryz.prog Tryz.lays160_ren := {
  mixed := by kernel_rfl
  f119 := Tryz.func66.trans (congrArg some (by kernel_rfl))
  f120 := Tryz.func64.trans (congrArg some (by kernel_rfl))
  f137 := Tryz.func65.trans (congrArg some (by kernel_rfl))
  f151 := Tryz.func33.trans (congrArg some (by kernel_rfl))
  f152 := Tryz.func49.trans (congrArg some (by kernel_rfl))
  f160 := Tryz.func14.trans (congrArg some (by kernel_rfl))
  f197 := Tryz.func44.trans (congrArg some (by kernel_rfl))
  f217 := Tryz.func60.trans (congrArg some (by kernel_rfl))
  f224 := Tryz.func62.trans (congrArg some (by kernel_rfl))
  f225 := Tryz.func61.trans (congrArg some (by kernel_rfl))
  f227 := Tryz.func26.trans (congrArg some (by kernel_rfl))
  f228 := Tryz.func47.trans (congrArg some (by kernel_rfl))
  f231 := Tryz.func24.trans (congrArg some (by kernel_rfl))
  f232 := Tryz.func25.trans (congrArg some (by kernel_rfl))
  f233 := Tryz.func27.trans (congrArg some (by kernel_rfl))
  f234 := Tryz.func28.trans (congrArg some (by kernel_rfl))
  f235 := Tryz.func29.trans (congrArg some (by kernel_rfl))
  f236 := Tryz.func30.trans (congrArg some (by kernel_rfl))
  f260 := Tryz.func59.trans (congrArg some (by kernel_rfl))
  f266 := Tryz.func80.trans (congrArg some (by kernel_rfl))
  f271 := Tryz.func48.trans (congrArg some (by kernel_rfl))
  t0 := Tryz.underlying0
  a0 := Tryz.isAgg0
  z0 := Tryz.sizeOf0
  v0 := Tryz.zeroValue0
  t3 := Tryz.underlying3
  a3 := Tryz.isAgg3
  z3 := Tryz.sizeOf3
  v3 := Tryz.zeroValue3
  t4 := Tryz.underlying4
  a4 := Tryz.isAgg4
  z4 := Tryz.sizeOf4
  v4 := Tryz.zeroValue4
  t5 := Tryz.underlying5
  a5 := Tryz.isAgg5
  z5 := Tryz.sizeOf5
  v5 := Tryz.zeroValue5
  t9 := Tryz.underlying9
  a9 := Tryz.isAgg9
  z9 := Tryz.sizeOf9
  v9 := Tryz.zeroValue9
  t21 := Tryz.underlying21
  a21 := Tryz.isAgg21
  z21 := Tryz.sizeOf21
  v21 := Tryz.zeroValue21
  t46 := Tryz.underlying98
  a46 := Tryz.isAgg98
  z46 := Tryz.sizeOf98
  v46 := Tryz.zeroValue98
  t105 := Tryz.underlying85
  a105 := Tryz.isAgg85
  z105 := Tryz.sizeOf85
  v105 := Tryz.zeroValue85
  t116 := Tryz.underlying64
  a116 := Tryz.isAgg64
  z116 := Tryz.sizeOf64
  t117 := Tryz.underlying65
  a117 := Tryz.isAgg65
  z117 := Tryz.sizeOf65
  v117 := Tryz.zeroValue65
  t119 := Tryz.underlying107
  a119 := Tryz.isAgg107
  z119 := Tryz.sizeOf107
  t124 := Tryz.underlying68
  a124 := Tryz.isAgg68
  z124 := Tryz.sizeOf68
  v124 := Tryz.zeroValue68
  t138 := Tryz.underlying114
  a138 := Tryz.isAgg114
  z138 := Tryz.sizeOf114
  v138 := Tryz.zeroValue114
  t139 := Tryz.underlying115
  a139 := Tryz.isAgg115
  z139 := Tryz.sizeOf115
  v139 := Tryz.zeroValue115
  g3 := by kernel_rfl
  g4 := by kernel_rfl }
end Go.Proofs
namespace Go.Proofs.YtdkhedefcmjjgaaGreatDoor
open Go.RowKit Sp
set_option linter.unusedSimpArgs false
theorem zero64 (w : World) : (zeroValue 64).run Tryz.prog w = .ok (.agg (Array.replicate 256 (.bool false))) w := by kernel_rfl
theorem strim_any (l : Bs) (w : World) (hl : l.length ≤ 1000000) : Calls Tryz.prog 14 #[.string (bstr l), .string (bstr [32, 9])] w fun e w' => e = .returned (.string (bstr (Lib.trimS l [32, 9]))) ∧ Below w.heap.size w w' := by
  have h := Any.strings_Trim_ascii Tryz.lays160 zero64 (by kernel_rfl) (bstr l) (bstr [32, 9]) w (by rw [bstr_size]; omega) (by rw [bstr_size]; decide) (by
    intro j b hb
    rw [bstr_data] at hb
    rcases j with _ | _ | j
    · simp at hb; subst hb; decide
    · simp at hb; subst hb; decide
    · simp at hb)
  rw [bstr_data, bstr_data] at h
  exact h
/-- Does a line mean nothing? By its trimmed text. -/
theorem void_trim (l : Bs) : void l = match Lib.trimS l [32, 9] with | [] => true | c :: _ => c == 35 := by
  have hb : ∀ c : UInt8, ([32, 9] : List UInt8).contains c = Sp.blank c := fun c => by
    simp [Sp.blank]; rfl
  have hf : (fun c : UInt8 => ([32, 9] : List UInt8).contains c) = Sp.blank := funext hb
  unfold void trimL Lib.trimS Lib.trimLeftS Lib.trimRightS
  rw [hf]
  -- what is dropped at the end stands behind what is not blank
  have key : ∀ m : Bs, m.dropWhile Sp.blank = [] ↔ ∀ c ∈ m, Sp.blank c = true := fun m => by
    induction m with
    | nil => simp
    | cons c m ih => by_cases hc : Sp.blank c = true <;> simp [List.dropWhile_cons, hc, ih]
  have main : ∀ m : Bs, ∀ k : Bs, (∀ c ∈ k, Sp.blank c = true) → (match (m ++ k).dropWhile Sp.blank with | [] => true | c :: _ => c == 35) = (match m.dropWhile Sp.blank with | [] => true | c :: _ => c == 35) := fun m => by
    induction m with
    | nil => intro k hk; rw [List.nil_append, (key k).2 hk]; rfl
    | cons c m ih => intro k hk; by_cases hc : Sp.blank c = true <;> simp [List.dropWhile_cons, hc, ih k hk]
  have hsplit : l = (l.reverse.dropWhile Sp.blank).reverse ++ (l.reverse.takeWhile Sp.blank).reverse := by
    rw [← List.reverse_append, List.takeWhile_append_dropWhile, List.reverse_reverse]
  have hk : ∀ c ∈ (l.reverse.takeWhile Sp.blank).reverse, Sp.blank c = true := fun c hc => by
    rw [List.mem_reverse] at hc
    exact List.all_eq_true.1 (List.all_takeWhile) c hc
  have := main ((l.reverse.dropWhile Sp.blank).reverse) ((l.reverse.takeWhile Sp.blank).reverse) hk
  rw [← hsplit] at this
  exact this
end Go.Proofs.YtdkhedefcmjjgaaGreatDoor
/- line's deferred closure, walked: a wrong line's panic is told as its error; without one nothing is done.
Conditions: what is recovered is a wrong line's. -/
namespace Go.Proofs.YtdkhedefcmjjgaaGreatDoor
open Go.RowKit Sp
set_option linter.unusedVariables false
set_option linter.unusedSimpArgs false
set_option maxRecDepth 100000 in
set_option maxHeartbeats 1000000 in
theorem catch_wrong (p : Addr) (x n : Int) (older : List PanicEntry) (w : World) (hc : w.cell? p = some (.int .i64 x)) (hz : w.frozen? p = false) :
    CallsD Tryz.prog 13 #[.pointer (some p)] (.panicking ({ v := .iface 47 (.int .i64 n), recovered := false } :: older)) w fun e u' w' =>
      e = .returned (.tuple #[]) ∧ u' = .panicking ({ v := .iface 47 (.int .i64 n), recovered := true } :: older) ∧ w' = w.setCell p (.int .i64 n) := by
  refine callsD_of_wpS Tryz.func13 rfl fun c₀ cs hu => ?_
  apply wpS_seq
  apply wpS_region
  simp [wpOpsS, go_sem, recoverD, hu, Tryz.ntmps13, Exit.thenS]
  refine wpS_of_wp ?_
  simp only [List.size_toArray, List.length_cons, List.length_nil, Nat.reduceAdd, Nat.reduceSub, Array.replicate_succ,
     Array.replicate_zero, List.push_toArray, List.append_toArray, List.nil_append, List.cons_append, List.setIfInBounds_toArray, List.set_cons_zero, List.set_cons_succ]
  have hta : ∀ W, (Instr.typeAssert (.iface 47 (.int .i64 n)) 20 47 true).run Tryz.prog W = .ok (.tuple #[.int .i64 n, .bool true]) W := fun W => by kernel_rfl
  have hu' := Lib.hid hu
  clear hu
  go_wp2
  simp [bodyPostS, results, Tryz.results13]
theorem catch_idle (p : Addr) (w : World) :
    CallsD Tryz.prog 13 #[.pointer (some p)] .returning w fun e u' w' => e = .returned (.tuple #[]) ∧ u' = .returning ∧ w' = w := by
  refine callsD_of_wpS Tryz.func13 rfl fun c₀ cs hu => ?_
  apply wpS_seq
  apply wpS_region
  simp [wpOpsS, go_sem, recoverD, hu, Tryz.ntmps13, Exit.thenS]
  refine wpS_of_wp ?_
  simp only [List.size_toArray, List.length_cons, List.length_nil, Nat.reduceAdd, Nat.reduceSub, Array.replicate_succ,
     Array.replicate_zero, List.push_toArray, List.append_toArray, List.nil_append, List.cons_append, List.setIfInBounds_toArray, List.set_cons_zero, List.set_cons_succ]
  go_wp2
  cases c₀
  simp_all [bodyPostS, results, Tryz.results13]
end Go.Proofs.YtdkhedefcmjjgaaGreatDoor
/- A text on its way, in memory: its state behind a pointer, its declarations in rows of twelve cells; how line ends.
Conditions: none. -/
namespace Go.Proofs.YtdkhedefcmjjgaaGreatDoor
open Go.RowKit Sp
set_option linter.unusedVariables false
set_option linter.unusedSimpArgs false
/-- A row of declarations. -/
def DRows (w : World) (ok : Nat → Prop) : List Dc → List Value → Prop
  | [], cs => cs = []
  | d :: l, cs => ∃ k bits en A n c r, cs = (dcs d.kind d.line (bstr d.name) d.rows d.cols d.init d.a d.b k bits en (.slice A n c)).toList ++ r ∧ ExAt w ok d.expr [.int .i64 k, .int .i64 bits, .string en, .slice A n c] ∧ DRows w ok l r
theorem DRows.keep {w w' : World} {ok : Nat → Prop} : ∀ {l : List Dc} {cs : List Value}, DRows w ok l cs → w.heap.size ≤ w'.heap.size → (∀ k, ok k → k < w.heap.size → w'.heap[k]? = w.heap[k]?) → DRows w' ok l cs
  | [], _, h, _, _ => h
  | d :: l, cs, ⟨k, b, en, A, n, c, r, e, hx, hl⟩, hs, hk => ⟨k, b, en, A, n, c, r, e, hx.keep hs hk, DRows.keep hl hs hk⟩
theorem DRows.mono {w : World} {ok ok' : Nat → Prop} : ∀ {l : List Dc} {cs : List Value}, DRows w ok l cs → (∀ k, ok k → k < w.heap.size → ok' k) → DRows w ok' l cs
  | [], _, h, _ => h
  | d :: l, cs, ⟨k, b, en, A, n, c, r, e, hx, hl⟩, hk => ⟨k, b, en, A, n, c, r, e, hx.mono hk, DRows.mono hl hk⟩
theorem DRows.snoc {w : World} {ok : Nat → Prop} {d : Dc} {k b : Int} {en : ByteArray} {A : Option Addr} {n c : Nat} (hd : ExAt w ok d.expr [.int .i64 k, .int .i64 b, .string en, .slice A n c]) : ∀ {l : List Dc} {cs : List Value}, DRows w ok l cs → DRows w ok (l ++ [d]) (cs ++ (dcs d.kind d.line (bstr d.name) d.rows d.cols d.init d.a d.b k b en (.slice A n c)).toList)
  | [], cs, h => by
    have h : cs = [] := h
    subst h
    exact ⟨k, b, en, A, n, c, [], by simp, hd, rfl⟩
  | x :: l, cs, ⟨k', b', en', A', n', c', r, e, hx, hl⟩ => ⟨k', b', en', A', n', c', r ++ (dcs d.kind d.line (bstr d.name) d.rows d.cols d.init d.a d.b k b en (.slice A n c)).toList, by rw [e, List.append_assoc], hx, DRows.snoc hd hl⟩
/-- A state's five cells. -/
def five (nm : ByteArray) (wd : Int) (v : Value) (seen last : Int) : Array Value := #[.string nm, .int .i64 wd, v, .int .i64 seen, .int .i64 last]
/-- A text's state behind its pointer. wb: the world ahead of it. -/
structure StAt (wb : World) (S : Nat) (s : St) (w : World) : Prop where
  env : Env wb
  bel : Below wb.heap.size wb w
  hb : wb.heap.size ≤ S
  at_ : ∃ v cs, w.heap[S]? = some (.cells (five (bstr s.name) s.width v s.seen s.last) 42 (0, 0)) ∧ w.ownsRow (S + 1) 38 12 v s.decls.length cs ∧ DRows w (fun g => S + 1 ≤ g ∧ v.ownBlock ≠ some g) s.decls cs
theorem StAt.lt {wb w : World} {S : Nat} {s : St} (h : StAt wb S s w) : S < w.heap.size := by
  obtain ⟨v, cs, h1, _⟩ := h.at_
  exact heap_lt h1
theorem StAt.now {wb w : World} {S : Nat} {s : St} (h : StAt wb S s w) : Env w := h.env.old h.bel
/-- How a line ends. -/
def LinePost (wb : World) (S : Nat) (o : Except Int St) (w : World) (e : Ending) (w' : World) : Prop :=
  Below S w w' ∧ ((∃ n, o = .error n ∧ e = .returned (.int .i64 n)) ∨ ∃ s', o = .ok s' ∧ e = .returned (.int .i64 0) ∧ StAt wb S s' w')
theorem below_low {S : Nat} {w w' : World} (h : Below w.heap.size w w') (hS : S ≤ w.heap.size) : Below S w w' := h.mono hS
theorem below_grown {S : Nat} {a w w' : World} {R : Nat} (h : Below S a w) (hg : w.grownBy w' (some R)) (hS : S ≤ w.heap.size) (hR : S ≤ R) : Below S a w' := h.grown hg hS (fun j e => by injection e with e; omega)
/-- Nothing of a state is turned but new blocks. -/
theorem StAt.keep {wb w w' : World} {S : Nat} {s : St} (h : StAt wb S s w) (hb : Below w.heap.size w w') : StAt wb S s w' := by
  obtain ⟨v, cs, h1, h2, h3⟩ := h.at_
  refine ⟨h.env, h.bel.trans (hb.mono h.bel.size), h.hb, v, cs, (hb.block _ (heap_lt h1)).trans h1, own_same h2 (fun g hg => hb.block _ (h2.lt g hg).2), h3.keep hb.size (fun k _ hk => hb.block _ hk)⟩
/-- .. a state's own cell turned. -/
theorem StAt.setS {wb w w' : World} {S : Nat} {s s' : St} {v : Value} {cs : List Value} (h : StAt wb S s w) (hat : w.heap[S]? = some (.cells (five (bstr s.name) s.width v s.seen s.last) 42 (0, 0)) ∧ w.ownsRow (S + 1) 38 12 v s.decls.length cs ∧ DRows w (fun g => S + 1 ≤ g ∧ v.ownBlock ≠ some g) s.decls cs)
    (hs : w.heap.size ≤ w'.heap.size) (hk : ∀ g, g < w.heap.size → g ≠ S → w'.heap[g]? = w.heap[g]?) (hb : Below S w w') (hS : w'.heap[S]? = some (.cells (five (bstr s'.name) s'.width v s'.seen s'.last) 42 (0, 0))) (hd : s'.decls = s.decls) : StAt wb S s' w' := by
  obtain ⟨h1, h2, h3⟩ := hat
  refine ⟨h.env, h.bel.trans (hb.mono h.hb), h.hb, v, cs, hS, ?_, ?_⟩
  · rw [hd]; exact own_same h2 (fun g hg => hk g (h2.lt g hg).2 (by have := (h2.lt g hg).1; omega))
  · rw [hd]; exact h3.keep hs (fun g hg hl => hk g hl (by have := hg.1; omega))
/-- One declaration more. -/
theorem StAt.push {wb w w1 wa w' : World} {sn : Int} {S g cap : Nat} {s : St} {v : Value} {cs : List Value} {d : Dc} {k b : Int} {en : ByteArray} {A : Option Addr} {n c : Nat} {B0 : Nat} (h : StAt wb S s w) (hat : w.heap[S]? = some (.cells (five (bstr s.name) s.width v s.seen s.last) 42 (0, 0)) ∧ w.ownsRow (S + 1) 38 12 v s.decls.length cs ∧ DRows w (fun g => S + 1 ≤ g ∧ v.ownBlock ≠ some g) s.decls cs)
    (hs : w.heap.size ≤ w1.heap.size) (hk : ∀ g, g < w.heap.size → g ≠ S → w1.heap[g]? = w.heap[g]?) (hb : Below S w w1)
    (hB0 : w.heap.size ≤ B0) (hx : ExAt w1 (Since B0) d.expr [.int .i64 k, .int .i64 b, .string en, .slice A n c])
    (hga : w1.grownBy wa v.ownBlock) (hown : wa.ownsRow (S + 1) 38 12 (.slice (some ⟨g, 0, none⟩) (s.decls.length + 1) cap) (s.decls.length + 1) (cs ++ (dcs d.kind d.line (bstr d.name) d.rows d.cols d.init d.a d.b k b en (.slice A n c)).toList))
    (hat2 : v.ownBlock = some g ∨ w1.heap.size ≤ g)
    (hs' : wa.heap.size ≤ w'.heap.size) (hk' : ∀ g, g < wa.heap.size → S + 1 ≤ g → (g < w.heap.size ∨ B0 ≤ g) → w'.heap[g]? = wa.heap[g]?) (hbb : Below S w w')
    (hS : w'.heap[S]? = some (.cells (five (bstr s.name) s.width (.slice (some ⟨g, 0, none⟩) (s.decls.length + 1) cap) sn d.kind) 42 (0, 0))) (hgB : g < w.heap.size ∨ B0 ≤ g) :
    StAt wb S { s with seen := sn, last := d.kind, decls := s.decls ++ [d] } w' := by
  obtain ⟨h1, h2, h3⟩ := hat
  have hv := h2.lt
  refine ⟨h.env, h.bel.trans (hbb.mono h.hb), h.hb, _, cs ++ (dcs d.kind d.line (bstr d.name) d.rows d.cols d.init d.a d.b k b en (.slice A n c)).toList, hS, ?_, ?_⟩
  · have : (s.decls ++ [d]).length = s.decls.length + 1 := by simp
    rw [this]
    exact own_same hown (fun g' hg' => by
      obtain ⟨l1, l2⟩ := hown.lt g' hg'
      have e : g = g' := by simpa [Value.ownBlock] using hg'
      subst e
      exact hk' g l2 l1 hgB)
  · have gr : ∀ j, j < w1.heap.size → v.ownBlock ≠ some j → wa.heap[j]? = w1.heap[j]? := fun j hj hn => hga.block j hj (fun e => hn e.symm)
    have nown : ∀ j, j < w1.heap.size → v.ownBlock ≠ some j → (Value.slice (some ⟨g, 0, none⟩) (s.decls.length + 1) cap).ownBlock ≠ some j := fun j hj hn => by
      simp only [Value.ownBlock, ne_eq, Option.some.injEq]
      rcases hat2 with e | e
      · intro e'; subst e'; exact hn e
      · omega
    have hs1 := hga.size
    refine DRows.snoc (d := d) ?_ ?_
    · refine ExAt.mono (ok := fun j => B0 ≤ j ∧ j < w1.heap.size) (ExAt.keep (hx.mono fun j hj hl => ⟨hj, hl⟩) (by omega) (fun j hj hl => ?_)) (fun j hj _ => ?_)
      · have hj1 := hj.1
        have hn : v.ownBlock ≠ some j := fun e => by have := (hv j e).2; omega
        rw [hk' j (by omega) (by have := heap_lt h1; omega) (.inr hj1), gr j hl hn]
      · have hj1 := hj.1
        have hn : v.ownBlock ≠ some j := fun e => by have := (hv j e).2; omega
        exact ⟨by have := heap_lt h1; omega, nown j hj.2 hn⟩
    · refine DRows.mono (ok := fun j => (S + 1 ≤ j ∧ v.ownBlock ≠ some j) ∧ j < w.heap.size) (DRows.keep (h3.mono fun j hj hl => ⟨hj, hl⟩) (by omega) (fun j hj hl => ?_)) (fun j hj _ => ?_)
      · rw [hk' j (by omega) hj.1.1 (.inl hl), gr j (by omega) hj.1.2, hk j hl (by have := hj.1.1; omega)]
      · exact ⟨hj.1.1, nown j (by omega) hj.1.2⟩
/-- The door of a line that returns. -/
theorem door_ret {R : Ending → World → Prop} {tmps : Array Value} {W : World} {H : Nat} {n : Int} (ht : tmps.getD 6 undef = .pointer (some ⟨H, 0, none⟩)) (hc : W.cell? ⟨H, 0, none⟩ = some (.int .i64 n)) (h : R (.returned (.int .i64 n)) W) :
    bodyPostD Tryz.prog Tryz.f10 R Exit.ret { tmps := tmps, defers := [{ target := .fn (.func 13) #[.pointer (some ⟨H, 0, none⟩)], args := #[] }] } W := by
  have ht' : tmps[6]?.getD undef = .pointer (some ⟨H, 0, none⟩) := by rw [← ht]; simp
  refine leaves_cons (f := 13) (args := #[.pointer (some ⟨H, 0, none⟩)]) (by simp) (by simp [go_sem]) ?_
  refine (catch_idle ⟨H, 0, none⟩ W).mono ?_
  rintro e u' w'' ⟨rfl, rfl, rfl⟩
  simp [Leaves, settle, results, Tryz.results10, go_sem, ht', hc]
  exact h
/-- The door of a line that gives up. -/
theorem door_panic {R : Ending → World → Prop} {tmps : Array Value} {W : World} {H : Nat} {x n : Int} (ht : tmps.getD 6 undef = .pointer (some ⟨H, 0, none⟩)) (hc : W.heap[H]? = some (.cells #[.int .i64 x] 26 (0, 0))) (h : R (.returned (.int .i64 n)) (W.setCell ⟨H, 0, none⟩ (.int .i64 n))) :
    bodyPostD Tryz.prog Tryz.f10 R (Exit.panic (giv n)) { tmps := tmps, defers := [{ target := .fn (.func 13) #[.pointer (some ⟨H, 0, none⟩)], args := #[] }] } W := by
  have ht' : tmps[6]?.getD undef = .pointer (some ⟨H, 0, none⟩) := by rw [← ht]; simp
  have hc2 : (W.setCell ⟨H, 0, none⟩ (.int .i64 n)).cell? ⟨H, 0, none⟩ = some (.int .i64 n) := by rw [cell_heap (set_heap hc 0 (.int .i64 n))]; rfl
  refine leaves_cons (f := 13) (args := #[.pointer (some ⟨H, 0, none⟩)]) (by simp) (by simp [go_sem]) ?_
  refine (catch_wrong ⟨H, 0, none⟩ x n [] W (cell_heap hc 0) (free_heap hc 0)).mono ?_
  rintro e u' w'' ⟨rfl, rfl, rfl⟩
  simp [Leaves, settle, results, Tryz.results10, go_sem, ht', hc2]
  exact h
theorem leaves_congr {P : Program} {fn : Func} {tmps tmps' : Array Value} {R : Ending → World → Prop} (h : results fn tmps' = results fn tmps) : ∀ (ds : List Deferred) (u : FrameMode) (w : World), Leaves P fn tmps' R ds u w → Leaves P fn tmps R ds u w
  | [], .returning, w, hl => by
    obtain ⟨v, h1, h2⟩ := hl
    exact ⟨v, by rw [← h]; exact h1, h2⟩
  | [], .panicking chain, w, hl => hl
  | [], .run, _, hl => hl
  | d :: ds, u, w, hl => by
    obtain ⟨h1, fv, cap, f, args, h2, h3, h4⟩ := hl
    refine ⟨h1, fv, cap, f, args, h2, h3, h4.mono ?_⟩
    intro e u' w' he
    cases e with
    | returned v => exact leaves_congr h ds _ _ he
    | panicked chain => exact leaves_congr h ds _ _ he
    | outgrown => exact he
theorem panic_put {R : Ending → World → Prop} {ch : List PanicEntry} {a : Act} {d : Nat} {v : Value} {W : World} (hd : d ≠ 6) (h : bodyPostD Tryz.prog Tryz.f10 R (Exit.panic ch) (a.put (some d) v) W) : bodyPostD Tryz.prog Tryz.f10 R (Exit.panic ch) a W := by
  refine leaves_congr ?_ _ _ _ h
  have : (a.tmps.setIfInBounds d v).getD 6 undef = a.tmps.getD 6 undef := by
    rw [Array.getD_eq_getD_getElem?, Array.getD_eq_getD_getElem?, Array.getElem?_setIfInBounds_ne hd]
  obtain ⟨G, key⟩ : ∃ G : Value → Sem Value, ∀ t : Array Value, results Tryz.f10 t = G (t.getD 6 undef) := ⟨fun x => do
    let v ← (do loadVar 26 (← asAddr x))
    pure v, fun t => by unfold results; rw [Tryz.results10]; simp⟩
  rw [key, key]
  exact congrArg G this
theorem ecell {w w1 : World} {o : Obj} (hb : Below (w.alloc o).heap.size (w.alloc o) w1) : w1.heap[w.heap.size]? = some o :=
  (hb.block _ (by simp)).trans (heap_alloc_new _ _)
end Go.Proofs.YtdkhedefcmjjgaaGreatDoor
/- line, walked: lines that mean nothing; lines whose words are none.
Conditions: the scan's contract. -/
namespace Go.Proofs.YtdkhedefcmjjgaaGreatDoor
open Go.RowKit Sp
set_option linter.unusedVariables false
set_option linter.unusedSimpArgs false
/-- A line that means nothing, told. -/
theorem void_end {m : Nums} {wb : World} {S : Nat} {s : St} {w : World} {l : Bs} {i : Int} {w1 : World} {tmps : Array Value} (hst : StAt wb S s w) (hb : Below (w.alloc (.cells #[.int .i64 0] 26)).heap.size (w.alloc (.cells #[.int .i64 0] 26)) w1) (hspec : Sp.line m s l i = .ok s)
    (ht : tmps.getD 6 undef = .pointer (some ⟨w.heap.size, 0, none⟩)) :
    bodyPostD Tryz.prog Tryz.f10 (LinePost wb S (Sp.line m s l i) w) Exit.ret { tmps := tmps, defers := [{ target := .fn (.func 13) #[.pointer (some ⟨w.heap.size, 0, none⟩)], args := #[] }] } (w1.setCell ⟨w.heap.size, 0, none⟩ (.int .i64 0)) := by
  have he := ecell hb
  have hS := hst.lt
  have hB : Below w.heap.size w (w1.setCell ⟨w.heap.size, 0, none⟩ (.int .i64 0)) := (((Below.refl _ w).alloc (Nat.le_refl _) _).trans (hb.mono (by simp))).setCell (Nat.le_refl _) _
  exact door_ret (n := 0) ht (by rw [cell_heap (set_heap he 0 _)]; rfl) ⟨hB.mono (by omega), .inr ⟨s, hspec, rfl, hst.keep hB⟩⟩
set_option maxRecDepth 100000 in
set_option maxHeartbeats 4000000 in
theorem line_void (m : Nums) (wb : World) (S : Nat) (s : St) (w : World) (hst : StAt wb S s w) (l : Bs) (i : Int) (hl : l.length ≤ 70000) (hv : void l = true) :
    Calls Tryz.prog 10 #[.pointer (some ⟨S, 0, none⟩), .string (bstr l), .int .i64 i] w (LinePost wb S (Sp.line m s l i) w) := by
  have hmf : ∀ (fn : Fn) (first cap : Array Value) (w : World), (Instr.makeFunc fn first cap).run Tryz.prog w = .ok (.func fn first cap) w := fun _ _ _ _ => rfl
  have hspec : Hid (Sp.line m s l i = .ok s) := Lib.hid (by unfold Sp.line; rw [hv]; rfl)
  have hSlt := hst.lt
  have hst' := Lib.hid hst
  have H14 := Lib.hid (strim_any l (w.alloc (.cells #[.int .i64 0] 26)) (by omega))
  rw [void_trim] at hv
  cases ht : Lib.trimS l [32, 9] with
  | nil =>
    rw [ht] at H14
    clear hv ht hst
    have hem : (bstr []).toList = [] := bstr_toList []
    go_enter_defers Tryz.func10, Tryz.ntmps10
    go_wp2_with fail
    refine H14.out.mono ?_
    rintro e w1 ⟨rfl, hb1⟩
    have he := Lib.hid (ecell hb1)
    have e0 : w1.cell? ⟨w.heap.size, 0, none⟩ = some (.int .i64 0) := cell_heap he.out 0
    have e1 : w1.frozen? ⟨w.heap.size, 0, none⟩ = false := free_heap he.out 0
    go_wp2_with fail
    exact void_end hst'.out hb1 hspec.out rfl
  | cons c r =>
    rw [ht] at H14 hv
    have hc : c = 35 := by simpa using hv
    subst hc
    clear hv ht hst
    have hem : (bstr (35 :: r)).toList = 35 :: r := bstr_toList _
    have hsz : (bstr (35 :: r)).size = r.length + 1 := bstr_size _
    have h35 : ((((bstr (35 :: r))[0]'(by rw [hsz]; omega)).toNat : Int) == 35) = true := rfl
    go_enter_defers Tryz.func10, Tryz.ntmps10
    go_wp2_with fail
    refine H14.out.mono ?_
    rintro e w1 ⟨rfl, hb1⟩
    have he := Lib.hid (ecell hb1)
    have e0 : w1.cell? ⟨w.heap.size, 0, none⟩ = some (.int .i64 0) := cell_heap he.out 0
    have e1 : w1.frozen? ⟨w.heap.size, 0, none⟩ = false := free_heap he.out 0
    go_wp2_with fail
    exact void_end hst'.out hb1 hspec.out rfl
/-- A line that gives up, told. -/
theorem giv_end {m : Nums} {wb : World} {S : Nat} {s : St} {w : World} {l : Bs} {i n : Int} {w2 : World} {tmps : Array Value} (hS : S ≤ w.heap.size) (hspec : Sp.line m s l i = .error n) (hB : Below S w w2) (he : w2.heap[w.heap.size]? = some (.cells #[.int .i64 0] 26 (0, 0)))
    (ht : tmps.getD 6 undef = .pointer (some ⟨w.heap.size, 0, none⟩)) :
    bodyPostD Tryz.prog Tryz.f10 (LinePost wb S (Sp.line m s l i) w) (Exit.panic (giv n)) { tmps := tmps, defers := [{ target := .fn (.func 13) #[.pointer (some ⟨w.heap.size, 0, none⟩)], args := #[] }] } w2 :=
  door_panic ht he ⟨hB.setCell (by show S ≤ w.heap.size; exact hS) _, .inl ⟨n, hspec, rfl⟩⟩
theorem noscan_end {m : Nums} {wb : World} {S : Nat} {s : St} {w : World} {l : Bs} {i : Int} {w1 w2 : World} {tmps : Array Value} (hS : S < w.heap.size) (hb : Below (w.alloc (.cells #[.int .i64 0] 26)).heap.size (w.alloc (.cells #[.int .i64 0] 26)) w1) (hb2 : Below w1.drew.heap.size w1.drew w2) (hspec : Sp.line m s l i = .error 70)
    (ht : tmps.getD 6 undef = .pointer (some ⟨w.heap.size, 0, none⟩)) :
    bodyPostD Tryz.prog Tryz.f10 (LinePost wb S (Sp.line m s l i) w) (Exit.panic (giv 70)) { tmps := tmps, defers := [{ target := .fn (.func 13) #[.pointer (some ⟨w.heap.size, 0, none⟩)], args := #[] }] } w2 := by
  have h1 := hb.size
  simp at h1
  have he := ecell hb
  refine giv_end (by omega) hspec ?_ ((hb2.block _ (by show w.heap.size < w1.heap.size; omega)).trans he) ht
  exact ((((Below.refl S w).alloc (by omega) _).trans (hb.mono (by simp; omega))).drew).trans (hb2.mono (by show S ≤ w1.heap.size; omega))
theorem Env.drew {w : World} (h : Env w) : Env w.drew := h.old (Below.refl _ _).drew
set_option maxRecDepth 100000 in
set_option maxHeartbeats 4000000 in
theorem line_noscan (m : Nums) (wb : World) (S : Nat) (s : St) (w : World) (hst : StAt wb S s w) (l : Bs) (i : Int) (hl : l.length ≤ 70000) (hv : void l = false) (hs : Sp.scan l = none)
    (hsc : ∀ W, Env W → Calls Tryz.prog 15 #[.string (bstr l)] W (ScanPost l W)) :
    Calls Tryz.prog 10 #[.pointer (some ⟨S, 0, none⟩), .string (bstr l), .int .i64 i] w (LinePost wb S (Sp.line m s l i) w) := by
  have hmf : ∀ (fn : Fn) (first cap : Array Value) (w : World), (Instr.makeFunc fn first cap).run Tryz.prog w = .ok (.func fn first cap) w := fun _ _ _ _ => rfl
  have hspec : Hid (Sp.line m s l i = .error 70) := Lib.hid (by unfold Sp.line; rw [hv, hs]; rfl)
  have hSlt := hst.lt
  have hst' := Lib.hid hst
  have hstA := Lib.hid (hst.keep ((Below.refl w.heap.size w).alloc (Nat.le_refl _) (.cells #[.int .i64 0] 26)))
  have H14 := Lib.hid (strim_any l (w.alloc (.cells #[.int .i64 0] 26)) (by omega))
  have H15 : Hid (∀ W, Env W → Calls Tryz.prog 15 #[.string (bstr l)] W fun e w' => e = .panicked (giv 70) ∧ Below W.heap.size W w') := Lib.hid (fun W hW => (hsc W hW).mono (by
    rintro e w' ⟨hb, ⟨_, rfl⟩ | ⟨ts, v, T, h, _⟩⟩
    · exact ⟨rfl, hb⟩
    · rw [hs] at h; cases h))
  rw [void_trim] at hv
  clear hsc hs
  cases ht : Lib.trimS l [32, 9] with
  | nil => rw [ht] at hv; cases hv
  | cons c r =>
    rw [ht] at H14 hv
    have hem : (bstr (c :: r)).toList = c :: r := bstr_toList _
    have hsz : (bstr (c :: r)).size = r.length + 1 := bstr_size _
    have h35 : ((((bstr (c :: r))[0]'(by rw [hsz]; omega)).toNat : Int) == 35) = false := (u8_eq c 35).trans hv
    clear hv ht hst
    go_enter_defers Tryz.func10, Tryz.ntmps10
    go_wp2_with fail
    refine H14.out.mono ?_
    rintro e w1 ⟨rfl, hb1⟩
    have he := Lib.hid (ecell hb1)
    have hst1 := Lib.hid (hstA.out.keep hb1)
    have hEnv := Lib.hid hst1.out.now
    have q1 : w1.cell? ⟨S, 1, none⟩ = some (.int .i64 s.width) := by
      obtain ⟨v, cs, h1, _⟩ := hst1.out.at_
      exact cell_heap h1 1
    go_wp2_with fail
    refine wp_region_any (by kernel_rfl) ?_
    change wpAny _ _ _ _ _ _ _ (World.drew _)
    refine wpAny_take (i := 0) (v := .string (bstr l)) rfl (by kernel_rfl) (by kernel_rfl) (by kernel_rfl) (fun _ _ _ h => panic_put (by decide) h) (Or.inl ⟨by rfl, fun w => by go_simp⟩) ?_
    refine wpAny_take (i := 2) (v := .pointer (some ⟨S, 0, none⟩)) rfl (by kernel_rfl) (by kernel_rfl) (by kernel_rfl) (fun _ _ _ h => panic_put (by decide) h) (Or.inl ⟨by rfl, fun w => by go_simp⟩) ?_
    refine wpAny_take (i := 3) (v := .pointer (some ⟨S, 0, none⟩)) rfl (by kernel_rfl) (by kernel_rfl) (by kernel_rfl) (fun _ _ _ h => panic_put (by decide) h) (Or.inl ⟨by rfl, fun w => by go_simp⟩) ?_
    refine wpAny_take (i := 4) (v := .pointer (some ⟨S, 0, none⟩)) rfl (by kernel_rfl) (by kernel_rfl) (by kernel_rfl) (fun _ _ _ h => panic_put (by decide) h) (Or.inl ⟨by rfl, fun w => by go_simp⟩) ?_
    refine wpAny_take (i := 5) (v := .pointer (some ⟨S, 1, none⟩)) rfl (by kernel_rfl) (by kernel_rfl) (by kernel_rfl) (fun _ _ _ h => panic_put (by decide) h) (Or.inl ⟨by rfl, fun w => by go_simp⟩) ?_
    refine wpAny_ready (rs := [1, 6]) (by kernel_rfl) (by simp) ?_
    refine AllReady.cons rfl (fun K hK => ?_) (AllReady.cons rfl (fun K hK => ?_) AllReady.nil)
    · go_simp
      refine (H15.out _ hEnv.out.drew).mono ?_
      rintro e w2 ⟨rfl, hb2⟩
      exact noscan_end hSlt hb1 hb2 hspec.out rfl
    · go_simp
      refine hK _ _ ?_
      clear hK K
      refine wpAny_ready (rs := [1]) (by kernel_rfl) (by simp) ?_
      refine AllReady.cons rfl (fun K hK => ?_) AllReady.nil
      go_simp
      refine (H15.out _ hEnv.out.drew).mono ?_
      rintro e w2 ⟨rfl, hb2⟩
      exact noscan_end hSlt hb1 hb2 hspec.out rfl
end Go.Proofs.YtdkhedefcmjjgaaGreatDoor
