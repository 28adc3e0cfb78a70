/- A function's arguments: rows of expressions that grow; what 'function' does, in words for the walk.
Conditions: none. -/
import Derived.Test.YtdkhedefcmjjgaaGreatDoorMChain
import Derived.Deep.RegionLaw
import Derived.Maps.AppendAt
import Derived.Deep.AppendLies
import Derived.OneCell
namespace Go.Proofs.YtdkhedefcmjjgaaGreatDoor
open Go.RowKit Sp
set_option linter.unusedVariables false
theorem under34 : Tryz.prog.underlying 34 = some (.slice 36) := by kernel_rfl
theorem info36 : (Tryz.prog.info? 36).map (fun i => (i.zero, i.size, i.bytes)) = some (some (.agg #[.int .i64 0, .int .i64 0, .string ⟨#[]⟩, .slice none 0 0]), 4, 56) := by kernel_rfl
/-- A row of expressions. -/
def RowsAt (w : World) (ok : Nat → Prop) : List Ex → List Value → Prop
  | [], cs => cs = []
  | x :: l, cs => ∃ a b c d r, cs = a :: b :: c :: d :: r ∧ ExAt w ok x [a, b, c, d] ∧ RowsAt w ok l r
theorem RowsAt.keep {w w' : World} {ok : Nat → Prop} : ∀ {l : List Ex} {cs : List Value}, RowsAt w ok l cs → w.heap.size ≤ w'.heap.size → (∀ k, ok k → k < w.heap.size → w'.heap[k]? = w.heap[k]?) → RowsAt w' ok l cs
  | [], _, h, _, _ => h
  | x :: l, cs, ⟨a, b, c, d, r, e, hx, hl⟩, hs, hk => ⟨a, b, c, d, r, e, hx.keep hs hk, RowsAt.keep hl hs hk⟩
theorem RowsAt.mono {w : World} {ok ok' : Nat → Prop} : ∀ {l : List Ex} {cs : List Value}, RowsAt w ok l cs → (∀ k, ok k → k < w.heap.size → ok' k) → RowsAt w ok' l cs
  | [], _, h, _ => h
  | x :: l, cs, ⟨a, b, c, d, r, e, hx, hl⟩, hk => ⟨a, b, c, d, r, e, hx.mono hk, RowsAt.mono hl hk⟩
theorem RowsAt.snoc {w : World} {ok : Nat → Prop} {y : Ex} {p q u v : Value} (hy : ExAt w ok y [p, q, u, v]) : ∀ {l : List Ex} {cs : List Value}, RowsAt w ok l cs → RowsAt w ok (l ++ [y]) (cs ++ [p, q, u, v])
  | [], cs, h => by
    have h : cs = [] := h
    subst h
    exact ⟨p, q, u, v, [], rfl, hy, rfl⟩
  | x :: l, cs, ⟨a, b, c, d, r, e, hx, hl⟩ => ⟨a, b, c, d, r ++ [p, q, u, v], by rw [e]; rfl, hx, RowsAt.snoc hy hl⟩
theorem RowsAt.get {w : World} {ok : Nat → Prop} : ∀ {l : List Ex} {cs : List Value}, RowsAt w ok l cs → ∀ i x, l[i]? = some x → ExAt w ok x [cs.getD (4 * i) undef, cs.getD (4 * i + 1) undef, cs.getD (4 * i + 2) undef, cs.getD (4 * i + 3) undef]
  | [], _, _, i, x, h => by simp at h
  | y :: l, cs, ⟨a, b, c, d, r, e, hx, hl⟩, i, x, h => by
    subst e
    rcases i with _ | i
    · obtain rfl : y = x := by simpa using h
      exact hx
    · have := RowsAt.get hl i x (by simpa using h)
      simpa [Nat.mul_add, List.getD_cons_succ, show 4 * i + 4 = (4 * i + 3) + 1 from rfl] using this
theorem RowsAt.length {w : World} {ok : Nat → Prop} : ∀ {l : List Ex} {cs : List Value}, RowsAt w ok l cs → cs.length = 4 * l.length
  | [], cs, h => by have h : cs = [] := h; subst h; rfl
  | x :: l, cs, ⟨a, b, c, d, r, e, hx, hl⟩ => by subst e; have := RowsAt.length hl; simp [this]; omega
/-- A call of a name with a row of arguments. -/
theorem RowsAt.call {w : World} {ok : Nat → Prop} {l : List Ex} {cs : List Value} {B : Nat} {v : Value} (h : RowsAt w ok l cs) (hown : w.ownsRow B 36 4 v l.length cs) (ok' : Nat → Prop) (hok : ∀ k, ok k → ok' k) (hv : ∀ k, v.ownBlock = some k → ok' k) (s : Bs) :
    ∃ A c, v = .slice A l.length c ∧ ExAt w ok' (Sp.call s l) [.int .i64 3, .int .i64 0, .string (bstr s), .slice A l.length c] := by
  have hg := (h.mono (fun k hk _ => hok k hk)).get
  have hlen := h.length
  rcases hown.2 with ⟨rfl, h0⟩ | ⟨g, cap, cur, rfl, hb, hh, hn, hm, hs, ht⟩
  · have : l = [] := List.eq_nil_of_length_eq_zero h0
    subst this
    exact ⟨none, 0, rfl, .mk 3 0 s [] none 0 (fun j => cs.getD j undef) (by simp) (by omega) (fun hne => absurd rfl hne) hg⟩
  · refine ⟨some ⟨g, 0, none⟩, cap, rfl, .mk 3 0 s l (some ⟨g, 0, none⟩) cap (fun j => cs.getD j undef) hn (by unfold maxLen at hm; exact hm) (fun _ => ⟨g, 0, rfl, hv g rfl, heap_lt hh, fun j hj => ?_⟩) hg⟩
    have hj' : j < cs.length := by omega
    have := hown.cells (g := g) rfl j _ (List.getElem?_eq_getElem hj')
    rw [add_plain'] at this
    rw [this, List.getD_eq_getElem?_getD, List.getElem?_eq_getElem hj']
    rfl
theorem ExAt.leaf (w : World) (ok : Nat → Prop) (k b : Int) : ExAt w ok (.mk k b [] []) [.int .i64 k, .int .i64 b, .string ⟨#[]⟩, .slice none 0 0] :=
  .mk k b [] [] none 0 (fun _ => undef) (by simp) (by omega) (fun hne => absurd rfl hne) (fun i z hz => by simp at hz)
theorem wholeR_suffix {m : Nums} {n : Int} {r r' : RS} (h : Sp.wholeR m r = some (n, r')) : r'.ts <:+ r.ts := by
  unfold Sp.wholeR at h
  split at h
  · cases h
  · rename_i s1 r1 h1
    split at h
    · simp only [Option.some.injEq, Prod.mk.injEq] at h
      obtain ⟨_, rfl⟩ := h
      exact next_suffix h1
    · cases h
theorem numberR_suffix {m : Nums} {wn n : Int} {r r' : RS} (h : Sp.numberR m wn r = some (n, r')) : r'.ts <:+ r.ts := by
  unfold Sp.numberR at h
  split at h
  · cases h
  · rename_i s1 r1 h1
    split at h
    · simp only [Option.some.injEq, Prod.mk.injEq] at h
      obtain ⟨_, rfl⟩ := h
      have := next_suffix h1
      exact this
    · cases h
theorem arg_suffix {m : Nums} {wd : Int} {spec : RS → Option (Ex × RS)} (hE : Ends spec) {f : FnS} {n : Nat} {r r' : RS} {y : Ex} (h : Sp.arg m wd spec f n r = some (y, r')) : r'.ts <:+ r.ts := by
  unfold Sp.arg at h
  split at h
  · split at h
    · cases h
    · rename_i b r1 h1
      simp only [Option.some.injEq, Prod.mk.injEq] at h
      obtain ⟨_, rfl⟩ := h
      exact wholeR_suffix h1
  · split at h
    · split at h
      · cases h
      · rename_i b r1 h1
        simp only [Option.some.injEq, Prod.mk.injEq] at h
        obtain ⟨_, rfl⟩ := h
        exact numberR_suffix h1
    · exact hE _ _ _ h
/-- What holds of a call that is being built: its name, its arguments so far. -/
structure FunMid (w0 : World) (R T : Nat) (wd : Int) (w : World) (X Y F : Nat) (s : Bs) (f : FnS) (r : RS) (l : List Ex) (v : Value) (cs : List Value) (r' : RS) (wr : World) : Prop where
  hX : wr.heap[X]? = some (.cells (four 3 0 (bstr s) v) 36 (0, 0))
  hY : wr.heap[Y]? = some (.cells (four 0 0 ⟨#[]⟩ (.slice none 0 0)) 36 (0, 0))
  hF : wr.heap[F]? = some (.cells #[.int .i64 f.takes, .bool f.whole, .bool f.number] 91 (0, 0))
  own : wr.ownsRow w.heap.size 36 4 v l.length cs
  nX : v.ownBlock ≠ some X
  nY : v.ownBlock ≠ some Y
  nF : v.ownBlock ≠ some F
  rows : RowsAt wr (fun g => w.heap.size ≤ g ∧ g ≠ X ∧ g ≠ Y ∧ v.ownBlock ≠ some g) l cs
  rd : Rd w0 wr R T wd r'
  gr : w.grownBy wr (some R)
  suf : r'.ts <:+ r.ts
section
variable {w0 : World} {R T : Nat} {wd : Int} {w : World} {X Y F : Nat} {s : Bs} {f : FnS} {r : RS} {l : List Ex} {v : Value} {cs : List Value} {r' r'' : RS} {wr w2 : World}
theorem FunMid.far (h : FunMid w0 R T wd w X Y F s f r l v cs r' wr) (hR : R < w.heap.size) : v.ownBlock = none ∨ v.ownBlock ≠ some R := by
  right
  intro e
  have := (h.own.lt _ e).1
  omega
theorem FunMid.grown (h : FunMid w0 R T wd w X Y F s f r l v cs r' wr) (hR : R < w.heap.size) (hX : w.heap.size ≤ X) (hY : w.heap.size ≤ Y) (hF : w.heap.size ≤ F) (hg : wr.grownBy w2 (some R)) (hr : Rd w0 w2 R T wd r'') (hs : r''.ts <:+ r.ts) :
    FunMid w0 R T wd w X Y F s f r l v cs r'' w2 := by
  have k : ∀ g, g < wr.heap.size → w.heap.size ≤ g → w2.heap[g]? = wr.heap[g]? := fun g h1 h2 => hg.block g h1 (by intro e; injection e with e; omega)
  exact ⟨(k X (heap_lt h.hX) hX).trans h.hX, (k Y (heap_lt h.hY) hY).trans h.hY, (k F (heap_lt h.hF) hF).trans h.hF, h.own.kept hg (h.far hR), h.nX, h.nY, h.nF,
    h.rows.keep hg.size (fun g ho hl => k g hl ho.1), hr, gr_trans h.gr hg, hs⟩
/-- One argument more. -/
theorem FunMid.step {a b : Int} {y : Ex} {c : ByteArray} {A : Option Addr} {n cc B g cap : Nat} {wa : World} (h : FunMid w0 R T wd w X Y F s f r l v cs r' w2) (hR : R < w.heap.size) (hT : T < w.heap.size) (hB : w0.heap.size ≤ w.heap.size) (hX : w.heap.size < X) (hY : w.heap.size < Y) (hF : w.heap.size ≤ F) (hXY : X ≠ Y) (hXF : X ≠ F)
    (hB2 : w.heap.size ≤ B) (hXB : X < B) (hYB : Y < B) (hvB : ∀ g, v.ownBlock = some g → g < B)
    (hy : ExAt w2 (Since B) y [.int .i64 a, .int .i64 b, .string c, .slice A n cc])
    (hown : wa.ownsRow w.heap.size 36 4 (.slice (some ⟨g, 0, none⟩) (l.length + 1) cap) (l.length + 1) (cs ++ [.int .i64 a, .int .i64 b, .string c, .slice A n cc]))
    (hga : (w2.alloc (.cells #[.int .i64 a, .int .i64 b, .string c, .slice A n cc] 36)).grownBy wa v.ownBlock)
    (hat : v.ownBlock = some g ∨ g = w2.heap.size + 1) :
    FunMid w0 R T wd w X Y F s f r (l ++ [y]) (.slice (some ⟨g, 0, none⟩) (l.length + 1) cap) (cs ++ [.int .i64 a, .int .i64 b, .string c, .slice A n cc]) r' (wa.setCell ⟨X, 3, none⟩ (.slice (some ⟨g, 0, none⟩) (l.length + 1) cap)) := by
  have hXl := heap_lt h.hX
  have hYl := heap_lt h.hY
  have hFl := heap_lt h.hF
  have hs2 : w2.heap.size + 1 ≤ wa.heap.size := by have := hga.size; simpa using this
  have k : ∀ j, j < w2.heap.size → v.ownBlock ≠ some j → wa.heap[j]? = w2.heap[j]? := fun j hj hn =>
    (hga.block j (by simp; omega) (by intro e; exact hn e.symm)).trans (Below.heap_alloc _ _ _ hj)
  have st : ∀ j, j ≠ X → (wa.setCell ⟨X, 3, none⟩ (.slice (some ⟨g, 0, none⟩) (l.length + 1) cap)).heap[j]? = wa.heap[j]? := fun j hj => Below.heap_setCell _ _ _ _ hj
  have gX : g ≠ X := by
    rcases hat with e | e
    · intro e'; subst e'; exact h.nX e
    · omega
  have gY : g ≠ Y := by
    rcases hat with e | e
    · intro e'; subst e'; exact h.nY e
    · omega
  have gF : g ≠ F := by
    rcases hat with e | e
    · intro e'; subst e'; exact h.nF e
    · omega
  have mX : wa.heap[X]? = some (.cells (four 3 0 (bstr s) v) 36 (0, 0)) := (k X hXl h.nX).trans h.hX
  have hv : ∀ j, v.ownBlock = some j → w.heap.size ≤ j := fun j e => (h.own.lt _ e).1
  have vR : v.ownBlock ≠ some R := fun e => by have := hv _ e; omega
  have vT : v.ownBlock ≠ some T := fun e => by have := hv _ e; omega
  have hgw : w.grownBy wa (some R) := by
    refine ⟨hga.os.trans h.gr.os, hga.tape.trans h.gr.tape, hga.output.trans h.gr.output, by have := h.gr.size; omega, fun j hj hne => ?_⟩
    exact (k j (by have := h.gr.size; omega) (fun e => by have := hv _ e; omega)).trans (h.gr.block j hj hne)
  refine ⟨?_, ?_, ?_, ?_, ?_, ?_, ?_, ?_, ?_, ?_, h.suf⟩
  · have := set_heap mX 3 (.slice (some ⟨g, 0, none⟩) (l.length + 1) cap)
    simpa [four] using this
  · rw [st _ (by omega), k _ hYl h.nY]; exact h.hY
  · rw [st _ (by omega), k _ hFl h.nF]; exact h.hF
  · have := ownsRow_setCell_other hown (a := ⟨X, 3, none⟩) (by simpa [Value.ownBlock] using gX) (.slice (some ⟨g, 0, none⟩) (l.length + 1) cap)
    simpa using this
  · simpa [Value.ownBlock] using gX
  · simpa [Value.ownBlock] using gY
  · simpa [Value.ownBlock] using gF
  · have ok1 : ∀ (ok : Nat → Prop), (∀ j, ok j → j < w2.heap.size ∧ j ≠ X ∧ v.ownBlock ≠ some j) → ∀ j, ok j → j < w2.heap.size → (wa.setCell ⟨X, 3, none⟩ (.slice (some ⟨g, 0, none⟩) (l.length + 1) cap)).heap[j]? = w2.heap[j]? := fun ok ho j hj hl => by
      rw [st _ (ho j hj).2.1]
      exact k j hl (ho j hj).2.2
    have hsz : w2.heap.size ≤ (wa.setCell ⟨X, 3, none⟩ (.slice (some ⟨g, 0, none⟩) (l.length + 1) cap)).heap.size := by simp only [World.size_setCell]; omega
    have gj : ∀ j, j < w2.heap.size → v.ownBlock ≠ some j → (Value.slice (some ⟨g, 0, none⟩) (l.length + 1) cap).ownBlock ≠ some j := fun j hj hn => by
      simp only [Value.ownBlock, ne_eq, Option.some.injEq]
      rcases hat with e | e
      · intro e'; subst e'; exact hn e
      · omega
    refine RowsAt.snoc ?_ ?_
    · refine ExAt.mono (ok := fun j => B ≤ j ∧ j < w2.heap.size) (ExAt.keep (hy.mono fun j hj hl => ⟨hj, hl⟩) hsz (ok1 _ fun j hj => ⟨hj.2, by omega, fun e => by have := hvB _ e; omega⟩)) fun j hj _ => ?_
      exact ⟨by omega, by omega, by omega, gj j hj.2 fun e => by have := hvB _ e; omega⟩
    · refine RowsAt.mono (ok := fun j => (w.heap.size ≤ j ∧ j ≠ X ∧ j ≠ Y ∧ v.ownBlock ≠ some j) ∧ j < w2.heap.size) (RowsAt.keep (h.rows.mono fun j hj hl => ⟨hj, hl⟩) hsz (ok1 _ fun j hj => ⟨hj.2, hj.1.2.1, hj.1.2.2.2⟩)) fun j hj _ => ?_
      exact ⟨hj.1.1, hj.1.2.1, hj.1.2.2.1, gj j hj.2 hj.1.2.2.2⟩
  · have hb : Rd w0 wa R T wd r' := by
      obtain ⟨v1, dp, h1, h2⟩ := h.rd.at_
      have hTw := h.rd.ltT
      have hb2 := h.rd.below
      exact ⟨h.rd.env, ((h.rd.below.alloc h.rd.below.size _).grown hga (by have := hb2.size; simp; omega) fun j e => by have := hv _ e; omega), h.rd.hR, h.rd.hT, h.rd.ok, h.rd.ne, by omega, v1, dp, (k _ (heap_lt h1) vR).trans h1, h2.keep (k _ hTw vT)⟩
    exact hb.other (by omega) (by omega) (by omega) _ _
  · exact gr_new hgw (by show w.heap.size ≤ X; omega) _
/-- The call is handed over. -/
theorem FunMid.ret {A : Option Addr} {c : Nat} (h : FunMid w0 R T wd w X Y F s f r l (.slice A l.length c) cs r' w2) (hR : R < w.heap.size) (hT : T < w.heap.size) (hB : w0.heap.size ≤ w.heap.size) (hYw : w.heap.size ≤ Y) :
    w.grownBy ((((w2.setCell ⟨Y, 0, none⟩ (.int .i64 3)).setCell ⟨Y, 1, none⟩ (.int .i64 0)).setCell ⟨Y, 2, none⟩ (.string (bstr s))).setCell ⟨Y, 3, none⟩ (.slice A l.length c)) (some R) ∧
    ((((w2.setCell ⟨Y, 0, none⟩ (.int .i64 3)).setCell ⟨Y, 1, none⟩ (.int .i64 0)).setCell ⟨Y, 2, none⟩ (.string (bstr s))).setCell ⟨Y, 3, none⟩ (.slice A l.length c)).heap[Y]? = some (.cells (four 3 0 (bstr s) (.slice A l.length c)) 36 (0, 0)) ∧
    ExAt ((((w2.setCell ⟨Y, 0, none⟩ (.int .i64 3)).setCell ⟨Y, 1, none⟩ (.int .i64 0)).setCell ⟨Y, 2, none⟩ (.string (bstr s))).setCell ⟨Y, 3, none⟩ (.slice A l.length c)) (Since w.heap.size) (Sp.call s l) [.int .i64 3, .int .i64 0, .string (bstr s), .slice A l.length c] ∧
    Rd w0 ((((w2.setCell ⟨Y, 0, none⟩ (.int .i64 3)).setCell ⟨Y, 1, none⟩ (.int .i64 0)).setCell ⟨Y, 2, none⟩ (.string (bstr s))).setCell ⟨Y, 3, none⟩ (.slice A l.length c)) R T wd r' := by
  obtain ⟨A', c', e, hx⟩ := h.rows.call h.own (fun g => w.heap.size ≤ g ∧ g ≠ Y) (fun g hg => ⟨hg.1, hg.2.2.1⟩) (fun g hg => ⟨(h.own.lt _ hg).1, fun e => h.nY (by rw [hg, e])⟩) s
  simp only [Value.slice.injEq, true_and] at e
  obtain ⟨rfl, rfl⟩ := e
  refine ⟨gr_new (gr_new (gr_new (gr_new h.gr hYw _) hYw _) hYw _) hYw _, set4 h.hY, ?_, ?_⟩
  · have hno : ¬ (fun g => w.heap.size ≤ g ∧ g ≠ Y) Y := by simp
    exact ((((hx.other hno _ _).other hno _ _).other hno _ _).other hno _ _).mono fun g hg _ => hg.1
  · have h4 := h.rd
    exact (((h4.other (by omega) (by omega) (by omega) _ _).other (by omega) (by omega) (by omega) _ _).other (by omega) (by omega) (by omega) _ _).other (by omega) (by omega) (by omega) _ _
def boolN : Value → Nat
  | .bool true => 1
  | _ => 0
theorem boolN_true : boolN (.bool true) = 1 := rfl
theorem boolN_false : boolN (.bool false) = 0 := rfl
/-- .. and what is still to be told. -/
structure FunIn (m : Nums) (w0 : World) (R T : Nat) (wd : Int) (spec : RS → Option (Ex × RS)) (w : World) (X : Nat) (s : Bs) (f : FnS) (tgt : Option (List Ex × RS)) (r : RS) (more : Bool) (l : List Ex) (v : Value) (cs : List Value) (r' : RS) (k : Nat) (wr : World) : Prop where
  mid : FunMid w0 R T wd w X (w.heap.size + 1) w.heap.size s f r l v cs r' wr
  len : l.length + r'.ts.length + (if more then 1 else 0) ≤ r.ts.length + 1
  yes : more = true → argsGo m wd spec f k l r' = tgt ∧ r'.ts.length < k
  no : more = false → tgt = some (l, r')
end
end Go.Proofs.YtdkhedefcmjjgaaGreatDoor
