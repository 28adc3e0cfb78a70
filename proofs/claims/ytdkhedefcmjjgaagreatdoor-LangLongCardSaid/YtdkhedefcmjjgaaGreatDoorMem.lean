/- Words for the memory that lang.Read works on: a reader's words as a slice of tokens, a reader behind its pointer, an expression's tree; what stays of them when other blocks turn.
Conditions: none; these are definitions and their frame lemmas. -/
import Derived.WalkKit
import Derived.Deep.Draws
import Derived.Lib.SmallJoins
import Derived.Lib.ItoaNum
import Derived.Lib.Space
import Derived.Lib.LaidTab
import Derived.Test.YtdkhedefcmjjgaaGreatDoorSpec
import Derived.Test.YtdkhedefcmjjgaaGreatDoorProg
namespace Go.Proofs.YtdkhedefcmjjgaaGreatDoor
open Go.RowKit Sp

def bstr (l : Bs) : ByteArray := ⟨l.toArray⟩
theorem bstr_toList (l : Bs) : (bstr l).toList = l := by rw [ByteArray.toList_eq]; simp [bstr]
theorem bstr_data (l : Bs) : (bstr l).data.toList = l := by simp [bstr]
theorem bstr_size (l : Bs) : (bstr l).size = l.length := by simp [bstr, ByteArray.size]
theorem bstr_of (s : ByteArray) : bstr s.data.toList = s := by cases s; simp [bstr]
theorem eq_bstr {s : ByteArray} {l : Bs} (h : s.data.toList = l) : s = bstr l := by subst h; exact (bstr_of s).symm
theorem eq_bstr' {s : ByteArray} {l : Bs} (h : (s.toList == l) = true) : s = bstr l := eq_bstr (by have := eq_of_beq h; rw [ByteArray.toList_eq] at this; exact this)

/-- The panic by which a line gives up. -/
def giv (n : Int) : List PanicEntry := [{ v := .iface 47 (.int .i64 n), recovered := false }]

def flat : List Tok → List Value
  | [] => []
  | t :: l => .int .u8 t.kind.toNat :: .string (bstr t.text) :: flat l
theorem flat_length (l : List Tok) : (flat l).length = 2 * l.length := by induction l with | nil => rfl | cons t l ih => simp [flat, ih]; omega
theorem flat_append (l k : List Tok) : flat (l ++ k) = flat l ++ flat k := by induction l with | nil => rfl | cons t l ih => simp [flat, ih]

/-- The slice v reads as the words ts, in block T. -/
def TokS (w : World) (T : Nat) (v : Value) (ts : List Tok) : Prop :=
  ∃ A c, v = .slice A ts.length c ∧ ts.length ≤ c ∧ c ≤ 9223372036854775807 ∧ (ts ≠ [] → ∃ o, A = some ⟨T, o, none⟩ ∧ ∀ j u, (flat ts)[j]? = some u → w.cell? ⟨T, o + j, none⟩ = some u)
theorem TokS.keep {w w' : World} {T : Nat} {v : Value} {ts : List Tok} (h : TokS w T v ts) (hk : w'.heap[T]? = w.heap[T]?) : TokS w' T v ts := by
  obtain ⟨A, c, hv, hc, hm, hh⟩ := h
  refine ⟨A, c, hv, hc, hm, fun hne => ?_⟩
  obtain ⟨o, hA, hcell⟩ := hh hne
  exact ⟨o, hA, fun j u hu => (World.cell?_of_block (a := ⟨T, o + j, none⟩) hk).trans (hcell j u hu)⟩
theorem add_plain' (g i j : Nat) : (⟨g, i, none⟩ : Addr).add j = ⟨g, i + j, none⟩ := by unfold Addr.add; split <;> simp_all

/-- The words that a line may have: kinds are ASCII; not too many, none too long. -/
def OkTs (ts : List Tok) : Prop := ts.length ≤ 70000 ∧ ∀ t ∈ ts, t.kind.toNat < 128 ∧ t.text.length ≤ 70000
theorem OkTs.tail {t : Tok} {l : List Tok} (h : OkTs (t :: l)) : OkTs l := ⟨by have := h.1; simp at this; omega, fun x hx => h.2 x (List.mem_cons_of_mem _ hx)⟩
theorem heap_lt {w : World} {g : Nat} {o : Obj} (h : w.heap[g]? = some o) : g < w.heap.size := (Array.getElem?_eq_some_iff.1 h).1
/-- What the library's variables hold. -/
structure Env (w : World) : Prop where
  maxLen : ∃ m, w.cell? ⟨0, 0, none⟩ = some (.int .i64 m)
  syn : ∃ te pe, w.cell? ⟨4, 0, none⟩ = some (.iface te pe)
  rng : ∃ te pe, w.cell? ⟨5, 0, none⟩ = some (.iface te pe)
  pow : Lib.TabIs Tryz.prog w "internal/strconv.uint64pow10" .u64 Lib.pow10Tab
  space : Lib.TabIs Tryz.prog w "strings.asciiSpace" .u8 Lib.asciiSpaceTab
theorem cell_old {w w' : World} (hb : Below w.heap.size w w') {a : Addr} {v : Value} (h : w.cell? a = some v) : w'.cell? a = some v :=
  (hb.cell (World.block_lt_of_cell? w a h)).trans h
theorem pow_global : Tryz.prog.globalNamed "internal/strconv.uint64pow10" = some 7 := by kernel_rfl
theorem space_global : Tryz.prog.globalNamed "strings.asciiSpace" = some 1 := by kernel_rfl
theorem Env.old {w w' : World} (h : Env w) (hb : Below w.heap.size w w') : Env w' :=
  ⟨h.maxLen.imp fun _ hm => cell_old hb hm, h.syn.imp fun _ => Exists.imp fun _ hm => cell_old hb hm, h.rng.imp fun _ => Exists.imp fun _ hm => cell_old hb hm, Go.Joins.tab_stays pow_global h.pow hb (Nat.le_refl _), Go.Joins.tab_stays space_global h.space hb (Nat.le_refl _)⟩
/-- A reader behind its pointer, made since w0. -/
structure Rd (w0 w : World) (R T : Nat) (wd : Int) (r : RS) : Prop where
  env : Env w0
  below : Below w0.heap.size w0 w
  hR : w0.heap.size ≤ R
  hT : w0.heap.size ≤ T
  ok : OkTs r.ts
  ne : T ≠ R
  ltT : T < w.heap.size
  at_ : ∃ v dp, w.heap[R]? = some (.cells #[v, .int .i64 wd, .int .i64 r.stop, dp] 54 (0, 0)) ∧ TokS w T v r.ts
theorem Rd.lt {w0 w : World} {R T : Nat} {wd : Int} {r : RS} (h : Rd w0 w R T wd r) : R < w.heap.size := by
  obtain ⟨v, dp, h, _⟩ := h.at_
  exact heap_lt h
theorem Rd.now {w0 w : World} {R T : Nat} {wd : Int} {r : RS} (h : Rd w0 w R T wd r) : Env w := h.env.old h.below
theorem Rd.keep {w0 w w' : World} {R T : Nat} {wd : Int} {r : RS} (h : Rd w0 w R T wd r) (hb : Below w.heap.size w w') : Rd w0 w' R T wd r := by
  obtain ⟨v, dp, h1, h2⟩ := h.at_
  exact ⟨h.env, h.below.trans (hb.mono h.below.size), h.hR, h.hT, h.ok, h.ne, Nat.lt_of_lt_of_le h.ltT hb.size, v, dp, (hb.block _ (heap_lt h1)).trans h1, h2.keep (hb.block _ h.ltT)⟩
theorem Rd.drew {w0 w : World} {R T : Nat} {wd : Int} {r : RS} (h : Rd w0 w R T wd r) : Rd w0 w.drew R T wd r := h.keep (Below.refl _ _).drew
theorem gr_trans {a b c : World} {R : Option Nat} (h : a.grownBy b R) (k : b.grownBy c R) : a.grownBy c R :=
  ⟨k.os.trans h.os, k.tape.trans h.tape, k.output.trans h.output, Nat.le_trans h.size k.size, fun i hi hn => (k.block i (Nat.lt_of_lt_of_le hi h.size) hn).trans (h.block i hi hn)⟩
theorem gr_refl (a : World) (R : Option Nat) : a.grownBy a R := ⟨rfl, rfl, rfl, Nat.le_refl _, fun _ _ _ => rfl⟩
theorem gr_below {a b : World} (h : Below a.heap.size a b) (R : Option Nat) : a.grownBy b R := ⟨h.os, h.tape, h.output, h.size, fun i hi _ => h.block i hi⟩
theorem gr_set {a : World} {R : Nat} (i : Nat) (u : Value) : a.grownBy (a.setCell ⟨R, i, none⟩ u) (some R) :=
  ⟨rfl, rfl, rfl, by simp [World.setCell], fun k _ hn => Below.heap_setCell _ _ _ _ (fun e => hn (by rw [e]))⟩
theorem gr_alloc (a : World) (o : Obj) (R : Option Nat) : a.grownBy (a.alloc o) R := World.grownBy_alloc a o R
theorem gr_drewN {a b : World} {R : Option Nat} (h : a.grownBy b R) (n : Nat) : a.grownBy (b.drewN n) R := ⟨h.os, h.tape, h.output, h.size, h.block⟩
theorem gr_drew {a b : World} {R : Option Nat} (h : a.grownBy b R) : a.grownBy b.drew R := ⟨h.os, h.tape, h.output, h.size, h.block⟩
/-- What is done to new blocks is nothing to the old ones. -/
theorem gr_new {a b : World} {R : Option Nat} (h : a.grownBy b R) {p : Addr} (hp : a.heap.size ≤ p.block) (u : Value) : a.grownBy (b.setCell p u) R :=
  ⟨h.os, h.tape, h.output, by simpa [World.setCell] using h.size, fun k hk hn => (Below.heap_setCell _ _ _ _ (by omega)).trans (h.block k hk hn)⟩
theorem gr_put {a b : World} {R : Nat} (h : a.grownBy b (some R)) (i : Nat) (u : Value) : a.grownBy (b.setCell ⟨R, i, none⟩ u) (some R) := gr_trans h (gr_set i u)
theorem gr_app {a b : World} {R : Option Nat} (h : a.grownBy b R) (o : Obj) : a.grownBy (b.alloc o) R := gr_trans h (gr_alloc b o R)
theorem set_heap {w : World} {g : Nat} {cs : Array Value} {t : TypeId} {f : Nat × Nat} (h : w.heap[g]? = some (.cells cs t f)) (i : Nat) (u : Value) : (w.setCell ⟨g, i, none⟩ u).heap[g]? = some (.cells (cs.setIfInBounds i u) t f) := by
  simp [World.setCell, Array.getElem?_modify, h]
theorem cell_heap {w : World} {g : Nat} {cs : Array Value} {t : TypeId} {f : Nat × Nat} (h : w.heap[g]? = some (.cells cs t f)) (i : Nat) : w.cell? ⟨g, i, none⟩ = cs[i]? := by
  simp [World.cell?, h]
theorem free_heap {w : World} {g : Nat} {cs : Array Value} {t : TypeId} (h : w.heap[g]? = some (.cells cs t (0, 0))) (i : Nat) : w.frozen? ⟨g, i, none⟩ = false := by
  simp [World.frozen?, h]

/-- How a reader's function ends: it gives up by a wrong line, or tells x and leaves the reader at r'. -/
def Post {α : Type} (w0 : World) (R T : Nat) (wd : Int) (w : World) (ret : α → Value → World → Prop) (o : Option (α × RS)) (e : Ending) (w' : World) : Prop :=
  w.grownBy w' (some R) ∧ match o with
    | none => e = .panicked (giv 70)
    | some (x, r') => (∃ v, e = .returned v ∧ ret x v w') ∧ Rd w0 w' R T wd r'
theorem TokS.nil {w : World} {T : Nat} {v : Value} (h : TokS w T v []) : ∃ A c, v = .slice A 0 c ∧ c ≤ 9223372036854775807 := by
  obtain ⟨A, c, hv, _, hm, _⟩ := h
  exact ⟨A, c, hv, hm⟩
theorem TokS.cons {w : World} {T : Nat} {v : Value} {t : Tok} {l : List Tok} (h : TokS w T v (t :: l)) :
    ∃ o c, v = .slice (some ⟨T, o, none⟩) (l.length + 1) c ∧ l.length + 1 ≤ c ∧ c ≤ 9223372036854775807 ∧ w.cell? ⟨T, o, none⟩ = some (.int .u8 t.kind.toNat) ∧ w.cell? ⟨T, o + 1, none⟩ = some (.string (bstr t.text)) ∧
      ∀ A', (0 < l.length → A' = some (⟨T, o + 2, none⟩ : Addr)) → TokS w T (.slice A' l.length (c - 1)) l := by
  obtain ⟨A, c, rfl, hc, hm, hh⟩ := h
  obtain ⟨o, rfl, hcell⟩ := hh (by simp)
  refine ⟨o, c, rfl, hc, hm, hcell 0 _ rfl, hcell 1 _ rfl, fun A' hA => ⟨A', c - 1, rfl, by simp at hc; omega, by omega, fun hne => ⟨o + 2, hA (List.length_pos_iff.2 hne), fun j u hu => ?_⟩⟩⟩
  have := hcell (j + 2) u (by simpa [flat] using hu)
  rwa [show o + (j + 2) = o + 2 + j by omega] at this
end Go.Proofs.YtdkhedefcmjjgaaGreatDoor
