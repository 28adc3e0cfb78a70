/- scan's memory between two bytes of a line, in words for the walk; what its words are, bounded.
Conditions: none. -/
import Derived.Test.YtdkhedefcmjjgaaGreatDoorMNumE
import Derived.Lib.OthersKept
import Derived.Test.YtdkhedefcmjjgaaGreatDoorMSign
import Derived.Test.YtdkhedefcmjjgaaGreatDoorMIsName
namespace Go.Proofs.YtdkhedefcmjjgaaGreatDoor
open Go.RowKit Sp
set_option linter.unusedVariables false
/-- The blocks of a scan: the line, the words, where a word began, its kind, the iterator. -/
structure ScanW (s : ByteArray) (w0 : World) (fr kd : Int) (p : Nat) (v : Value) (n : Nat) (xs : List Value) (wr : World) : Prop where
  hS : wr.heap[w0.heap.size]? = some (.cells #[.string s] 9 (0, 0))
  hO : wr.heap[w0.heap.size + 1]? = some (.cells #[v] 51 (0, 0))
  hF : wr.heap[w0.heap.size + 2]? = some (.cells #[.int .i64 fr] 3 (0, 0))
  hK : wr.heap[w0.heap.size + 3]? = some (.cells #[.int .u8 kd] 5 (0, 0))
  hI : wr.heap[w0.heap.size + 4]? = some (.stringIter s p)
  own : wr.ownsRow (w0.heap.size + 5) 70 2 v n xs
  bel : Below w0.heap.size w0 wr
theorem own_same {w w' : World} {base : Nat} {e : TypeId} {size : Nat} {v : Value} {n : Nat} {xs : List Value} (h : w.ownsRow base e size v n xs) (hk : ∀ g, v.ownBlock = some g → w'.heap[g]? = w.heap[g]?) : w'.ownsRow base e size v n xs := by
  refine ⟨h.1, ?_⟩
  rcases h.2 with h0 | ⟨g, cap, cur, rfl, h1, h2, h3⟩
  · exact .inl h0
  · exact .inr ⟨g, cap, cur, rfl, h1, (hk g rfl).trans h2, h3⟩
section
variable {s : ByteArray} {w0 : World} {fr kd : Int} {p : Nat} {v : Value} {n : Nat} {xs : List Value} {wr : World}
theorem ScanW.lt (h : ScanW s w0 fr kd p v n xs wr) : w0.heap.size + 5 ≤ wr.heap.size := heap_lt h.hI
theorem ScanW.far (h : ScanW s w0 fr kd p v n xs wr) : ∀ g, v.ownBlock = some g → w0.heap.size + 5 ≤ g ∧ g < wr.heap.size := h.own.lt
theorem ScanW.cS (h : ScanW s w0 fr kd p v n xs wr) : wr.cell? ⟨w0.heap.size, 0, none⟩ = some (.string s) := by rw [cell_heap h.hS]; rfl
theorem ScanW.cO (h : ScanW s w0 fr kd p v n xs wr) : wr.cell? ⟨w0.heap.size + 1, 0, none⟩ = some v := by rw [cell_heap h.hO]; rfl
theorem ScanW.cF (h : ScanW s w0 fr kd p v n xs wr) : wr.cell? ⟨w0.heap.size + 2, 0, none⟩ = some (.int .i64 fr) := by rw [cell_heap h.hF]; rfl
theorem ScanW.cK (h : ScanW s w0 fr kd p v n xs wr) : wr.cell? ⟨w0.heap.size + 3, 0, none⟩ = some (.int .u8 kd) := by rw [cell_heap h.hK]; rfl
theorem ScanW.fO (h : ScanW s w0 fr kd p v n xs wr) : wr.frozen? ⟨w0.heap.size + 1, 0, none⟩ = false := free_heap h.hO 0
theorem ScanW.fF (h : ScanW s w0 fr kd p v n xs wr) : wr.frozen? ⟨w0.heap.size + 2, 0, none⟩ = false := free_heap h.hF 0
theorem ScanW.fK (h : ScanW s w0 fr kd p v n xs wr) : wr.frozen? ⟨w0.heap.size + 3, 0, none⟩ = false := free_heap h.hK 0
/-- At the beginning. -/
theorem ScanW.start (s : ByteArray) (w0 : World) : ScanW s w0 (-1) 0 0 (.slice none 0 0) 0 [] (((((w0.alloc (.cells #[.string s] 9)).alloc (.cells #[.slice none 0 0] 51)).alloc (.cells #[.int .i64 (-1)] 3)).alloc (.cells #[.int .u8 0] 5)).alloc (.stringIter s 0)) := by
  have hs : ∀ (w : World) (o o' : Obj) (k : Nat), w.heap.size = k → ((w.alloc o).alloc o').heap[k]? = some o := fun w o o' k hk => by
    rw [Below.heap_alloc _ _ _ (by simp <;> omega), ← hk]; exact heap_alloc_new _ _
  refine ⟨?_, ?_, ?_, ?_, ?_, World.ownsRow_nil _ _ _ _, ?_⟩
  · rw [Below.heap_alloc _ _ _ (by simp <;> omega), Below.heap_alloc _ _ _ (by simp <;> omega), Below.heap_alloc _ _ _ (by simp <;> omega), hs _ _ _ _ rfl]
  · rw [Below.heap_alloc _ _ _ (by simp <;> omega), Below.heap_alloc _ _ _ (by simp <;> omega), hs _ _ _ _ (by simp)]
  · rw [Below.heap_alloc _ _ _ (by simp <;> omega), hs _ _ _ _ (by simp)]
  · rw [hs _ _ _ _ (by simp)]
  · have := heap_alloc_new ((((w0.alloc (.cells #[.string s] 9)).alloc (.cells #[.slice none 0 0] 51)).alloc (.cells #[.int .i64 (-1)] 3)).alloc (.cells #[.int .u8 0] 5)) (.stringIter s 0)
    simpa using this
  · exact (((((Below.refl _ _).alloc (Nat.le_refl _) _).alloc (by simp) _).alloc (by simp <;> omega) _).alloc (by simp <;> omega) _).alloc (by simp <;> omega) _
theorem ScanW.drew (h : ScanW s w0 fr kd p v n xs wr) : ScanW s w0 fr kd p v n xs wr.drew := ⟨h.hS, h.hO, h.hF, h.hK, h.hI, h.own, h.bel.drew⟩
/-- The iterator moved on. -/
theorem ScanW.iter (h : ScanW s w0 fr kd p v n xs wr) (q : Nat) : ScanW s w0 fr kd q v n xs (wr.iterAt (w0.heap.size + 4) s q) := by
  have k : ∀ j, j ≠ w0.heap.size + 4 → (wr.iterAt (w0.heap.size + 4) s q).heap[j]? = wr.heap[j]? := fun j hj => Lib.iterAt_other _ _ _ _ _ hj
  refine ⟨(k _ (by omega)).trans h.hS, (k _ (by omega)).trans h.hO, (k _ (by omega)).trans h.hF, (k _ (by omega)).trans h.hK, Lib.iterAt_heap _ _ _ _ _ h.hI, own_same h.own (fun g hg => k _ (by have := (h.far g hg).1; omega)), Lib.below_iterAt h.bel (by omega) _ _⟩
theorem ScanW.setF (h : ScanW s w0 fr kd p v n xs wr) (x : Int) : ScanW s w0 x kd p v n xs (wr.setCell ⟨w0.heap.size + 2, 0, none⟩ (.int .i64 x)) := by
  have k : ∀ j, j ≠ w0.heap.size + 2 → (wr.setCell ⟨w0.heap.size + 2, 0, none⟩ (.int .i64 x)).heap[j]? = wr.heap[j]? := fun j hj => Below.heap_setCell _ _ _ _ hj
  refine ⟨(k _ (by omega)).trans h.hS, (k _ (by omega)).trans h.hO, ?_, (k _ (by omega)).trans h.hK, (k _ (by omega)).trans h.hI, own_same h.own (fun g hg => k _ (by have := (h.far g hg).1; omega)), h.bel.setCell (by show w0.heap.size ≤ _; simp) _⟩
  have := set_heap h.hF 0 (.int .i64 x)
  simpa using this
theorem ScanW.setK (h : ScanW s w0 fr kd p v n xs wr) (x : Int) : ScanW s w0 fr x p v n xs (wr.setCell ⟨w0.heap.size + 3, 0, none⟩ (.int .u8 x)) := by
  have k : ∀ j, j ≠ w0.heap.size + 3 → (wr.setCell ⟨w0.heap.size + 3, 0, none⟩ (.int .u8 x)).heap[j]? = wr.heap[j]? := fun j hj => Below.heap_setCell _ _ _ _ hj
  refine ⟨(k _ (by omega)).trans h.hS, (k _ (by omega)).trans h.hO, (k _ (by omega)).trans h.hF, ?_, (k _ (by omega)).trans h.hI, own_same h.own (fun g hg => k _ (by have := (h.far g hg).1; omega)), h.bel.setCell (by show w0.heap.size ≤ _; simp) _⟩
  have := set_heap h.hK 0 (.int .u8 x)
  simpa using this
/-- A word more. -/
theorem ScanW.push {o : Obj} {w2 : World} {v' : Value} {m : Nat} {ys : List Value} (h : ScanW s w0 fr kd p v n xs wr) (hg : (wr.alloc o).grownBy w2 v.ownBlock) (hown : w2.ownsRow (w0.heap.size + 5) 70 2 v' m ys) :
    ScanW s w0 fr kd p v' m ys (w2.setCell ⟨w0.heap.size + 1, 0, none⟩ v') := by
  have hl := h.lt
  have k2 : ∀ j, j < w0.heap.size + 5 → w2.heap[j]? = wr.heap[j]? := fun j hj =>
    (hg.block j (by simp <;> omega) (fun e => by have := (h.far j e.symm).1; omega)).trans (Below.heap_alloc _ _ _ (by omega))
  have k : ∀ j, j ≠ w0.heap.size + 1 → (w2.setCell ⟨w0.heap.size + 1, 0, none⟩ v').heap[j]? = w2.heap[j]? := fun j hj => Below.heap_setCell _ _ _ _ hj
  refine ⟨(k _ (by omega)).trans ((k2 _ (by omega)).trans h.hS), ?_, (k _ (by omega)).trans ((k2 _ (by omega)).trans h.hF), (k _ (by omega)).trans ((k2 _ (by omega)).trans h.hK), (k _ (by omega)).trans ((k2 _ (by omega)).trans h.hI), own_same hown (fun g hg => k _ (by have := (hown.lt g hg).1; omega)), ?_⟩
  · have := set_heap ((k2 _ (by omega)).trans h.hO) 0 v'
    simpa using this
  · exact ((h.bel.alloc (by omega) o).grown hg (by simp <;> omega) (fun j e => by have := (h.far j e).1; omega)).setCell (by show w0.heap.size ≤ _; simp) _
end
theorem ownsRow_toks {w : World} {B : Nat} {v : Value} {ts : List Tok} (h : w.ownsRow B 70 2 v ts.length (flat ts)) (T0 : Nat) (hT0 : T0 < w.heap.size) : ∃ T, TokS w T v ts ∧ T < w.heap.size ∧ (T = T0 ∨ B ≤ T) := by
  rcases h.2 with ⟨rfl, h0⟩ | ⟨g, cap, cur, rfl, hb, hh, hn, hm, hs, ht⟩
  · have : ts = [] := List.eq_nil_of_length_eq_zero h0
    subst this
    exact ⟨T0, ⟨none, 0, rfl, by simp, by omega, fun hne => absurd rfl hne⟩, hT0, .inl rfl⟩
  · refine ⟨g, ⟨some ⟨g, 0, none⟩, cap, rfl, hn, by unfold maxLen at hm; exact hm, fun _ => ⟨0, rfl, fun j u hu => ?_⟩⟩, heap_lt hh, .inr hb⟩
    have := h.cells (g := g) rfl j u hu
    rwa [add_plain'] at this
end Go.Proofs.YtdkhedefcmjjgaaGreatDoor
/- scan between two bytes: what is told, step by step; its closure's contract in those words.
Conditions: none. -/
namespace Go.Proofs.YtdkhedefcmjjgaaGreatDoor
open Go.RowKit Sp
set_option linter.unusedVariables false
set_option linter.unusedSimpArgs false
theorem drop_cons (s : ByteArray) (pos : Nat) (hp : pos < s.size) : s.data.toList.drop pos = s[pos] :: s.data.toList.drop (pos + 1) := by
  rw [List.drop_eq_getElem_cons (by simpa using hp)]; rfl
theorem ext_list (s : ByteArray) (a i : Nat) : (s.extract a i).data.toList = (s.data.toList.drop a).take (i - a) := by
  simp [ByteArray.data_extract, List.extract_eq_take_drop]
theorem ext_snoc (s : ByteArray) (a i : Nat) (ha : a ≤ i) (hi : i < s.size) : (s.extract a (i + 1)).data.toList = (s.extract a i).data.toList ++ [s[i]] := by
  rw [ext_list, ext_list, show i + 1 - a = (i - a) + 1 by omega, List.take_succ_eq_append_getElem (by simp; omega)]
  congr 2
  rw [List.getElem_drop]
  simp only [show a + (i - a) = i by omega]
  rfl
theorem ext_one (s : ByteArray) (i : Nat) (hi : i < s.size) : (s.extract i (i + 1)).data.toList = [s[i]] := by
  rw [ext_snoc s i i (Nat.le_refl _) hi, ext_list, Nat.sub_self]; rfl
theorem ext_len (s : ByteArray) (a i : Nat) (hi : i ≤ s.size) : (s.extract a i).data.toList.length = i - a := by
  rw [ext_list]; simp; omega
theorem ext_get (s : ByteArray) (a i j : Nat) (hi : i ≤ s.size) (hj : a + j < i) : (s.extract a i).data.toList[j]? = some s[a + j] := by
  rw [ext_list, List.getElem?_take, if_pos (by omega), List.getElem?_drop, List.getElem?_eq_getElem (by simp; omega)]
  rfl
theorem bstr_ext (s : ByteArray) (a i : Nat) : bstr (s.extract a i).data.toList = s.extract a i := bstr_of _
/-- Where a word stands that was begun. -/
def From (s : ByteArray) (i : Nat) (fr : Int) (cur : Bs) : Prop := (cur = [] ∧ fr = -1) ∨ ∃ a : Nat, fr = a ∧ a < i ∧ cur = (s.extract a i).data.toList
theorem From.ne {s : ByteArray} {a i : Nat} {cur : Bs} (ha : a < i) (hi : i ≤ s.size) (h : cur = (s.extract a i).data.toList) : cur ≠ [] := by
  intro e
  have := ext_len s a i hi
  rw [← h, e] at this
  simp at this
  omega
/-- What is told between two bytes. -/
structure ScanR (s : ByteArray) (w0 : World) (pos : Nat) (fr : Int) (cur : Bs) (kd : UInt8) (out : List Tok) (v : Value) (wr : World) : Prop where
  mem : ScanW s w0 fr kd.toNat pos v out.length (flat out) wr
  go : scanGo (s.data.toList.drop pos) cur kd out = Sp.scan s.data.toList
  frm : From s pos fr cur
  len : out.length + (if cur = [] then 0 else 1) ≤ pos
  le : pos ≤ s.size
section
variable {s : ByteArray} {w0 : World} {pos : Nat} {fr : Int} {cur : Bs} {kd : UInt8} {out : List Tok} {v : Value} {wr wr' : World}
theorem ScanR.step {fr' : Int} {cur' : Bs} {kd' : UInt8} {out' : List Tok} {v' : Value} (h : ScanR s w0 pos fr cur kd out v wr) (hp : pos < s.size)
    (hgo : scanGo (s[pos] :: s.data.toList.drop (pos + 1)) cur kd out = scanGo (s.data.toList.drop (pos + 1)) cur' kd' out')
    (hm : ScanW s w0 fr' kd'.toNat (pos + 1) v' out'.length (flat out') wr') (hf : From s (pos + 1) fr' cur') (hl : out'.length + (if cur' = [] then 0 else 1) ≤ out.length + (if cur = [] then 0 else 1) + 1) : ScanR s w0 (pos + 1) fr' cur' kd' out' v' wr' :=
  ⟨hm, by rw [← hgo, ← drop_cons s pos hp]; exact h.go, hf, by have := h.len; omega, hp⟩
theorem close_len (cur : Bs) (kd : UInt8) (out : List Tok) : (close cur kd out).length = out.length + (if cur = [] then 0 else 1) := by
  cases cur <;> simp [close]
/-- A word begins. -/
theorem ScanR.begin (h : ScanR s w0 pos (-1) [] kd out v wr) (hp : pos < s.size) (hw : wordByte s[pos] = true) {kd' : UInt8} (hk : kd' = if small s[pos] then 110 else 100) (hm : ScanW s w0 pos kd'.toNat (pos + 1) v out.length (flat out) wr') :
    ScanR s w0 (pos + 1) pos [s[pos]] kd' out v wr' :=
  h.step hp (by subst hk; simp [scanGo, hw]) hm (.inr ⟨pos, rfl, by omega, (ext_one s pos hp).symm⟩) (by simp)
/-- A word goes on. -/
theorem ScanR.on {a : Nat} (h : ScanR s w0 pos a cur kd out v wr) (hp : pos < s.size) (hw : wordByte s[pos] = true ∨ (s[pos] = 45 ∧ expo cur = true)) (hm : ScanW s w0 a kd.toNat (pos + 1) v out.length (flat out) wr') :
    ScanR s w0 (pos + 1) a (cur ++ [s[pos]]) kd out v wr' := by
  rcases h.frm with ⟨_, e⟩ | ⟨a', e, ha, hc⟩
  · omega
  · have ea : a' = a := by omega
    subst ea
    have hne := From.ne ha h.le hc
    refine h.step hp ?_ hm (.inr ⟨a', rfl, by omega, by rw [ext_snoc s a' pos (by omega) hp, ← hc]⟩) (by simp [hne])
    rcases hw with hw | ⟨h45, he⟩
    · simp [scanGo, hw, hne]
    · have hw : wordByte s[pos] = false := by rw [h45]; rfl
      rw [scanGo, hw, h45, he]; rfl
/-- A blank. -/
theorem ScanR.blank {v' : Value} (h : ScanR s w0 pos fr cur kd out v wr) (hp : pos < s.size) (hw : s[pos] = 32 ∨ s[pos] = 9) (hm : ScanW s w0 (-1) kd.toNat (pos + 1) v' (close cur kd out).length (flat (close cur kd out)) wr') :
    ScanR s w0 (pos + 1) (-1) [] kd (close cur kd out) v' wr' := by
  refine h.step hp ?_ hm (.inl ⟨rfl, rfl⟩) (by rw [close_len]; simp)
  rcases hw with hw | hw
  · rw [hw, scanGo]; rfl
  · rw [hw, scanGo]; rfl
/-- A sign. -/
theorem ScanR.sign {v' : Value} (h : ScanR s w0 pos fr cur kd out v wr) (hp : pos < s.size) (hw : wordByte s[pos] = false) (h45 : (s[pos] == 45 && expo cur) = false) (hb : (s[pos] == 32 || s[pos] == 9) = false) (hs : isSign s[pos] = true) (hm : ScanW s w0 (-1) kd.toNat (pos + 1) v' ((close cur kd out).length + 1) (flat (close cur kd out) ++ [.int .u8 s[pos].toNat, .string (bstr [s[pos]])]) wr') :
    ScanR s w0 (pos + 1) (-1) [] kd (close cur kd out ++ [⟨s[pos], [s[pos]]⟩]) v' wr' := by
  refine h.step hp ?_ ?_ (.inl ⟨rfl, rfl⟩) (by rw [List.length_append, close_len]; simp)
  · rw [scanGo, hw, h45, hb, hs]; rfl
  · rw [List.length_append, flat_append]; exact hm
/-- No word's byte. -/
theorem ScanR.no (h : ScanR s w0 pos fr cur kd out v wr) (hp : pos < s.size) (hw : wordByte s[pos] = false) (h45 : (s[pos] == 45 && expo cur) = false) (hb : (s[pos] == 32 || s[pos] == 9) = false) (hs : isSign s[pos] = false) : Sp.scan s.data.toList = none := by
  have := h.go
  rw [drop_cons s pos hp, scanGo, hw, h45, hb, hs] at this
  exact this.symm
theorem ScanR.done (h : ScanR s w0 pos fr cur kd out v wr) (hp : ¬ pos < s.size) : pos = s.size ∧ Sp.scan s.data.toList = some (close cur kd out) := by
  have e : pos = s.size := by have := h.le; omega
  refine ⟨e, ?_⟩
  have := h.go
  rw [List.drop_of_length_le (by simp; omega), scanGo] at this
  exact this.symm
/-- What 'exponent' tells. -/
theorem expo_ext {a : Nat} (ha : a < pos) (hp : pos < s.size) (h45 : s[pos] = 45) (hc : cur = (s.extract a pos).data.toList) : expo cur = ((s[pos - 1] == 101) && ten s[a] && (s[a + 1] != 120)) := by
  have hlen := ext_len s a pos (by omega)
  have g0 := ext_get s a pos 0 (by omega) (by omega)
  have gl := ext_get s a pos (pos - a - 1) (by omega) (by omega)
  have hlast : cur.getLast? = some s[pos - 1] := by
    rw [List.getLast?_eq_getElem?, hc, hlen, gl]
    simp only [show a + (pos - a - 1) = pos - 1 by omega]
  cases hcur : cur with
  | nil => rw [hcur] at hlast; simp at hlast
  | cons x r =>
    have hx : x = s[a] := by
      rw [← hc, hcur] at g0
      simpa using g0
    have hl' : (x :: r).getLast? = some s[pos - 1] := by rw [← hcur]; exact hlast
    show ((x :: r).getLast? == some 101 && ten x && (match r with | [] => true | d :: _ => d != 120)) = _
    rw [hl', hx]
    have hb : (some s[pos - 1] == some (101 : UInt8)) = (s[pos - 1] == 101) := by simp
    rw [hb]
    congr 1
    cases r with
    | nil =>
      have hl1 : pos - a = 1 := by rw [← hlen, ← hc, hcur]; rfl
      have e1 : s[a + 1] = 45 := by
        have : a + 1 = pos := by omega
        simp only [this]; exact h45
      rw [e1]; rfl
    | cons d r =>
      have hl2 : 2 ≤ pos - a := by rw [← hlen, ← hc, hcur]; simp
      have g1 := ext_get s a pos 1 (by omega) (by omega)
      rw [← hc, hcur] at g1
      have hd : d = s[a + 1] := by simpa using g1
      rw [hd]
end
theorem small_word {k : UInt8} (h : 97 ≤ (k.toNat : Int) ∧ (k.toNat : Int) ≤ 122) : wordByte k = true ∧ small k = true := by
  have := (small_iff k).2 h
  simp [wordByte, this]
theorem ten_word {k : UInt8} (h : 48 ≤ (k.toNat : Int) ∧ (k.toNat : Int) ≤ 57) : wordByte k = true ∧ small k = false := by
  have h1 := (ten_iff k).2 h
  have h2 : small k = false := by
    cases hs : small k
    · rfl
    · have := (small_iff k).1 hs; omega
  simp [wordByte, h1, h2]
theorem upper_iff (k : UInt8) : upper k = true ↔ (65 ≤ (k.toNat : Int) ∧ (k.toNat : Int) ≤ 90) := by
  simp [upper, UInt8.le_iff_toNat_le]; omega
theorem upper_word {k : UInt8} (h : 65 ≤ (k.toNat : Int) ∧ (k.toNat : Int) ≤ 90) : wordByte k = true ∧ small k = false := by
  have h1 := (upper_iff k).2 h
  have h2 : small k = false := by
    cases hs : small k
    · rfl
    · have := (small_iff k).1 hs; omega
  simp [wordByte, h1, h2]
theorem eq_of_num {k : UInt8} {n : Nat} (hn : n < 256) (h : (k.toNat : Int) = (n : Int)) : k = UInt8.ofNat n := by
  apply UInt8.toNat_inj.1
  rw [UInt8.toNat_ofNat', Nat.mod_eq_of_lt hn]
  omega
theorem no_word {k : UInt8} (h97 : (k.toNat : Int) < 97 ∨ 122 < (k.toNat : Int)) (h48 : (k.toNat : Int) < 48 ∨ 57 < (k.toNat : Int)) (h65 : (k.toNat : Int) < 65 ∨ 90 < (k.toNat : Int)) (h46 : k.toNat ≠ 46) (h95 : k.toNat ≠ 95) : wordByte k = false := by
  have f : ∀ b : Bool, (b = true → False) → b = false := fun b h => by cases b <;> simp_all
  have h1 := f (small k) (fun h => by have := (small_iff k).1 h; omega)
  have h2 := f (ten k) (fun h => by have := (ten_iff k).1 h; omega)
  have h3 := f (upper k) (fun h => by have := (upper_iff k).1 h; omega)
  have h4 : (k == 46) = false := beq_eq_false_iff_ne.2 (fun e => h46 (by rw [e]; rfl))
  have h5 : (k == 95) = false := beq_eq_false_iff_ne.2 (fun e => h95 (by rw [e]; rfl))
  simp [wordByte, h1, h2, h3, h4, h5]
theorem no_word_iv {k : UInt8} (h : wordByte k = false) : (((k.toNat : Int) < 48) ∨ (58 ≤ (k.toNat : Int) ∧ (k.toNat : Int) ≤ 64) ∨ (91 ≤ (k.toNat : Int) ∧ (k.toNat : Int) ≤ 96) ∨ (122 < (k.toNat : Int))) ∧ (k.toNat : Int) ≠ 46 ∧ (k.toNat : Int) ≠ 95 := by
  have f1 : ¬ (97 ≤ (k.toNat : Int) ∧ (k.toNat : Int) ≤ 122) := fun e => by rw [(small_word e).1] at h; cases h
  have f2 : ¬ (48 ≤ (k.toNat : Int) ∧ (k.toNat : Int) ≤ 57) := fun e => by rw [(ten_word e).1] at h; cases h
  have f3 : ¬ (65 ≤ (k.toNat : Int) ∧ (k.toNat : Int) ≤ 90) := fun e => by rw [(upper_word e).1] at h; cases h
  have f4 : (k.toNat : Int) ≠ 46 := fun e => by rw [eq_of_num (n := 46) (by decide) e] at h; cases h
  have f5 : (k.toNat : Int) ≠ 95 := fun e => by rw [eq_of_num (n := 95) (by decide) e] at h; cases h
  omega
/-- The closure's contract, in these words. -/
theorem shut_scan {s : ByteArray} {w0 : World} {fr : Int} {cur : Bs} {kd : UInt8} {q i : Nat} {out : List Tok} {v : Value} {w1 : World} (h : ScanW s w0 fr kd.toNat q v out.length (flat out) w1) (hf : From s i fr cur) (hi : i ≤ s.size) (hs : s.size ≤ 1000000) (ho : out.length ≤ 1000000) :
    Calls Tryz.prog 31 #[.int .i64 i, .pointer (some ⟨w0.heap.size + 2, 0, none⟩), .pointer (some ⟨w0.heap.size + 1, 0, none⟩), .pointer (some ⟨w0.heap.size + 3, 0, none⟩), .pointer (some ⟨w0.heap.size, 0, none⟩)] w1 fun e w' =>
      e = .returned (.tuple #[]) ∧ ∃ v', ScanW s w0 (-1) kd.toNat q v' (close cur kd out).length (flat (close cur kd out)) w' := by
  rcases hf with ⟨rfl, rfl⟩ | ⟨a, rfl, ha, hc⟩
  · refine (shut_none i _ _ _ _ w1 h.cF h.fF).mono ?_
    rintro e w' ⟨rfl, rfl⟩
    exact ⟨rfl, v, h.setF (-1)⟩
  · have hne := From.ne ha hi hc
    refine (shut_some s a i (by omega) hi hs kd.toNat _ _ _ _ (w0.heap.size + 5) v out.length (flat out) ho w1 h.cF h.fF h.cO h.fO h.cK h.cS h.own (by omega) (by omega) h.lt (by omega)).mono ?_
    rintro e w' ⟨rfl, g, cap, w2, hg, hown, rfl⟩
    have e1 : close cur kd out = out ++ [⟨kd, cur⟩] := by simp [close, hne]
    refine ⟨rfl, .slice (some ⟨g, 0, none⟩) (out.length + 1) cap, ?_⟩
    rw [e1, List.length_append, flat_append]
    have hfl : flat [(⟨kd, cur⟩ : Tok)] = [.int .u8 kd.toNat, .string (s.extract a i)] := by simp only [flat, hc, bstr_ext]
    rw [hfl]
    exact (h.push hg hown).setF (-1)
end Go.Proofs.YtdkhedefcmjjgaaGreatDoor
