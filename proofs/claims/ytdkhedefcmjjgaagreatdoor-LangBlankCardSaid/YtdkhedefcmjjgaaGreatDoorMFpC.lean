/- A decimal of internal/strconv in memory: its digits, where its point stands; trim, walked.
Conditions: none. -/
import Derived.Test.YtdkhedefcmjjgaaGreatDoorMSpec
import Derived.Lib.Hide
import Derived.Handy
import Derived.Deep.RegionWith
namespace Go.Proofs.YtdkhedefcmjjgaaGreatDoor
open Go.RowKit Sp
set_option linter.unusedSimpArgs false
set_option linter.unusedVariables false
/-- A decimal: its bytes, how many are digits, where its point stands, was something let fall. -/
structure Ds where
  f : Nat → Nat
  nd : Nat
  dp : Int
  tr : Bool
def Ds.cells (S : Ds) : Array Value := (Array.ofFn (n := 800) fun i => Value.int .u8 (S.f i.val)) ++ #[.int .i64 S.nd, .int .i64 S.dp, .bool false, .bool S.tr]
def upd (f : Nat → Nat) (i v : Nat) : Nat → Nat := fun j => if j = i then v else f j
theorem Ds.size (S : Ds) : S.cells.size = 804 := by simp [Ds.cells]
theorem Ds.digit (S : Ds) {i : Nat} (h : i < 800) : S.cells[i]? = some (.int .u8 (S.f i)) := by
  unfold Ds.cells
  rw [Array.getElem?_append_left (by simpa using h)]
  simp [h]
theorem Ds.c800 (S : Ds) : S.cells[800]? = some (.int .i64 S.nd) := by
  unfold Ds.cells
  rw [Array.getElem?_append_right (by simp)]
  simp
theorem Ds.c801 (S : Ds) : S.cells[801]? = some (.int .i64 S.dp) := by
  unfold Ds.cells
  rw [Array.getElem?_append_right (by simp)]
  simp
theorem Ds.c802 (S : Ds) : S.cells[802]? = some (.bool false) := by
  unfold Ds.cells
  rw [Array.getElem?_append_right (by simp)]
  simp
theorem Ds.c803 (S : Ds) : S.cells[803]? = some (.bool S.tr) := by
  unfold Ds.cells
  rw [Array.getElem?_append_right (by simp)]
  simp
theorem Ds.ext_cells {a b : Array Value} (ha : a.size = 804) (hb : b.size = 804) (h : ∀ i, i < 800 → a[i]? = b[i]?) (h0 : a[800]? = b[800]?) (h1 : a[801]? = b[801]?) (h2 : a[802]? = b[802]?) (h3 : a[803]? = b[803]?) : a = b := by
  apply Array.ext_getElem?
  intro i
  by_cases h8 : i < 800
  · exact h i h8
  · by_cases e0 : i = 800
    · rw [e0]; exact h0
    · by_cases e1 : i = 801
      · rw [e1]; exact h1
      · by_cases e2 : i = 802
        · rw [e2]; exact h2
        · by_cases e3 : i = 803
          · rw [e3]; exact h3
          · rw [Array.getElem?_eq_none (by omega), Array.getElem?_eq_none (by omega)]
theorem Ds.set_digit (S : Ds) {i : Nat} (h : i < 800) (v : Nat) : S.cells.setIfInBounds i (.int .u8 v) = ({ S with f := upd S.f i v } : Ds).cells := by
  have hs := S.size
  refine Ds.ext_cells (by simp [hs]) (Ds.size _) (fun j hj => ?_) ?_ ?_ ?_ ?_
  · rw [Ds.digit _ hj]
    simp only [upd]
    by_cases e : i = j
    · subst e
      simp [hs, show i < 804 by omega]
    · rw [Array.getElem?_setIfInBounds_ne e, S.digit hj, if_neg (fun h => e h.symm)]
  · rw [Array.getElem?_setIfInBounds_ne (by omega), S.c800, Ds.c800]
  · rw [Array.getElem?_setIfInBounds_ne (by omega), S.c801, Ds.c801]
  · rw [Array.getElem?_setIfInBounds_ne (by omega), S.c802, Ds.c802]
  · rw [Array.getElem?_setIfInBounds_ne (by omega), S.c803, Ds.c803]
theorem Ds.set_nd (S : Ds) (m : Nat) : S.cells.setIfInBounds 800 (.int .i64 m) = ({ S with nd := m } : Ds).cells := by
  have hs := S.size
  refine Ds.ext_cells (by simp [hs]) (Ds.size _) (fun j hj => ?_) ?_ ?_ ?_ ?_
  · rw [Array.getElem?_setIfInBounds_ne (by omega), S.digit hj, Ds.digit _ hj]
  · rw [Ds.c800]; simp [hs]
  · rw [Array.getElem?_setIfInBounds_ne (by omega), S.c801, Ds.c801]
  · rw [Array.getElem?_setIfInBounds_ne (by omega), S.c802, Ds.c802]
  · rw [Array.getElem?_setIfInBounds_ne (by omega), S.c803, Ds.c803]
theorem Ds.set_dp (S : Ds) (m : Int) : S.cells.setIfInBounds 801 (.int .i64 m) = ({ S with dp := m } : Ds).cells := by
  have hs := S.size
  refine Ds.ext_cells (by simp [hs]) (Ds.size _) (fun j hj => ?_) ?_ ?_ ?_ ?_
  · rw [Array.getElem?_setIfInBounds_ne (by omega), S.digit hj, Ds.digit _ hj]
  · rw [Array.getElem?_setIfInBounds_ne (by omega), S.c800, Ds.c800]
  · rw [Ds.c801]; simp [hs]
  · rw [Array.getElem?_setIfInBounds_ne (by omega), S.c802, Ds.c802]
  · rw [Array.getElem?_setIfInBounds_ne (by omega), S.c803, Ds.c803]
theorem Ds.set_tr (S : Ds) (m : Bool) : S.cells.setIfInBounds 803 (.bool m) = ({ S with tr := m } : Ds).cells := by
  have hs := S.size
  refine Ds.ext_cells (by simp [hs]) (Ds.size _) (fun j hj => ?_) ?_ ?_ ?_ ?_
  · rw [Array.getElem?_setIfInBounds_ne (by omega), S.digit hj, Ds.digit _ hj]
  · rw [Array.getElem?_setIfInBounds_ne (by omega), S.c800, Ds.c800]
  · rw [Array.getElem?_setIfInBounds_ne (by omega), S.c801, Ds.c801]
  · rw [Array.getElem?_setIfInBounds_ne (by omega), S.c802, Ds.c802]
  · rw [Ds.c803]; simp [hs]
/-- The decimal S lies in block D. -/
def DecAt (w : World) (D : Nat) (S : Ds) : Prop := w.heap[D]? = some (.cells S.cells 217 (0, 0))
section
variable {w : World} {D : Nat} {S : Ds}
theorem DecAt.dig (h : DecAt w D S) {i : Nat} (hi : i < 800) : w.cell? ⟨D, i, none⟩ = some (.int .u8 (S.f i)) := (cell_heap h i).trans (S.digit hi)
theorem DecAt.nd (h : DecAt w D S) : w.cell? ⟨D, 800, none⟩ = some (.int .i64 S.nd) := (cell_heap h _).trans S.c800
theorem DecAt.dp (h : DecAt w D S) : w.cell? ⟨D, 801, none⟩ = some (.int .i64 S.dp) := (cell_heap h _).trans S.c801
theorem DecAt.ng (h : DecAt w D S) : w.cell? ⟨D, 802, none⟩ = some (.bool false) := (cell_heap h _).trans S.c802
theorem DecAt.tr (h : DecAt w D S) : w.cell? ⟨D, 803, none⟩ = some (.bool S.tr) := (cell_heap h _).trans S.c803
theorem DecAt.free (h : DecAt w D S) (i : Nat) : w.frozen? ⟨D, i, none⟩ = false := free_heap h i
theorem DecAt.setDig (h : DecAt w D S) {i : Nat} (hi : i < 800) (v : Nat) : DecAt (w.setCell ⟨D, i, none⟩ (.int .u8 v)) D { S with f := upd S.f i v } := by
  unfold DecAt
  rw [← S.set_digit hi]
  exact set_heap h _ _
theorem DecAt.setNd (h : DecAt w D S) (m : Nat) : DecAt (w.setCell ⟨D, 800, none⟩ (.int .i64 m)) D { S with nd := m } := by
  unfold DecAt
  rw [← S.set_nd]
  exact set_heap h _ _
theorem DecAt.setDp (h : DecAt w D S) (m : Int) : DecAt (w.setCell ⟨D, 801, none⟩ (.int .i64 m)) D { S with dp := m } := by
  unfold DecAt
  rw [← S.set_dp]
  exact set_heap h _ _
theorem DecAt.setTr (h : DecAt w D S) (m : Bool) : DecAt (w.setCell ⟨D, 803, none⟩ (.bool m)) D { S with tr := m } := by
  unfold DecAt
  rw [← S.set_tr]
  exact set_heap h _ _
theorem DecAt.drew (h : DecAt w D S) : DecAt w.drew D S := h
end
/-- How many digits are left when the zeros behind are let fall. -/
def trimN (f : Nat → Nat) : Nat → Nat
  | 0 => 0
  | n + 1 => if f n = 48 then trimN f n else n + 1
def trimS (S : Ds) : Ds := { S with nd := trimN S.f S.nd, dp := if trimN S.f S.nd = 0 then 0 else S.dp }
def ndOf (w : World) (D : Nat) : Nat := match w.cell? ⟨D, 800, none⟩ with | some (.int _ n) => n.toNat | _ => 0
theorem DecAt.ndOf {w : World} {D : Nat} {S : Ds} (h : DecAt w D S) : YtdkhedefcmjjgaaGreatDoor.ndOf w D = S.nd := by
  unfold YtdkhedefcmjjgaaGreatDoor.ndOf
  rw [h.nd]
  simp
set_option maxHeartbeats 1000000 in
theorem trim_any (S : Ds) (hn : S.nd ≤ 800) (w : World) (D : Nat) (h : DecAt w D S) :
    Calls Tryz.prog 175 #[.pointer (some ⟨D, 0, none⟩)] w fun e w' => e = .returned (.tuple #[]) ∧ DecAt w' D (trimS S) ∧ w.grownBy w' (some D) := by
  have H := Lib.hid h
  clear h
  obtain ⟨f, nd, dp, tr⟩ := S
  replace hn : nd ≤ 800 := hn
  go_enter Tryz.func175, Tryz.ntmps175
  go_wp2_with fail
  go_loopw [] (fun wr => ∃ m, m ≤ nd ∧ trimN f m = trimN f nd ∧ Hid (DecAt wr D ⟨f, m, dp, tr⟩ ∧ w.grownBy wr (some D))) (fun wr => ndOf wr D)
  case atStart => exact ⟨nd, Nat.le_refl _, rfl, Lib.hid ⟨H.out, gr_refl _ _⟩⟩
  case round =>
    obtain ⟨m, hm, ht, hd⟩ := hrel
    have k8 : wr.cell? ⟨D, 800, none⟩ = some (.int .i64 m) := hd.out.1.nd
    have k9 : wr.cell? ⟨D, 801, none⟩ = some (.int .i64 dp) := hd.out.1.dp
    have f8 := hd.out.1.free 800
    have f9 := hd.out.1.free 801
    have hno := hd.out.1.ndOf
    cases m with
    | zero =>
      go_wp2_with fail
      go_region
      go_wp2_with fail
      go_end0
      have e0 : trimN f nd = 0 := ht.symm
      exact ⟨rfl, by
        have e : trimS ⟨f, nd, dp, tr⟩ = ⟨f, 0, 0, tr⟩ := by simp [trimS, e0]
        rw [e]
        exact (hd.out.1.setDp 0).drew, gr_drew (gr_put hd.out.2 _ _)⟩
    | succ m =>
      have kd : wr.cell? ⟨D, m, none⟩ = some (.int .u8 (f m)) := hd.out.1.dig (by omega)
      by_cases h48 : f m = 48
      · have ht' : trimN f m = trimN f nd := by rw [← ht]; simp [trimN, h48]
        have hd' : Hid (DecAt (wr.setCell ⟨D, 800, none⟩ (.int .i64 m)).drew D ⟨f, m, dp, tr⟩ ∧ w.grownBy (wr.setCell ⟨D, 800, none⟩ (.int .i64 m)).drew (some D)) := Lib.hid ⟨(hd.out.1.setNd m).drew, gr_drew (gr_put hd.out.2 _ _)⟩
        have hno' := hd'.out.1.ndOf
        go_wp2_with fail
        go_region
        go_wp2_with fail
        exact ⟨⟨m, by omega, ht', hd'⟩, by rw [hno, hno']; simp⟩
      · have e1 : trimN f nd = m + 1 := by rw [← ht]; simp [trimN, h48]
        go_wp2_with fail
        go_region
        go_wp2_with fail
        go_end0
        exact ⟨rfl, by
          have e : trimS ⟨f, nd, dp, tr⟩ = ⟨f, m + 1, dp, tr⟩ := by simp [trimS, e1]
          rw [e]
          exact hd.out.1.drew, gr_drew hd.out.2⟩
end Go.Proofs.YtdkhedefcmjjgaaGreatDoor
/- prefixIsLessThan, shouldRoundUp, RoundedInteger, walked.
Conditions: none. -/
namespace Go.Proofs.YtdkhedefcmjjgaaGreatDoor
open Go.RowKit Sp
set_option linter.unusedSimpArgs false
set_option linter.unusedVariables false
/-- Are the digits, from the i-th on, less than a text's rest? -/
def preL (f : Nat → Nat) (nd : Nat) : Bs → Nat → Bool
  | [], _ => false
  | x :: r, i => if nd ≤ i then true else if f i = x.toNat then preL f nd r (i + 1) else decide (f i < x.toNat)
theorem preL_drop (f : Nat → Nat) (nd : Nat) (c : Bs) (i : Nat) (hi : i < c.length) : preL f nd (c.drop i) i = if nd ≤ i then true else if f i = (c[i]).toNat then preL f nd (c.drop (i + 1)) (i + 1) else decide (f i < (c[i]).toNat) := by
  rw [List.drop_eq_getElem_cons hi]
  rfl
set_option maxHeartbeats 1000000 in
theorem prefix_any (S : Ds) (hn : S.nd ≤ 800) (c : Bs) (hc : c.length ≤ 1000) (w : World) (D : Nat) (h : DecAt w D S) :
    Calls Tryz.prog 174 #[.slice (some ⟨D, 0, none⟩) S.nd 800, .string (bstr c)] w fun e w' => e = .returned (.bool (preL S.f S.nd c 0)) ∧ Below w.heap.size w w' := by
  have H := Lib.hid h
  clear h
  obtain ⟨f, nd, dp, tr⟩ := S
  replace hn : nd ≤ 800 := hn
  have hlen : (bstr c).size = c.length := bstr_size c
  go_enter Tryz.func174, Tryz.ntmps174
  go_wp2_with fail
  go_loopw [5] (fun t5 wr => ∃ i : Nat, t5 = .int .i64 i ∧ i ≤ c.length ∧ Hid (preL f nd (c.drop i) i = preL f nd c 0 ∧ Below w.heap.size w wr)) (fun t5 _ => c.length - (intOf t5).toNat)
  case atStart => exact ⟨0, rfl, Nat.zero_le _, Lib.hid ⟨rfl, Below.refl _ _⟩⟩
  case round =>
    obtain ⟨i, rfl, hi, hb⟩ := hrel
    have hD : DecAt wr D ⟨f, nd, dp, tr⟩ := (hb.out.2.block _ (heap_lt H.out)).trans H.out
    have HD := Lib.hid hD
    clear hD
    rcases Nat.lt_or_ge i c.length with hl | hl
    · have hl' : (i : Int) < (c.length : Int) := by omega
      rcases Nat.lt_or_ge i nd with hm | hm
      · have kd : wr.cell? ⟨D, i, none⟩ = some (.int .u8 (f i)) := HD.out.dig (by omega)
        have hbi : (bstr c)[i]'(by rw [hlen]; exact hl) = c[i] := by
          show (bstr c).data[i] = _
          simp [bstr]
        have ht : Hid ((if f i = (c[i]).toNat then preL f nd (c.drop (i + 1)) (i + 1) else decide (f i < (c[i]).toNat)) = preL f nd c 0) := Lib.hid (by
          have ht := hb.out.1
          rw [preL_drop _ _ _ _ hl, if_neg (by omega)] at ht
          exact ht)
        generalize c[i] = x at hbi ht
        by_cases he : f i = x.toNat
        · have hn : Hid (preL f nd (c.drop (i + 1)) (i + 1) = preL f nd c 0 ∧ Below w.heap.size w wr) := Lib.hid ⟨by
            have ht := ht.out
            rw [if_pos he] at ht
            exact ht, hb.out.2⟩
          rw [he] at kd
          clear he ht
          go_wp2_with fail
          go_region
          go_wp2_with fail
          exact ⟨⟨i + 1, by simp, by omega, Lib.hid ⟨hn.out.1, hn.out.2.drew⟩⟩, by simp [intOf]; omega⟩
        · have ht : Hid (decide (f i < x.toNat) = preL f nd c 0) := Lib.hid (by
            have ht := ht.out
            rw [if_neg he] at ht
            exact ht)
          have hne : ((f i : Int) != (x.toNat : Int)) = true := by simp; omega
          clear he
          go_wp2_with fail
          go_region
          go_wp2_with fail
          go_region
          go_wp2_with fail
          go_returns
          exact ⟨by rw [← ht.out]; simp, hb.out.2.drew.drew⟩
      · have ht : Hid (preL f nd c 0 = true) := Lib.hid (by
          have ht := hb.out.1
          rw [preL_drop _ _ _ _ hl, if_pos hm] at ht
          exact ht.symm)
        go_wp2_with fail
        go_returns
        exact ⟨by rw [ht.out]; rfl, hb.out.2⟩
    · have ht : Hid (preL f nd c 0 = false) := Lib.hid (by
        have ht := hb.out.1
        rw [List.drop_eq_nil_of_le hl] at ht
        exact ht.symm)
      go_wp2_with fail
      go_returns
      exact ⟨by rw [ht.out]; rfl, hb.out.2⟩
/-- The bytes are digits. -/
def Digs (S : Ds) : Prop := S.nd ≤ 800 ∧ ∀ i, i < S.nd → 48 ≤ S.f i ∧ S.f i ≤ 57
set_option maxRecDepth 4000 in
set_option maxHeartbeats 2000000 in
theorem roundUp_any (S : Ds) (hS : Digs S) (n : Int) (hn : n ≤ 1000) : ∃ b : Bool, ∀ w D, DecAt w D S → Calls Tryz.prog 173 #[.pointer (some ⟨D, 0, none⟩), .int .i64 n] w fun e w' => e = .returned (.bool b) ∧ Below w.heap.size w w' := by
  obtain ⟨f, nd, dp, tr⟩ := S
  obtain ⟨hnd, hdig⟩ := hS
  replace hnd : nd ≤ 800 := hnd
  replace hdig : ∀ i, i < nd → 48 ≤ f i ∧ f i ≤ 57 := hdig
  rcases Int.lt_or_le n 0 with h0 | h0
  · refine ⟨false, fun w D h => ?_⟩
    have k8 : w.cell? ⟨D, 800, none⟩ = some (.int .i64 nd) := h.nd
    clear h hdig
    go_enter Tryz.func173, Tryz.ntmps173
    go_wp2_with fail
    go_returns
    exact ⟨rfl, Below.refl _ _⟩
  · obtain ⟨m, rfl⟩ : ∃ m : Nat, n = m := ⟨n.toNat, by omega⟩
    rcases Nat.lt_or_ge m nd with h1 | h1
    · have hd := hdig m h1
      by_cases h53 : f m = 53 ∧ m + 1 = nd
      · obtain ⟨h53, hl⟩ := h53
        cases tr with
        | true =>
          refine ⟨true, fun w D h => ?_⟩
          have k8 : w.cell? ⟨D, 800, none⟩ = some (.int .i64 nd) := h.nd
          have kd : w.cell? ⟨D, m, none⟩ = some (.int .u8 (f m)) := h.dig (by omega)
          have kt : w.cell? ⟨D, 803, none⟩ = some (.bool true) := h.tr
          rw [h53] at kd
          clear h hdig
          go_enter Tryz.func173, Tryz.ntmps173
          go_wp2_with fail
          go_returns
          exact ⟨rfl, Below.refl _ _⟩
        | false =>
          cases m with
          | zero =>
            refine ⟨false, fun w D h => ?_⟩
            have k8 : w.cell? ⟨D, 800, none⟩ = some (.int .i64 nd) := h.nd
            have kd : w.cell? ⟨D, 0, none⟩ = some (.int .u8 (f 0)) := h.dig (by omega)
            have kt : w.cell? ⟨D, 803, none⟩ = some (.bool false) := h.tr
            rw [h53] at kd
            clear h hdig
            go_enter Tryz.func173, Tryz.ntmps173
            go_wp2_with fail
            go_returns
            exact ⟨rfl, Below.refl _ _⟩
          | succ p =>
            generalize hm : p + 1 = m at *
            refine ⟨((f (m - 1) : Int) - 48) % 2 != 0, fun w D h => ?_⟩
            have k8 : w.cell? ⟨D, 800, none⟩ = some (.int .i64 nd) := h.nd
            have kd : w.cell? ⟨D, m, none⟩ = some (.int .u8 (f m)) := h.dig (by omega)
            have ke : w.cell? ⟨D, m - 1, none⟩ = some (.int .u8 (f (m - 1))) := h.dig (by omega)
            have kt : w.cell? ⟨D, 803, none⟩ = some (.bool false) := h.tr
            have hm1 := (hdig (m - 1) (by omega)).1
            have hm2 := (hdig (m - 1) (by omega)).2
            have hm0 : 0 < m := by omega
            rw [h53] at kd
            clear h hdig h53 hm hd
            generalize f (m - 1) = q at ke hm1 hm2
            go_enter Tryz.func173, Tryz.ntmps173
            go_wp2_with fail
            go_returns
            exact ⟨rfl, Below.refl _ _⟩
      · by_cases h2 : f m = 53
        · have hl : ¬ (m + 1 = nd) := fun e => h53 ⟨h2, e⟩
          refine ⟨true, fun w D h => ?_⟩
          have k8 : w.cell? ⟨D, 800, none⟩ = some (.int .i64 nd) := h.nd
          have kd : w.cell? ⟨D, m, none⟩ = some (.int .u8 (f m)) := h.dig (by omega)
          rw [h2] at kd
          clear h hdig h53
          go_enter Tryz.func173, Tryz.ntmps173
          go_wp2_with fail
          go_returns
          exact ⟨rfl, Below.refl _ _⟩
        · refine ⟨decide ((53 : Int) ≤ (f m : Int)), fun w D h => ?_⟩
          have k8 : w.cell? ⟨D, 800, none⟩ = some (.int .i64 nd) := h.nd
          have kd : w.cell? ⟨D, m, none⟩ = some (.int .u8 (f m)) := h.dig (by omega)
          have hne : ((f m : Int) == 53) = false := by simp; omega
          clear h hdig h53
          go_enter Tryz.func173, Tryz.ntmps173
          go_wp2_with fail
          go_returns
          exact ⟨rfl, Below.refl _ _⟩
    · refine ⟨false, fun w D h => ?_⟩
      have k8 : w.cell? ⟨D, 800, none⟩ = some (.int .i64 nd) := h.nd
      clear h hdig
      go_enter Tryz.func173, Tryz.ntmps173
      go_wp2_with fail
      go_returns
      exact ⟨rfl, Below.refl _ _⟩
/-- The whole part's number, as the loop reckons it. -/
def numI (f : Nat → Nat) : Nat → Int
  | 0 => 0
  | i + 1 => IntKind.u64.wrap (IntKind.u64.wrap (numI f i * 10) + ((f i : Int) - 48))
def tens (n : Int) : Nat → Int
  | 0 => n
  | i + 1 => IntKind.u64.wrap (tens n i * 10)
set_option maxHeartbeats 1000000 in
theorem rounded_any (S : Ds) (hS : Digs S) (hdp : -100000000 ≤ S.dp) : ∃ v : Int, ∀ w D, DecAt w D S → Calls Tryz.prog 168 #[.pointer (some ⟨D, 0, none⟩)] w fun e w' => e = .returned (.int .u64 v) ∧ Below w.heap.size w w' := by
  obtain ⟨b, HR⟩ : ∃ b : Bool, ∀ w D, DecAt w D S → S.dp ≤ 1000 → Calls Tryz.prog 173 #[.pointer (some ⟨D, 0, none⟩), .int .i64 S.dp] w fun e w' => e = .returned (.bool b) ∧ Below w.heap.size w w' := by
    rcases Int.lt_or_le 1000 S.dp with h | h
    · exact ⟨true, fun _ _ _ h' => absurd h' (by omega)⟩
    · obtain ⟨b, hb⟩ := roundUp_any S hS S.dp h
      exact ⟨b, fun w D hD _ => hb w D hD⟩
  replace HR := Lib.hid HR
  obtain ⟨f, nd, dp, tr⟩ := S
  obtain ⟨hnd, hdig⟩ := hS
  replace hnd : nd ≤ 800 := hnd
  replace hdig : ∀ i, i < nd → 48 ≤ f i ∧ f i ≤ 57 := hdig
  replace hdp : -100000000 ≤ dp := hdp
  have HD := Lib.hid hdig
  clear hdig
  rcases Int.lt_or_le 20 dp with h0 | h0
  · refine ⟨18446744073709551615, fun w D h => ?_⟩
    have k9 : w.cell? ⟨D, 801, none⟩ = some (.int .i64 dp) := h.dp
    clear h
    go_enter Tryz.func168, Tryz.ntmps168
    go_wp2_with fail
    go_returns
    exact ⟨rfl, Below.refl _ _⟩
  · cases b with
    | true =>
      refine ⟨IntKind.u64.wrap ((tens (numI f (min dp.toNat nd)) (dp.toNat - min dp.toNat nd)) + 1), fun w D h => ?_⟩
      have H := Lib.hid h
      have k8 : w.cell? ⟨D, 800, none⟩ = some (.int .i64 nd) := h.nd
      have k9 : w.cell? ⟨D, 801, none⟩ = some (.int .i64 dp) := h.dp
      clear h
      go_enter Tryz.func168, Tryz.ntmps168
      go_wp2_with fail
      go_loopw [3, 4] (fun t3 t4 wr => ∃ i : Nat, t3 = .int .i64 i ∧ t4 = .int .u64 (numI f i) ∧ i ≤ nd ∧ i ≤ dp.toNat ∧ Hid (Below w.heap.size w wr)) (fun t3 _ _ => nd - (intOf t3).toNat)
      case atStart => exact ⟨0, rfl, rfl, Nat.zero_le _, Nat.zero_le _, Lib.hid (Below.refl _ _)⟩
      case round =>
        obtain ⟨i, rfl, rfl, hi, hi2, hb⟩ := hrel
        have hD : DecAt wr D ⟨f, nd, dp, tr⟩ := (hb.out.block _ (heap_lt H.out)).trans H.out
        have HA := Lib.hid hD
        have k8 : wr.cell? ⟨D, 800, none⟩ = some (.int .i64 nd) := hD.nd
        have k9 : wr.cell? ⟨D, 801, none⟩ = some (.int .i64 dp) := hD.dp
        clear hD
        by_cases hc : i < nd ∧ (i : Int) < dp
        · obtain ⟨hc1, hc2⟩ := hc
          have kd : wr.cell? ⟨D, i, none⟩ = some (.int .u8 (f i)) := HA.out.dig (by omega)
          have hd1 := (HD.out i hc1).1
          have hd2 := (HD.out i hc1).2
          go_wp2_with fail
          exact ⟨⟨i + 1, by simp, rfl, by omega, by omega, hb⟩, by simp [intOf]; omega⟩
        · have hmin : Hid (i = min dp.toNat nd) := Lib.hid (by omega)
          have hgen : Hid (numI f i = numI f (min dp.toNat nd)) := Lib.hid (by rw [hmin.out])
          generalize numI f i = N at hgen
          clear HA
          rcases Int.lt_or_le (i : Int) dp with hc2 | hc2
          · have hc1 : nd ≤ i := by omega
            clear hc
            go_wp2_with fail
            go_loopw [3, 4] (fun t3 t4 wr => ∃ i j : Nat, t3 = .int .i64 i ∧ t4 = .int .u64 (tens (numI f (min dp.toNat nd)) j) ∧ i = min dp.toNat nd + j ∧ i ≤ dp.toNat ∧ Hid (Below w.heap.size w wr)) (fun t3 _ _ => dp.toNat - (intOf t3).toNat)
            case atStart => exact ⟨i, 0, rfl, by rw [hgen.out]; rfl, by rw [hmin.out]; rfl, hi2, hb⟩
            case round =>
              obtain ⟨i, j, rfl, rfl, hij, hi2, hb⟩ := hrel
              have HJ := Lib.hid hij
              clear hij
              have hD : DecAt wr D ⟨f, nd, dp, tr⟩ := (hb.out.block _ (heap_lt H.out)).trans H.out
              have HA := Lib.hid hD
              have k8 : wr.cell? ⟨D, 800, none⟩ = some (.int .i64 nd) := hD.nd
              have k9 : wr.cell? ⟨D, 801, none⟩ = some (.int .i64 dp) := hD.dp
              clear hD
              rcases Int.lt_or_le (i : Int) dp with hc3 | hc3
              · go_wp2_with fail
                exact ⟨⟨i + 1, j + 1, by simp, rfl, by rw [HJ.out]; omega, by omega, hb⟩, by simp [intOf]; omega⟩
              · have hj : j = dp.toNat - min dp.toNat nd := by have := HJ.out; omega
                have HN : Hid (tens (numI f (min dp.toNat nd)) j = tens (numI f (min dp.toNat nd)) (dp.toNat - min dp.toNat nd)) := Lib.hid (by rw [hj])
                clear hj HJ
                generalize tens (numI f (min dp.toNat nd)) j = N2 at HN
                go_wp2_with fail
                refine (HR.out _ _ HA.out (by omega)).mono ?_
                rintro e w2 ⟨rfl, hb2⟩
                have HB2 := Lib.hid (hb.out.trans (hb2.mono hb.out.size))
                clear hb2 HA
                go_wp2_with fail
                go_returns
                exact ⟨by rw [← HN.out]; rfl, HB2.out⟩
          · clear hc
            go_wp2_with fail
            go_loopw [3, 4] (fun t3 t4 wr => ∃ i j : Nat, t3 = .int .i64 i ∧ t4 = .int .u64 (tens (numI f (min dp.toNat nd)) j) ∧ i = min dp.toNat nd + j ∧ i ≤ dp.toNat ∧ Hid (Below w.heap.size w wr)) (fun t3 _ _ => dp.toNat - (intOf t3).toNat)
            case atStart => exact ⟨i, 0, rfl, by rw [hgen.out]; rfl, by rw [hmin.out]; rfl, hi2, hb⟩
            case round =>
              obtain ⟨i, j, rfl, rfl, hij, hi2, hb⟩ := hrel
              have HJ := Lib.hid hij
              clear hij
              have hD : DecAt wr D ⟨f, nd, dp, tr⟩ := (hb.out.block _ (heap_lt H.out)).trans H.out
              have HA := Lib.hid hD
              have k8 : wr.cell? ⟨D, 800, none⟩ = some (.int .i64 nd) := hD.nd
              have k9 : wr.cell? ⟨D, 801, none⟩ = some (.int .i64 dp) := hD.dp
              clear hD
              rcases Int.lt_or_le (i : Int) dp with hc3 | hc3
              · go_wp2_with fail
                exact ⟨⟨i + 1, j + 1, by simp, rfl, by rw [HJ.out]; omega, by omega, hb⟩, by simp [intOf]; omega⟩
              · have hj : j = dp.toNat - min dp.toNat nd := by have := HJ.out; omega
                have HN : Hid (tens (numI f (min dp.toNat nd)) j = tens (numI f (min dp.toNat nd)) (dp.toNat - min dp.toNat nd)) := Lib.hid (by rw [hj])
                clear hj HJ
                generalize tens (numI f (min dp.toNat nd)) j = N2 at HN
                go_wp2_with fail
                refine (HR.out _ _ HA.out (by omega)).mono ?_
                rintro e w2 ⟨rfl, hb2⟩
                have HB2 := Lib.hid (hb.out.trans (hb2.mono hb.out.size))
                clear hb2 HA
                go_wp2_with fail
                go_returns
                exact ⟨by rw [← HN.out]; rfl, HB2.out⟩
    | false =>
      refine ⟨(tens (numI f (min dp.toNat nd)) (dp.toNat - min dp.toNat nd)), fun w D h => ?_⟩
      have H := Lib.hid h
      have k8 : w.cell? ⟨D, 800, none⟩ = some (.int .i64 nd) := h.nd
      have k9 : w.cell? ⟨D, 801, none⟩ = some (.int .i64 dp) := h.dp
      clear h
      go_enter Tryz.func168, Tryz.ntmps168
      go_wp2_with fail
      go_loopw [3, 4] (fun t3 t4 wr => ∃ i : Nat, t3 = .int .i64 i ∧ t4 = .int .u64 (numI f i) ∧ i ≤ nd ∧ i ≤ dp.toNat ∧ Hid (Below w.heap.size w wr)) (fun t3 _ _ => nd - (intOf t3).toNat)
      case atStart => exact ⟨0, rfl, rfl, Nat.zero_le _, Nat.zero_le _, Lib.hid (Below.refl _ _)⟩
      case round =>
        obtain ⟨i, rfl, rfl, hi, hi2, hb⟩ := hrel
        have hD : DecAt wr D ⟨f, nd, dp, tr⟩ := (hb.out.block _ (heap_lt H.out)).trans H.out
        have HA := Lib.hid hD
        have k8 : wr.cell? ⟨D, 800, none⟩ = some (.int .i64 nd) := hD.nd
        have k9 : wr.cell? ⟨D, 801, none⟩ = some (.int .i64 dp) := hD.dp
        clear hD
        by_cases hc : i < nd ∧ (i : Int) < dp
        · obtain ⟨hc1, hc2⟩ := hc
          have kd : wr.cell? ⟨D, i, none⟩ = some (.int .u8 (f i)) := HA.out.dig (by omega)
          have hd1 := (HD.out i hc1).1
          have hd2 := (HD.out i hc1).2
          go_wp2_with fail
          exact ⟨⟨i + 1, by simp, rfl, by omega, by omega, hb⟩, by simp [intOf]; omega⟩
        · have hmin : Hid (i = min dp.toNat nd) := Lib.hid (by omega)
          have hgen : Hid (numI f i = numI f (min dp.toNat nd)) := Lib.hid (by rw [hmin.out])
          generalize numI f i = N at hgen
          clear HA
          rcases Int.lt_or_le (i : Int) dp with hc2 | hc2
          · have hc1 : nd ≤ i := by omega
            clear hc
            go_wp2_with fail
            go_loopw [3, 4] (fun t3 t4 wr => ∃ i j : Nat, t3 = .int .i64 i ∧ t4 = .int .u64 (tens (numI f (min dp.toNat nd)) j) ∧ i = min dp.toNat nd + j ∧ i ≤ dp.toNat ∧ Hid (Below w.heap.size w wr)) (fun t3 _ _ => dp.toNat - (intOf t3).toNat)
            case atStart => exact ⟨i, 0, rfl, by rw [hgen.out]; rfl, by rw [hmin.out]; rfl, hi2, hb⟩
            case round =>
              obtain ⟨i, j, rfl, rfl, hij, hi2, hb⟩ := hrel
              have HJ := Lib.hid hij
              clear hij
              have hD : DecAt wr D ⟨f, nd, dp, tr⟩ := (hb.out.block _ (heap_lt H.out)).trans H.out
              have HA := Lib.hid hD
              have k8 : wr.cell? ⟨D, 800, none⟩ = some (.int .i64 nd) := hD.nd
              have k9 : wr.cell? ⟨D, 801, none⟩ = some (.int .i64 dp) := hD.dp
              clear hD
              rcases Int.lt_or_le (i : Int) dp with hc3 | hc3
              · go_wp2_with fail
                exact ⟨⟨i + 1, j + 1, by simp, rfl, by rw [HJ.out]; omega, by omega, hb⟩, by simp [intOf]; omega⟩
              · have hj : j = dp.toNat - min dp.toNat nd := by have := HJ.out; omega
                have HN : Hid (tens (numI f (min dp.toNat nd)) j = tens (numI f (min dp.toNat nd)) (dp.toNat - min dp.toNat nd)) := Lib.hid (by rw [hj])
                clear hj HJ
                generalize tens (numI f (min dp.toNat nd)) j = N2 at HN
                go_wp2_with fail
                refine (HR.out _ _ HA.out (by omega)).mono ?_
                rintro e w2 ⟨rfl, hb2⟩
                have HB2 := Lib.hid (hb.out.trans (hb2.mono hb.out.size))
                clear hb2 HA
                go_wp2_with fail
                go_returns
                exact ⟨by rw [← HN.out]; rfl, HB2.out⟩
          · clear hc
            go_wp2_with fail
            go_loopw [3, 4] (fun t3 t4 wr => ∃ i j : Nat, t3 = .int .i64 i ∧ t4 = .int .u64 (tens (numI f (min dp.toNat nd)) j) ∧ i = min dp.toNat nd + j ∧ i ≤ dp.toNat ∧ Hid (Below w.heap.size w wr)) (fun t3 _ _ => dp.toNat - (intOf t3).toNat)
            case atStart => exact ⟨i, 0, rfl, by rw [hgen.out]; rfl, by rw [hmin.out]; rfl, hi2, hb⟩
            case round =>
              obtain ⟨i, j, rfl, rfl, hij, hi2, hb⟩ := hrel
              have HJ := Lib.hid hij
              clear hij
              have hD : DecAt wr D ⟨f, nd, dp, tr⟩ := (hb.out.block _ (heap_lt H.out)).trans H.out
              have HA := Lib.hid hD
              have k8 : wr.cell? ⟨D, 800, none⟩ = some (.int .i64 nd) := hD.nd
              have k9 : wr.cell? ⟨D, 801, none⟩ = some (.int .i64 dp) := hD.dp
              clear hD
              rcases Int.lt_or_le (i : Int) dp with hc3 | hc3
              · go_wp2_with fail
                exact ⟨⟨i + 1, j + 1, by simp, rfl, by rw [HJ.out]; omega, by omega, hb⟩, by simp [intOf]; omega⟩
              · have hj : j = dp.toNat - min dp.toNat nd := by have := HJ.out; omega
                have HN : Hid (tens (numI f (min dp.toNat nd)) j = tens (numI f (min dp.toNat nd)) (dp.toNat - min dp.toNat nd)) := Lib.hid (by rw [hj])
                clear hj HJ
                generalize tens (numI f (min dp.toNat nd)) j = N2 at HN
                go_wp2_with fail
                refine (HR.out _ _ HA.out (by omega)).mono ?_
                rintro e w2 ⟨rfl, hb2⟩
                have HB2 := Lib.hid (hb.out.trans (hb2.mono hb.out.size))
                clear hb2 HA
                go_wp2_with fail
                go_returns
                exact ⟨by rw [← HN.out]; rfl, HB2.out⟩
end Go.Proofs.YtdkhedefcmjjgaaGreatDoor
