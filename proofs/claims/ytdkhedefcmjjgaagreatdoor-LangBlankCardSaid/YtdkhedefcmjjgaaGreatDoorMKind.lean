/- behind, kindOf: which lines declare, and where they may stand.
Conditions: none. -/
import Derived.Test.YtdkhedefcmjjgaaGreatDoorMIsName
import Derived.Test.YtdkhedefcmjjgaaGreatDoorMShelf
import Derived.Test.YtdkhedefcmjjgaaGreatDoorMChain
namespace Go.Proofs.YtdkhedefcmjjgaaGreatDoor
open Go.RowKit Sp
set_option linter.unusedSimpArgs false
set_option linter.unusedVariables false
set_option maxHeartbeats 1000000 in
theorem behind_any (kind last : Int) (w : World) : Calls Tryz.prog 38 #[.int .i64 kind, .int .i64 last] w fun e w' => e = .returned (.bool (behind kind last)) ∧ w = w' := by
  by_cases h1 : kind = 1
  · subst h1
    go_enter Tryz.func38, Tryz.ntmps38
    go_wp2
    go_returns
    exact ⟨by simp [behind], rfl⟩
  by_cases h2 : kind = 2
  · subst h2
    go_enter Tryz.func38, Tryz.ntmps38
    go_wp2
    go_returns
    exact ⟨by simp [behind], rfl⟩
  by_cases h6 : kind = 6
  · subst h6
    go_enter Tryz.func38, Tryz.ntmps38
    go_wp2
    go_returns
    exact ⟨by simp [behind], rfl⟩
  have hb : behind kind last = (decide (1 ≤ last) && decide (last ≤ 4)) := by rw [behind, if_neg h1, if_neg h2, if_neg h6]
  have hb' := Lib.hid hb
  have e1 : (kind == 1) = false := beq_eq_false_iff_ne.2 h1
  have e2 : (kind == 2) = false := beq_eq_false_iff_ne.2 h2
  have e6 : (kind == 6) = false := beq_eq_false_iff_ne.2 h6
  clear hb h1 h2 h6
  by_cases h : (1 : Int) ≤ last
  · go_enter Tryz.func38, Tryz.ntmps38
    go_wp2
    go_returns
    exact ⟨by rw [hb'.out, decide_eq_true h]; rfl, rfl⟩
  · have h : decide ((1 : Int) ≤ last) = false := decide_eq_false h
    go_enter Tryz.func38, Tryz.ntmps38
    go_wp2
    go_returns
    exact ⟨by rw [hb'.out, show decide ((1 : Int) ≤ last) = false from decide_eq_false (by omega)]; rfl, rfl⟩
theorem kind_lit : Lib.fields [105, 110, 112, 117, 116, 32, 108, 97, 98, 101, 108, 32, 112, 97, 114, 97, 109, 32, 108, 101, 116, 32, 111, 117, 116, 32, 108, 111, 115, 115] = kindWords := by decide
set_option maxHeartbeats 4000000 in
theorem kindOf_any (s : ByteArray) (w : World) (hsp : Lib.TabIs Tryz.prog w "strings.asciiSpace" .u8 Lib.asciiSpaceTab) : Calls Tryz.prog 37 #[.string s] w fun e w' => e = .returned (.int .i64 (kindOf s.data.toList)) ∧ Below w.heap.size w w' := by
  have h55 := Tryz.strings_Fields ⟨#[105, 110, 112, 117, 116, 32, 108, 97, 98, 101, 108, 32, 112, 97, 114, 97, 109, 32, 108, 101, 116, 32, 111, 117, 116, 32, 108, 111, 115, 115]⟩ w (by decide) (fun j b h => by
    have hall : ∀ b ∈ [105, 110, 112, 117, 116, 32, 108, 97, 98, 101, 108, 32, 112, 97, 114, 97, 109, 32, 108, 101, 116, 32, 111, 117, 116, 32, 108, 111, 115, 115], (b : UInt8).toNat < 128 := by decide
    exact hall b (List.mem_of_getElem? h)) hsp
  rw [show (⟨#[105, 110, 112, 117, 116, 32, 108, 97, 98, 101, 108, 32, 112, 97, 114, 97, 109, 32, 108, 101, 116, 32, 111, 117, 116, 32, 108, 111, 115, 115]⟩ : ByteArray).data.toList = [105, 110, 112, 117, 116, 32, 108, 97, 98, 101, 108, 32, 112, 97, 114, 97, 109, 32, 108, 101, 116, 32, 111, 117, 116, 32, 108, 111, 115, 115] from rfl, kind_lit] at h55
  have H55 := Lib.hid h55
  clear h55
  have gr0 : Below w.heap.size w (w.alloc (.cells #[.string ⟨#[105, 110, 112, 117, 116]⟩, .string ⟨#[108, 97, 98, 101, 108]⟩, .string ⟨#[112, 97, 114, 97, 109]⟩, .string ⟨#[108, 101, 116]⟩, .string ⟨#[111, 117, 116]⟩, .string ⟨#[108, 111, 115, 115]⟩] 9)) := (Below.refl _ _).alloc (Nat.le_refl _) _
  go_enter Tryz.func37, Tryz.ntmps37
  go_wp2_with fail
  refine H55.out.mono ?_
  rintro e w1 ⟨rfl, rfl⟩
  simp only [kindWords, List.map_cons, List.map_nil, List.length_cons, List.length_nil]
  go_wp2_with fail
  go_loop [7] (fun t7 => ∃ i : Nat, i ≤ 6 ∧ t7 = .int .i64 i ∧ Hid (∀ j, j < i → kindWords[j]? ≠ some s.data.toList)) (fun t7 => 6 - (intOf t7).toNat)
  case atStart => exact ⟨0, by omega, rfl, fun j hj => absurd hj (by omega)⟩
  case round =>
    obtain ⟨i, hi, rfl, hne⟩ := hrel
    rcases Nat.lt_or_ge i 6 with hlt | hge
    · rcases (by omega : i = 0 ∨ i = 1 ∨ i = 2 ∨ i = 3 ∨ i = 4 ∨ i = 5) with rfl | rfl | rfl | rfl | rfl | rfl
      · by_cases hq : s.data.toList = [105, 110, 112, 117, 116]
        · obtain rfl : s = ⟨#[105, 110, 112, 117, 116]⟩ := eq_bstr hq
          have hfin : (kindOf [105, 110, 112, 117, 116]) = 1 := by decide
          have hfin' := Lib.hid hfin
          clear hfin hne
          go_wp2_with fail
          go_returns
          exact ⟨by rw [hfin'.out]; rfl, gr0⟩
        · have hq' : (s.toList == [105, 110, 112, 117, 116]) = false := by rw [ByteArray.toList_eq]; exact beq_eq_false_iff_ne.2 hq
          have hne' : Hid (∀ j, j < 1 → kindWords[j]? ≠ some s.data.toList) := Lib.hid (fun j hj => by
            rcases Nat.lt_succ_iff_lt_or_eq.1 hj with h | rfl
            · exact hne.out j h
            · intro e; exact hq (by simpa [kindWords] using e.symm))
          clear hne hq
          go_wp2_with fail
          go_round
          case rel => exact ⟨1, by omega, rfl, hne'⟩
          case measure => simp [intOf]
      · by_cases hq : s.data.toList = [108, 97, 98, 101, 108]
        · obtain rfl : s = ⟨#[108, 97, 98, 101, 108]⟩ := eq_bstr hq
          have hfin : (kindOf [108, 97, 98, 101, 108]) = 2 := by decide
          have hfin' := Lib.hid hfin
          clear hfin hne
          go_wp2_with fail
          go_returns
          exact ⟨by rw [hfin'.out]; rfl, gr0⟩
        · have hq' : (s.toList == [108, 97, 98, 101, 108]) = false := by rw [ByteArray.toList_eq]; exact beq_eq_false_iff_ne.2 hq
          have hne' : Hid (∀ j, j < 2 → kindWords[j]? ≠ some s.data.toList) := Lib.hid (fun j hj => by
            rcases Nat.lt_succ_iff_lt_or_eq.1 hj with h | rfl
            · exact hne.out j h
            · intro e; exact hq (by simpa [kindWords] using e.symm))
          clear hne hq
          go_wp2_with fail
          go_round
          case rel => exact ⟨2, by omega, rfl, hne'⟩
          case measure => simp [intOf]
      · by_cases hq : s.data.toList = [112, 97, 114, 97, 109]
        · obtain rfl : s = ⟨#[112, 97, 114, 97, 109]⟩ := eq_bstr hq
          have hfin : (kindOf [112, 97, 114, 97, 109]) = 3 := by decide
          have hfin' := Lib.hid hfin
          clear hfin hne
          go_wp2_with fail
          go_returns
          exact ⟨by rw [hfin'.out]; rfl, gr0⟩
        · have hq' : (s.toList == [112, 97, 114, 97, 109]) = false := by rw [ByteArray.toList_eq]; exact beq_eq_false_iff_ne.2 hq
          have hne' : Hid (∀ j, j < 3 → kindWords[j]? ≠ some s.data.toList) := Lib.hid (fun j hj => by
            rcases Nat.lt_succ_iff_lt_or_eq.1 hj with h | rfl
            · exact hne.out j h
            · intro e; exact hq (by simpa [kindWords] using e.symm))
          clear hne hq
          go_wp2_with fail
          go_round
          case rel => exact ⟨3, by omega, rfl, hne'⟩
          case measure => simp [intOf]
      · by_cases hq : s.data.toList = [108, 101, 116]
        · obtain rfl : s = ⟨#[108, 101, 116]⟩ := eq_bstr hq
          have hfin : (kindOf [108, 101, 116]) = 4 := by decide
          have hfin' := Lib.hid hfin
          clear hfin hne
          go_wp2_with fail
          go_returns
          exact ⟨by rw [hfin'.out]; rfl, gr0⟩
        · have hq' : (s.toList == [108, 101, 116]) = false := by rw [ByteArray.toList_eq]; exact beq_eq_false_iff_ne.2 hq
          have hne' : Hid (∀ j, j < 4 → kindWords[j]? ≠ some s.data.toList) := Lib.hid (fun j hj => by
            rcases Nat.lt_succ_iff_lt_or_eq.1 hj with h | rfl
            · exact hne.out j h
            · intro e; exact hq (by simpa [kindWords] using e.symm))
          clear hne hq
          go_wp2_with fail
          go_round
          case rel => exact ⟨4, by omega, rfl, hne'⟩
          case measure => simp [intOf]
      · by_cases hq : s.data.toList = [111, 117, 116]
        · obtain rfl : s = ⟨#[111, 117, 116]⟩ := eq_bstr hq
          have hfin : (kindOf [111, 117, 116]) = 5 := by decide
          have hfin' := Lib.hid hfin
          clear hfin hne
          go_wp2_with fail
          go_returns
          exact ⟨by rw [hfin'.out]; rfl, gr0⟩
        · have hq' : (s.toList == [111, 117, 116]) = false := by rw [ByteArray.toList_eq]; exact beq_eq_false_iff_ne.2 hq
          have hne' : Hid (∀ j, j < 5 → kindWords[j]? ≠ some s.data.toList) := Lib.hid (fun j hj => by
            rcases Nat.lt_succ_iff_lt_or_eq.1 hj with h | rfl
            · exact hne.out j h
            · intro e; exact hq (by simpa [kindWords] using e.symm))
          clear hne hq
          go_wp2_with fail
          go_round
          case rel => exact ⟨5, by omega, rfl, hne'⟩
          case measure => simp [intOf]
      · by_cases hq : s.data.toList = [108, 111, 115, 115]
        · obtain rfl : s = ⟨#[108, 111, 115, 115]⟩ := eq_bstr hq
          have hfin : (kindOf [108, 111, 115, 115]) = 6 := by decide
          have hfin' := Lib.hid hfin
          clear hfin hne
          go_wp2_with fail
          go_returns
          exact ⟨by rw [hfin'.out]; rfl, gr0⟩
        · have hq' : (s.toList == [108, 111, 115, 115]) = false := by rw [ByteArray.toList_eq]; exact beq_eq_false_iff_ne.2 hq
          have hne' : Hid (∀ j, j < 6 → kindWords[j]? ≠ some s.data.toList) := Lib.hid (fun j hj => by
            rcases Nat.lt_succ_iff_lt_or_eq.1 hj with h | rfl
            · exact hne.out j h
            · intro e; exact hq (by simpa [kindWords] using e.symm))
          clear hne hq
          go_wp2_with fail
          go_round
          case rel => exact ⟨6, by omega, rfl, hne'⟩
          case measure => simp [intOf]
    · obtain rfl : i = 6 := by omega
      have hfin : kindOf s.data.toList = 0 := by
        have hnone : kindWords.findIdx? (fun x => x == s.data.toList) = none := List.findIdx?_eq_none_iff.2 (fun x hx => by
          obtain ⟨j, hj⟩ := List.mem_iff_getElem?.1 hx
          have hj6 : j < 6 := by have := (List.getElem?_eq_some_iff.1 hj).1; simpa [kindWords] using this
          refine beq_eq_false_iff_ne.2 fun e => hne.out j hj6 ?_
          rw [hj, e])
        unfold kindOf
        rw [hnone]
      have hfin' := Lib.hid hfin
      clear hfin hne
      go_wp2_with fail
      go_returns
      exact ⟨by rw [hfin'.out]; rfl, gr0⟩
end Go.Proofs.YtdkhedefcmjjgaaGreatDoor
/- A declaration in memory; frames that let a reader's cells and one block go.
Conditions: none. -/
namespace Go.Proofs.YtdkhedefcmjjgaaGreatDoor
open Go.RowKit Sp
set_option linter.unusedSimpArgs false
set_option linter.unusedVariables false
/-- Twelve cells. -/
def dcs (kind line : Int) (name : ByteArray) (rows cols init a b k bits : Int) (en : ByteArray) (sl : Value) : Array Value :=
  #[.int .i64 kind, .int .i64 line, .string name, .int .i64 rows, .int .i64 cols, .int .i64 init, .int .i64 a, .int .i64 b, .int .i64 k, .int .i64 bits, .string en, sl]
/-- All but blocks R and D is as it was. -/
structure Gr2 (w w' : World) (R D : Nat) : Prop where
  os : w'.os = w.os
  tape : w'.tape = w.tape
  output : w'.output = w.output
  size : w.heap.size ≤ w'.heap.size
  block : ∀ k, k < w.heap.size → k ≠ R → k ≠ D → w'.heap[k]? = w.heap[k]?
theorem Gr2.refl (w : World) (R D : Nat) : Gr2 w w R D := ⟨rfl, rfl, rfl, Nat.le_refl _, fun _ _ _ _ => rfl⟩
theorem Gr2.trans {a b c : World} {R D : Nat} (h : Gr2 a b R D) (k : Gr2 b c R D) : Gr2 a c R D :=
  ⟨k.os.trans h.os, k.tape.trans h.tape, k.output.trans h.output, Nat.le_trans h.size k.size, fun i hi h1 h2 => (k.block i (Nat.lt_of_lt_of_le hi h.size) h1 h2).trans (h.block i hi h1 h2)⟩
theorem Gr2.grown {a b c : World} {R D : Nat} (h : Gr2 a b R D) (k : b.grownBy c (some R)) : Gr2 a c R D :=
  h.trans ⟨k.os, k.tape, k.output, k.size, fun i hi h1 _ => k.block i hi (by intro e; injection e with e; exact h1 e)⟩
theorem Gr2.set {a b : World} {R D : Nat} (h : Gr2 a b R D) (i : Nat) (u : Value) : Gr2 a (b.setCell ⟨D, i, none⟩ u) R D :=
  ⟨h.os, h.tape, h.output, by simp only [World.size_setCell]; exact h.size, fun k hk h1 h2 => (Below.heap_setCell _ _ _ _ h2).trans (h.block k hk h1 h2)⟩
theorem Gr2.over {a b c : World} {R D : Nat} (h : a.grownBy b (some R)) (k : Gr2 b c R D) (hD : a.heap.size ≤ D) : a.grownBy c (some R) :=
  ⟨k.os.trans h.os, k.tape.trans h.tape, k.output.trans h.output, Nat.le_trans h.size k.size, fun i hi h1 => (k.block i (Nat.lt_of_lt_of_le hi h.size) (by intro e; exact h1 (by rw [e])) (by omega)).trans (h.block i hi h1)⟩
end Go.Proofs.YtdkhedefcmjjgaaGreatDoor
/- how, walked: how a parameter begins. (Printed by gen_how.py.)
Conditions: the numbers' contracts at the words that are read ('NumsAt'). -/
namespace Go.Proofs.YtdkhedefcmjjgaaGreatDoor
open Go.RowKit Sp
set_option linter.unusedSimpArgs false
set_option linter.unusedVariables false
/-- How 'how' ends. -/
def HowPost (w0 : World) (R T : Nat) (wd : Int) (D : Nat) (kind line : Int) (name : ByteArray) (rows cols k bits : Int) (en : ByteArray) (sl : Value) (w : World) (o : Option ((Int × Int × Int) × RS)) (e : Ending) (w' : World) : Prop :=
  Gr2 w w' R D ∧ ((o = none ∧ e = .panicked (giv 70)) ∨ ∃ i a b r', o = some ((i, a, b), r') ∧ e = .returned (.tuple #[]) ∧ w'.heap[D]? = some (.cells (dcs kind line name rows cols i a b k bits en sl) 38 (0, 0)) ∧ Rd w0 w' R T wd r')
theorem gr_row {a b : World} {R D : Nat} (h : a.grownBy b (some R)) : Gr2 a b R D := (Gr2.refl a R D).grown h
theorem signedR_suffix {m : Nums} {n : Int} {r r' : RS} (h : Sp.signedR m r = some (n, r')) : r'.ts <:+ r.ts := by
  have hnum : ∀ {n : Int} {r r' : RS}, Sp.numberR m 64 r = some (n, r') → r'.ts <:+ r.ts := fun {n r r'} h => by
    unfold Sp.numberR at h
    split at h
    · cases h
    · rename_i s1 r1 h1
      split at h
      · simp only [Option.some.injEq, Prod.mk.injEq] at h
        obtain ⟨_, rfl⟩ := h
        obtain ⟨t, e, _⟩ := next_mem h1
        rw [e]; exact List.suffix_cons _ _
      · cases h
  unfold Sp.signedR at h
  split at h
  · exact hnum h
  · rename_i s1 r1 h1
    split at h
    · cases h
    · rename_i b r2 h2
      simp only [Option.some.injEq, Prod.mk.injEq] at h
      obtain ⟨_, rfl⟩ := h
      obtain ⟨t, e, _⟩ := sign_mem h1
      rw [e]; exact (hnum h2).trans (List.suffix_cons _ _)
section
variable (m : Nums) (w0 : World) (R T : Nat) (wd : Int) (D : Nat) (kind line : Int) (name : ByteArray) (rows cols k bits : Int) (en : ByteArray) (sl : Value)
set_option maxHeartbeats 2000000 in
theorem how_no (w : World) (r : RS) (hr : Rd w0 w R T wd r) (h1 : Sp.next 110 r = none) :
    Calls Tryz.prog 40 #[.pointer (some ⟨R, 0, none⟩), .pointer (some ⟨D, 0, none⟩)] w (HowPost w0 R T wd D kind line name rows cols k bits en sl w (Sp.how m r)) := by
  have H16 := Lib.hid (next_no (k := 110) (kk := 110) hr rfl h1)
  have hfin : Hid (Sp.how m r = none) := Lib.hid (by unfold Sp.how; rw [h1])
  clear h1
  go_enter Tryz.func40, Tryz.ntmps40
  go_wp2_with fail
  refine H16.out.mono ?_
  rintro e w1 ⟨rfl, rfl⟩
  go_wp2_with fail
  exact ⟨rfl, Gr2.refl _ _ _, .inl ⟨hfin.out, rfl⟩⟩
set_option maxHeartbeats 2000000 in
theorem how_other (w : World) (r : RS) (hr : Rd w0 w R T wd r) (s : Bs) (r1 : RS) (h1 : Sp.next 110 r = some (s, r1))
    (n0 : s ≠ [122, 101, 114, 111]) (n1 : s ≠ [99, 111, 110, 115, 116]) (n2 : s ≠ [117, 110, 105, 102, 111, 114, 109]) (n3 : s ≠ [103, 108, 111, 114, 111, 116]) (n4 : s ≠ [104, 101]) (n5 : s ≠ [110, 111, 114, 109, 97, 108]) :
    Calls Tryz.prog 40 #[.pointer (some ⟨R, 0, none⟩), .pointer (some ⟨D, 0, none⟩)] w (HowPost w0 R T wd D kind line name rows cols k bits en sl w (Sp.how m r)) := by
  have H16 := Lib.hid (next_ok (k := 110) (kk := 110) hr rfl h1)
  have hfin : Hid (Sp.how m r = none) := Lib.hid (by unfold Sp.how; rw [h1]; dsimp only; rw [if_neg n0, if_neg n1, if_neg n2, if_neg n3, if_neg n4, if_neg n5])
  have hb : (bstr s).data.toList = s := by simp [bstr]
  have q0 : ((bstr s).toList == [122, 101, 114, 111]) = false := by rw [ByteArray.toList_eq, hb]; exact beq_eq_false_iff_ne.2 n0
  have q1 : ((bstr s).toList == [99, 111, 110, 115, 116]) = false := by rw [ByteArray.toList_eq, hb]; exact beq_eq_false_iff_ne.2 n1
  have q2 : ((bstr s).toList == [117, 110, 105, 102, 111, 114, 109]) = false := by rw [ByteArray.toList_eq, hb]; exact beq_eq_false_iff_ne.2 n2
  have q3 : ((bstr s).toList == [103, 108, 111, 114, 111, 116]) = false := by rw [ByteArray.toList_eq, hb]; exact beq_eq_false_iff_ne.2 n3
  have q4 : ((bstr s).toList == [104, 101]) = false := by rw [ByteArray.toList_eq, hb]; exact beq_eq_false_iff_ne.2 n4
  have q5 : ((bstr s).toList == [110, 111, 114, 109, 97, 108]) = false := by rw [ByteArray.toList_eq, hb]; exact beq_eq_false_iff_ne.2 n5
  revert H16
  generalize bstr s = sb at *
  intro H16
  clear h1 hb n0 n1 n2 n3 n4 n5
  go_enter Tryz.func40, Tryz.ntmps40
  go_wp2_with fail
  refine H16.out.mono ?_
  rintro e w1 ⟨rfl, hg1, hr1⟩
  go_wp2_with fail
  refine (syntax_any _ _).mono ?_
  rintro e w2 ⟨rfl, rfl⟩
  go_wp2_with fail
  exact ⟨rfl, gr_row hg1, .inl ⟨hfin.out, rfl⟩⟩
set_option maxHeartbeats 2000000 in
theorem how_zero (w : World) (r : RS) (hr : Rd w0 w R T wd r) (hRD : R ≠ D) (hTD : T ≠ D) (hBD : w0.heap.size ≤ D) (hD : w.heap[D]? = some (.cells (dcs kind line name rows cols 0 0 0 k bits en sl) 38 (0, 0))) (r1 : RS) (h1 : Sp.next 110 r = some ([122, 101, 114, 111], r1)) (hN : NumsAt m r1.ts) :
    Calls Tryz.prog 40 #[.pointer (some ⟨R, 0, none⟩), .pointer (some ⟨D, 0, none⟩)] w (HowPost w0 R T wd D kind line name rows cols k bits en sl w (Sp.how m r)) := by
  have hDl := heap_lt hD
  have H16 := Lib.hid (next_ok (k := 110) (kk := 110) hr rfl h1)
  have hb : bstr [122, 101, 114, 111] = ⟨#[122, 101, 114, 111]⟩ := rfl
  rw [hb] at H16
  have hfin : Hid (Sp.how m r = some ((0, 0, 0), r1)) := Lib.hid (by unfold Sp.how; rw [h1]; rfl)
  clear h1
  go_enter Tryz.func40, Tryz.ntmps40
  go_wp2_with fail
  refine H16.out.mono ?_
  rintro e w1 ⟨rfl, hg1, hr1⟩
  have m1 := Lib.hid ((hg1.block D hDl (by simpa using hRD.symm)).trans hD)
  have c5 : w1.cell? ⟨D, 5, none⟩ = some (.int .i64 0) := cell_heap m1.out 5
  have df : ∀ i, w1.frozen? ⟨D, i, none⟩ = false := fun i => free_heap m1.out i
  go_wp2_with fail
  go_returns
  exact ⟨(gr_row hg1).set _ _, .inr ⟨_, _, _, r1, hfin.out, rfl, set_heap m1.out 5 _, hr1.other hRD.symm hTD.symm hBD _ _⟩⟩
set_option maxHeartbeats 2000000 in
theorem how_const (w : World) (r : RS) (hr : Rd w0 w R T wd r) (hRD : R ≠ D) (hTD : T ≠ D) (hBD : w0.heap.size ≤ D) (hD : w.heap[D]? = some (.cells (dcs kind line name rows cols 0 0 0 k bits en sl) 38 (0, 0))) (r1 : RS) (h1 : Sp.next 110 r = some ([99, 111, 110, 115, 116], r1)) (hN : NumsAt m r1.ts) :
    Calls Tryz.prog 40 #[.pointer (some ⟨R, 0, none⟩), .pointer (some ⟨D, 0, none⟩)] w (HowPost w0 R T wd D kind line name rows cols k bits en sl w (Sp.how m r)) := by
  have hDl := heap_lt hD
  have H16 := Lib.hid (next_ok (k := 110) (kk := 110) hr rfl h1)
  have hb : bstr [99, 111, 110, 115, 116] = ⟨#[99, 111, 110, 115, 116]⟩ := rfl
  rw [hb] at H16
  cases h2 : Sp.signedR m r1 with
  | none =>
    have H56 : Hid (∀ W, Rd w0 W R T wd r1 → Calls Tryz.prog 56 #[.pointer (some ⟨R, 0, none⟩)] W fun e w' => e = .panicked (giv 70) ∧ W.grownBy w' (some R)) := Lib.hid (fun W hW => signedR_no hW hN h2)
    have hfin : Hid (Sp.how m r = none) := Lib.hid (by unfold Sp.how; rw [h1]; show (match Sp.signedR m r1 with | none => none | some (a, r2) => _) = _; rw [h2])
    clear h1 h2
    go_enter Tryz.func40, Tryz.ntmps40
    go_wp2_with fail
    refine H16.out.mono ?_
    rintro e w1 ⟨rfl, hg1, hr1⟩
    go_wp2_with fail
    refine (H56.out _ hr1).mono ?_
    rintro e w2 ⟨rfl, hg2⟩
    go_wp2_with fail
    exact ⟨rfl, gr_row (gr_trans hg1 hg2), .inl ⟨hfin.out, rfl⟩⟩
  | some p =>
    obtain ⟨a, r2⟩ := p
    have H56 : Hid (∀ W, Rd w0 W R T wd r1 → Calls Tryz.prog 56 #[.pointer (some ⟨R, 0, none⟩)] W fun e w' => e = .returned (.int .i64 a) ∧ W.grownBy w' (some R) ∧ Rd w0 w' R T wd r2) := Lib.hid (fun W hW => signedR_ok hW hN h2)
    have hfin : Hid (Sp.how m r = some ((1, a, 0), r2)) := Lib.hid (by unfold Sp.how; rw [h1]; show (match Sp.signedR m r1 with | none => none | some (a, r2) => _) = _; rw [h2])
    clear h1 h2
    go_enter Tryz.func40, Tryz.ntmps40
    go_wp2_with fail
    refine H16.out.mono ?_
    rintro e w1 ⟨rfl, hg1, hr1⟩
    go_wp2_with fail
    refine (H56.out _ hr1).mono ?_
    rintro e w2 ⟨rfl, hg2, hr2⟩
    have hg := gr_trans hg1 hg2
    have m1 := Lib.hid ((hg.block D hDl (by simpa using hRD.symm)).trans hD)
    have c5 : w2.cell? ⟨D, 5, none⟩ = some (.int .i64 0) := cell_heap m1.out 5
    have c6 : w2.cell? ⟨D, 6, none⟩ = some (.int .i64 0) := cell_heap m1.out 6
    have df : ∀ i, w2.frozen? ⟨D, i, none⟩ = false := fun i => free_heap m1.out i
    go_wp2_with fail
    go_returns
    exact ⟨((gr_row hg).set _ _).set _ _, .inr ⟨_, _, _, r2, hfin.out, rfl, set_heap (set_heap m1.out 5 _) 6 _, (hr2.other hRD.symm hTD.symm hBD _ _).other hRD.symm hTD.symm hBD _ _⟩⟩
set_option maxHeartbeats 2000000 in
theorem how_uniform (w : World) (r : RS) (hr : Rd w0 w R T wd r) (hRD : R ≠ D) (hTD : T ≠ D) (hBD : w0.heap.size ≤ D) (hD : w.heap[D]? = some (.cells (dcs kind line name rows cols 0 0 0 k bits en sl) 38 (0, 0))) (r1 : RS) (h1 : Sp.next 110 r = some ([117, 110, 105, 102, 111, 114, 109], r1)) (hN : NumsAt m r1.ts) :
    Calls Tryz.prog 40 #[.pointer (some ⟨R, 0, none⟩), .pointer (some ⟨D, 0, none⟩)] w (HowPost w0 R T wd D kind line name rows cols k bits en sl w (Sp.how m r)) := by
  have hDl := heap_lt hD
  have H16 := Lib.hid (next_ok (k := 110) (kk := 110) hr rfl h1)
  have hb : bstr [117, 110, 105, 102, 111, 114, 109] = ⟨#[117, 110, 105, 102, 111, 114, 109]⟩ := rfl
  rw [hb] at H16
  cases h2 : Sp.signedR m r1 with
  | none =>
    have H56 : Hid (∀ W, Rd w0 W R T wd r1 → Calls Tryz.prog 56 #[.pointer (some ⟨R, 0, none⟩)] W fun e w' => e = .panicked (giv 70) ∧ W.grownBy w' (some R)) := Lib.hid (fun W hW => signedR_no hW hN h2)
    have hfin : Hid (Sp.how m r = none) := Lib.hid (by unfold Sp.how; rw [h1]; show (match Sp.signedR m r1 with | none => none | some (a, r2) => _) = _; rw [h2])
    clear h1 h2
    go_enter Tryz.func40, Tryz.ntmps40
    go_wp2_with fail
    refine H16.out.mono ?_
    rintro e w1 ⟨rfl, hg1, hr1⟩
    go_wp2_with fail
    refine (H56.out _ hr1).mono ?_
    rintro e w2 ⟨rfl, hg2⟩
    go_wp2_with fail
    exact ⟨rfl, gr_row (gr_trans hg1 hg2), .inl ⟨hfin.out, rfl⟩⟩
  | some p =>
    obtain ⟨a, r2⟩ := p
    have H56 : Hid (∀ W, Rd w0 W R T wd r1 → Calls Tryz.prog 56 #[.pointer (some ⟨R, 0, none⟩)] W fun e w' => e = .returned (.int .i64 a) ∧ W.grownBy w' (some R) ∧ Rd w0 w' R T wd r2) := Lib.hid (fun W hW => signedR_ok hW hN h2)
    have hN2 : NumsAt m r2.ts := hN.suffix (signedR_suffix h2)
    cases h3 : Sp.signedR m r2 with
    | none =>
      have H56' : Hid (∀ W, Rd w0 W R T wd r2 → Calls Tryz.prog 56 #[.pointer (some ⟨R, 0, none⟩)] W fun e w' => e = .panicked (giv 70) ∧ W.grownBy w' (some R)) := Lib.hid (fun W hW => signedR_no hW hN2 h3)
      have hfin : Hid (Sp.how m r = none) := Lib.hid (by unfold Sp.how; rw [h1]; show (match Sp.signedR m r1 with | none => none | some (a, r2) => _) = _; rw [h2]; dsimp only; rw [h3])
      clear h1 h2 h3
      go_enter Tryz.func40, Tryz.ntmps40
      go_wp2_with fail
      refine H16.out.mono ?_
      rintro e w1 ⟨rfl, hg1, hr1⟩
      go_wp2_with fail
      refine (H56.out _ hr1).mono ?_
      rintro e w2 ⟨rfl, hg2, hr2⟩
      have hg := gr_trans hg1 hg2
      have m1 := Lib.hid ((hg.block D hDl (by simpa using hRD.symm)).trans hD)
      have c5 : w2.cell? ⟨D, 5, none⟩ = some (.int .i64 0) := cell_heap m1.out 5
      have c6 : w2.cell? ⟨D, 6, none⟩ = some (.int .i64 0) := cell_heap m1.out 6
      have df : ∀ i, w2.frozen? ⟨D, i, none⟩ = false := fun i => free_heap m1.out i
      have hr2' := (hr2.other hRD.symm hTD.symm hBD 5 (.int .i64 2)).other hRD.symm hTD.symm hBD 6 (.int .i64 a)
      go_wp2_with fail
      refine (H56'.out _ hr2').mono ?_
      rintro e w3 ⟨rfl, hg3⟩
      go_wp2_with fail
      exact ⟨rfl, (((gr_row hg).set _ _).set _ _).grown hg3, .inl ⟨hfin.out, rfl⟩⟩
    | some p =>
      obtain ⟨b, r3⟩ := p
      have H56' : Hid (∀ W, Rd w0 W R T wd r2 → Calls Tryz.prog 56 #[.pointer (some ⟨R, 0, none⟩)] W fun e w' => e = .returned (.int .i64 b) ∧ W.grownBy w' (some R) ∧ Rd w0 w' R T wd r3) := Lib.hid (fun W hW => signedR_ok hW hN2 h3)
      have hfin : Hid (Sp.how m r = some ((2, a, b), r3)) := Lib.hid (by unfold Sp.how; rw [h1]; show (match Sp.signedR m r1 with | none => none | some (a, r2) => _) = _; rw [h2]; dsimp only; rw [h3])
      clear h1 h2 h3
      go_enter Tryz.func40, Tryz.ntmps40
      go_wp2_with fail
      refine H16.out.mono ?_
      rintro e w1 ⟨rfl, hg1, hr1⟩
      go_wp2_with fail
      refine (H56.out _ hr1).mono ?_
      rintro e w2 ⟨rfl, hg2, hr2⟩
      have hg := gr_trans hg1 hg2
      have m1 := Lib.hid ((hg.block D hDl (by simpa using hRD.symm)).trans hD)
      have c5 : w2.cell? ⟨D, 5, none⟩ = some (.int .i64 0) := cell_heap m1.out 5
      have c6 : w2.cell? ⟨D, 6, none⟩ = some (.int .i64 0) := cell_heap m1.out 6
      have df : ∀ i, w2.frozen? ⟨D, i, none⟩ = false := fun i => free_heap m1.out i
      have hr2' := (hr2.other hRD.symm hTD.symm hBD 5 (.int .i64 2)).other hRD.symm hTD.symm hBD 6 (.int .i64 a)
      have hDl2 := heap_lt m1.out
      go_wp2_with fail
      refine (H56'.out _ hr2').mono ?_
      rintro e w3 ⟨rfl, hg3, hr3⟩
      have m3 := Lib.hid ((hg3.block D (by simpa using hDl2) (by simpa using hRD.symm)).trans (set_heap (set_heap m1.out 5 (.int .i64 2)) 6 (.int .i64 a)))
      have c7 : w3.cell? ⟨D, 7, none⟩ = some (.int .i64 0) := cell_heap m3.out 7
      have df3 : ∀ i, w3.frozen? ⟨D, i, none⟩ = false := fun i => free_heap m3.out i
      go_wp2_with fail
      go_returns
      exact ⟨((((gr_row hg).set _ _).set _ _).grown hg3).set _ _, .inr ⟨_, _, _, r3, hfin.out, rfl, set_heap m3.out 7 _, hr3.other hRD.symm hTD.symm hBD _ _⟩⟩
set_option maxHeartbeats 2000000 in
theorem how_glorot (w : World) (r : RS) (hr : Rd w0 w R T wd r) (hRD : R ≠ D) (hTD : T ≠ D) (hBD : w0.heap.size ≤ D) (hD : w.heap[D]? = some (.cells (dcs kind line name rows cols 0 0 0 k bits en sl) 38 (0, 0))) (r1 : RS) (h1 : Sp.next 110 r = some ([103, 108, 111, 114, 111, 116], r1)) (hN : NumsAt m r1.ts) :
    Calls Tryz.prog 40 #[.pointer (some ⟨R, 0, none⟩), .pointer (some ⟨D, 0, none⟩)] w (HowPost w0 R T wd D kind line name rows cols k bits en sl w (Sp.how m r)) := by
  have hDl := heap_lt hD
  have H16 := Lib.hid (next_ok (k := 110) (kk := 110) hr rfl h1)
  have hb : bstr [103, 108, 111, 114, 111, 116] = ⟨#[103, 108, 111, 114, 111, 116]⟩ := rfl
  rw [hb] at H16
  have hfin : Hid (Sp.how m r = some ((3, 0, 0), r1)) := Lib.hid (by unfold Sp.how; rw [h1]; rfl)
  clear h1
  go_enter Tryz.func40, Tryz.ntmps40
  go_wp2_with fail
  refine H16.out.mono ?_
  rintro e w1 ⟨rfl, hg1, hr1⟩
  have m1 := Lib.hid ((hg1.block D hDl (by simpa using hRD.symm)).trans hD)
  have c5 : w1.cell? ⟨D, 5, none⟩ = some (.int .i64 0) := cell_heap m1.out 5
  have df : ∀ i, w1.frozen? ⟨D, i, none⟩ = false := fun i => free_heap m1.out i
  go_wp2_with fail
  go_returns
  exact ⟨(gr_row hg1).set _ _, .inr ⟨_, _, _, r1, hfin.out, rfl, set_heap m1.out 5 _, hr1.other hRD.symm hTD.symm hBD _ _⟩⟩
set_option maxHeartbeats 2000000 in
theorem how_he (w : World) (r : RS) (hr : Rd w0 w R T wd r) (hRD : R ≠ D) (hTD : T ≠ D) (hBD : w0.heap.size ≤ D) (hD : w.heap[D]? = some (.cells (dcs kind line name rows cols 0 0 0 k bits en sl) 38 (0, 0))) (r1 : RS) (h1 : Sp.next 110 r = some ([104, 101], r1)) (hN : NumsAt m r1.ts) :
    Calls Tryz.prog 40 #[.pointer (some ⟨R, 0, none⟩), .pointer (some ⟨D, 0, none⟩)] w (HowPost w0 R T wd D kind line name rows cols k bits en sl w (Sp.how m r)) := by
  have hDl := heap_lt hD
  have H16 := Lib.hid (next_ok (k := 110) (kk := 110) hr rfl h1)
  have hb : bstr [104, 101] = ⟨#[104, 101]⟩ := rfl
  rw [hb] at H16
  have hfin : Hid (Sp.how m r = some ((4, 0, 0), r1)) := Lib.hid (by unfold Sp.how; rw [h1]; rfl)
  clear h1
  go_enter Tryz.func40, Tryz.ntmps40
  go_wp2_with fail
  refine H16.out.mono ?_
  rintro e w1 ⟨rfl, hg1, hr1⟩
  have m1 := Lib.hid ((hg1.block D hDl (by simpa using hRD.symm)).trans hD)
  have c5 : w1.cell? ⟨D, 5, none⟩ = some (.int .i64 0) := cell_heap m1.out 5
  have df : ∀ i, w1.frozen? ⟨D, i, none⟩ = false := fun i => free_heap m1.out i
  go_wp2_with fail
  go_returns
  exact ⟨(gr_row hg1).set _ _, .inr ⟨_, _, _, r1, hfin.out, rfl, set_heap m1.out 5 _, hr1.other hRD.symm hTD.symm hBD _ _⟩⟩
set_option maxHeartbeats 2000000 in
theorem how_normal (w : World) (r : RS) (hr : Rd w0 w R T wd r) (hRD : R ≠ D) (hTD : T ≠ D) (hBD : w0.heap.size ≤ D) (hD : w.heap[D]? = some (.cells (dcs kind line name rows cols 0 0 0 k bits en sl) 38 (0, 0))) (r1 : RS) (h1 : Sp.next 110 r = some ([110, 111, 114, 109, 97, 108], r1)) (hN : NumsAt m r1.ts) :
    Calls Tryz.prog 40 #[.pointer (some ⟨R, 0, none⟩), .pointer (some ⟨D, 0, none⟩)] w (HowPost w0 R T wd D kind line name rows cols k bits en sl w (Sp.how m r)) := by
  have hDl := heap_lt hD
  have H16 := Lib.hid (next_ok (k := 110) (kk := 110) hr rfl h1)
  have hb : bstr [110, 111, 114, 109, 97, 108] = ⟨#[110, 111, 114, 109, 97, 108]⟩ := rfl
  rw [hb] at H16
  cases h2 : Sp.signedR m r1 with
  | none =>
    have H56 : Hid (∀ W, Rd w0 W R T wd r1 → Calls Tryz.prog 56 #[.pointer (some ⟨R, 0, none⟩)] W fun e w' => e = .panicked (giv 70) ∧ W.grownBy w' (some R)) := Lib.hid (fun W hW => signedR_no hW hN h2)
    have hfin : Hid (Sp.how m r = none) := Lib.hid (by unfold Sp.how; rw [h1]; show (match Sp.signedR m r1 with | none => none | some (a, r2) => _) = _; rw [h2])
    clear h1 h2
    go_enter Tryz.func40, Tryz.ntmps40
    go_wp2_with fail
    refine H16.out.mono ?_
    rintro e w1 ⟨rfl, hg1, hr1⟩
    go_wp2_with fail
    refine (H56.out _ hr1).mono ?_
    rintro e w2 ⟨rfl, hg2⟩
    go_wp2_with fail
    exact ⟨rfl, gr_row (gr_trans hg1 hg2), .inl ⟨hfin.out, rfl⟩⟩
  | some p =>
    obtain ⟨a, r2⟩ := p
    have H56 : Hid (∀ W, Rd w0 W R T wd r1 → Calls Tryz.prog 56 #[.pointer (some ⟨R, 0, none⟩)] W fun e w' => e = .returned (.int .i64 a) ∧ W.grownBy w' (some R) ∧ Rd w0 w' R T wd r2) := Lib.hid (fun W hW => signedR_ok hW hN h2)
    have hfin : Hid (Sp.how m r = some ((5, a, 0), r2)) := Lib.hid (by unfold Sp.how; rw [h1]; show (match Sp.signedR m r1 with | none => none | some (a, r2) => _) = _; rw [h2])
    clear h1 h2
    go_enter Tryz.func40, Tryz.ntmps40
    go_wp2_with fail
    refine H16.out.mono ?_
    rintro e w1 ⟨rfl, hg1, hr1⟩
    go_wp2_with fail
    refine (H56.out _ hr1).mono ?_
    rintro e w2 ⟨rfl, hg2, hr2⟩
    have hg := gr_trans hg1 hg2
    have m1 := Lib.hid ((hg.block D hDl (by simpa using hRD.symm)).trans hD)
    have c5 : w2.cell? ⟨D, 5, none⟩ = some (.int .i64 0) := cell_heap m1.out 5
    have c6 : w2.cell? ⟨D, 6, none⟩ = some (.int .i64 0) := cell_heap m1.out 6
    have df : ∀ i, w2.frozen? ⟨D, i, none⟩ = false := fun i => free_heap m1.out i
    go_wp2_with fail
    go_returns
    exact ⟨((gr_row hg).set _ _).set _ _, .inr ⟨_, _, _, r2, hfin.out, rfl, set_heap (set_heap m1.out 5 _) 6 _, (hr2.other hRD.symm hTD.symm hBD _ _).other hRD.symm hTD.symm hBD _ _⟩⟩
theorem how_any (w : World) (r : RS) (hr : Rd w0 w R T wd r) (hRD : R ≠ D) (hTD : T ≠ D) (hBD : w0.heap.size ≤ D) (hD : w.heap[D]? = some (.cells (dcs kind line name rows cols 0 0 0 k bits en sl) 38 (0, 0))) (hN : NumsAt m r.ts) :
    Calls Tryz.prog 40 #[.pointer (some ⟨R, 0, none⟩), .pointer (some ⟨D, 0, none⟩)] w (HowPost w0 R T wd D kind line name rows cols k bits en sl w (Sp.how m r)) := by
  cases h1 : Sp.next 110 r with
  | none => exact how_no m w0 R T wd D kind line name rows cols k bits en sl w r hr h1
  | some p =>
    obtain ⟨s, r1⟩ := p
    have hN1 : NumsAt m r1.ts := by
      obtain ⟨t, e, _⟩ := next_mem h1
      exact hN.suffix (by rw [e]; exact List.suffix_cons _ _)
    by_cases n0 : s = [122, 101, 114, 111]
    · subst n0; exact how_zero m w0 R T wd D kind line name rows cols k bits en sl w r hr hRD hTD hBD hD r1 h1 hN1
    by_cases n1 : s = [99, 111, 110, 115, 116]
    · subst n1; exact how_const m w0 R T wd D kind line name rows cols k bits en sl w r hr hRD hTD hBD hD r1 h1 hN1
    by_cases n2 : s = [117, 110, 105, 102, 111, 114, 109]
    · subst n2; exact how_uniform m w0 R T wd D kind line name rows cols k bits en sl w r hr hRD hTD hBD hD r1 h1 hN1
    by_cases n3 : s = [103, 108, 111, 114, 111, 116]
    · subst n3; exact how_glorot m w0 R T wd D kind line name rows cols k bits en sl w r hr hRD hTD hBD hD r1 h1 hN1
    by_cases n4 : s = [104, 101]
    · subst n4; exact how_he m w0 R T wd D kind line name rows cols k bits en sl w r hr hRD hTD hBD hD r1 h1 hN1
    by_cases n5 : s = [110, 111, 114, 109, 97, 108]
    · subst n5; exact how_normal m w0 R T wd D kind line name rows cols k bits en sl w r hr hRD hTD hBD hD r1 h1 hN1
    exact how_other m w0 R T wd D kind line name rows cols k bits en sl w r hr s r1 h1 n0 n1 n2 n3 n4 n5
end
end Go.Proofs.YtdkhedefcmjjgaaGreatDoor
