/- floatBits' two loops, as steps: a decimal is halved, or doubled, till it lies from 1/2 to 1.
Conditions: none; plain Lean. -/
import Derived.Test.YtdkhedefcmjjgaaGreatDoorMFpI
import Derived.Test.YtdkhedefcmjjgaaGreatDoorMFpE
namespace Go.Proofs.YtdkhedefcmjjgaaGreatDoor
open Go.RowKit Sp
set_option linter.unusedSimpArgs false
set_option linter.unusedVariables false
def nOf (d : Nat) : Nat := if 9 ≤ d then 27 else [1, 3, 6, 9, 13, 16, 19, 23, 26].getD d 1
theorem nOf_bound (d : Nat) : 1 ≤ nOf d ∧ nOf d ≤ 27 := by
  unfold nOf
  split
  · omega
  · have h : d < 9 := by omega
    match d, h with
    | 0, _ => decide
    | 1, _ => decide
    | 2, _ => decide
    | 3, _ => decide
    | 4, _ => decide
    | 5, _ => decide
    | 6, _ => decide
    | 7, _ => decide
    | 8, _ => decide
theorem nOf_cell (d : Nat) (h : d < 9) : ([1, 3, 6, 9, 13, 16, 19, 23, 26].map (Value.int .i64))[d]? = some (.int .i64 (nOf d)) := by
  match d, h with
  | 0, _ => rfl
  | 1, _ => rfl
  | 2, _ => rfl
  | 3, _ => rfl
  | 4, _ => rfl
  | 5, _ => rfl
  | 6, _ => rfl
  | 7, _ => rfl
  | 8, _ => rfl
def stepF1 (s : Ds × Int) : Option (Ds × Int) := if 0 < s.1.dp then some (shRS s.1 (nOf s.1.dp.toNat), s.2 + nOf s.1.dp.toNat) else none
def stepF2 (s : Ds × Int) : Option (Ds × Int) := if s.1.dp < 0 ∨ (s.1.dp = 0 ∧ s.1.f 0 < 53) then some (shLS s.1 (nOf (-s.1.dp).toNat), s.2 - nOf (-s.1.dp).toNat) else none
def mF1 (S : Ds) : Nat := (10 * S.dp).toNat + S.f 0
def mF2 (S : Ds) : Nat := if 0 < S.dp then 0 else (10 * (-S.dp)).toNat + (60 - S.f 0)
theorem Good.first {S : Ds} (h : Good S) : 49 ≤ S.f 0 ∧ S.f 0 ≤ 57 := by
  obtain ⟨⟨_, hd⟩, hn, h0⟩ := h
  have := hd 0 (by omega)
  omega
theorem shRS_good {S : Ds} (hS : Good S) {k : Nat} (h0 : 1 ≤ k) (h1 : k ≤ 60) : Good (shRS S k) ∧ (shRS S k).dp ≤ S.dp ∧ S.dp - 64 ≤ (shRS S k).dp ∧ ((shRS S k).dp < S.dp ∨ (shRS S k).f 0 < S.f 0) := by
  rw [← shRS_eq, shR_near _ _ _ (by omega)]
  exact right_good hS h0 h1
theorem shLS_good {S : Ds} (hS : Good S) {k : Nat} (h0 : 1 ≤ k) (h1 : k ≤ 60) : Good (shLS S k) ∧ S.dp ≤ (shLS S k).dp ∧ (shLS S k).dp ≤ S.dp + 20 ∧ (S.dp < (shLS S k).dp ∨ S.f 0 < (shLS S k).f 0) := by
  rw [← shLS_eq, shL_near _ _ _ (by omega)]
  exact left_good hS h0 h1
theorem stepF1_good {S S' : Ds} {e e' : Int} (hS : Good S) (h : stepF1 (S, e) = some (S', e')) : Good S' ∧ mF1 S' < mF1 S ∧ S'.dp ≤ S.dp ∧ S.dp - 64 ≤ S'.dp ∧ e ≤ e' ∧ e' ≤ e + 27 := by
  simp only [stepF1] at h
  split at h
  · rename_i hp
    obtain ⟨n0, n1⟩ := nOf_bound S.dp.toNat
    obtain ⟨a, b, c, d⟩ := shRS_good hS n0 (by omega)
    have f1 := hS.first
    have f2 := a.first
    cases h
    refine ⟨a, ?_, b, c, by omega, by omega⟩
    unfold mF1
    omega
  · cases h
theorem stepF2_good {S S' : Ds} {e e' : Int} (hS : Good S) (h : stepF2 (S, e) = some (S', e')) : Good S' ∧ mF2 S' < mF2 S ∧ S.dp ≤ S'.dp ∧ S'.dp ≤ S.dp + 20 ∧ e' ≤ e ∧ e - 27 ≤ e' := by
  simp only [stepF2] at h
  split at h
  · rename_i hp
    obtain ⟨n0, n1⟩ := nOf_bound (-S.dp).toNat
    obtain ⟨a, b, c, d⟩ := shLS_good hS n0 (by omega)
    have f1 := hS.first
    have f2 := a.first
    cases h
    refine ⟨a, ?_, b, c, by omega, by omega⟩
    unfold mF2
    split <;> split <;> omega
  · cases h
end Go.Proofs.YtdkhedefcmjjgaaGreatDoor
/- A decimal number's text, by places; what is gathered of it byte by byte.
Conditions: none; plain Lean. -/
namespace Go.Proofs.YtdkhedefcmjjgaaGreatDoor
open Go.RowKit Sp
set_option linter.unusedSimpArgs false
set_option linter.unusedVariables false
/-- A text's byte at a place. -/
def bt (s : ByteArray) (i : Nat) : Nat := if h : i < s.size then (s[i]).toNat else 0
theorem bt_at {s : ByteArray} {i : Nat} (h : i < s.size) : (s[i]).toNat = bt s i := by unfold bt; rw [dif_pos h]
theorem bt_lt (s : ByteArray) (i : Nat) : bt s i < 256 := by
  unfold bt
  split
  · exact UInt8.toNat_lt _
  · decide
/-- From i on digits stand, up to e, and no further. -/
structure DE (s : ByteArray) (i e : Nat) : Prop where
  ie : i ≤ e
  es : e ≤ s.size
  all : ∀ j, i ≤ j → j < e → 48 ≤ bt s j ∧ bt s j ≤ 57
  stop : e < s.size → ¬ (48 ≤ bt s e ∧ bt s e ≤ 57)
theorem dEx (s : ByteArray) : ∀ (f i : Nat), s.size - i ≤ f → i ≤ s.size → ∃ e, DE s i e
  | 0, i, hf, hi => ⟨i, Nat.le_refl _, hi, fun j h1 h2 => by omega, fun h => by omega⟩
  | f + 1, i, hf, hi => by
    by_cases h : i < s.size ∧ (48 ≤ bt s i ∧ bt s i ≤ 57)
    · obtain ⟨e, he⟩ := dEx s f (i + 1) (by omega) (by omega)
      refine ⟨e, by have := he.ie; omega, he.es, fun j h1 h2 => ?_, he.stop⟩
      by_cases hj : j = i
      · subst hj; exact h.2
      · exact he.all j (by omega) h2
    · exact ⟨i, Nat.le_refl _, hi, fun j h1 h2 => by omega, fun h1 h2 => h ⟨h1, h2⟩⟩
theorem dEx' (s : ByteArray) (i : Nat) (hi : i ≤ s.size) : ∃ e, DE s i e := dEx s _ i (Nat.le_refl _) hi
/-- The part behind an 'e'. -/
structure Expn (s : ByteArray) (m q : Nat) (neg : Bool) : Prop where
  e : bt s m = 101
  pos : neg = false → q = m + 1
  minus : neg = true → q = m + 2 ∧ bt s (m + 1) = 45
  qs : q < s.size
  sq : s.size ≤ q + 3
  all : ∀ j, q ≤ j → j < s.size → 48 ≤ bt s j ∧ bt s j ≤ 57
/-- A decimal number's text: digits; a point at a and digits, if a is below m; from m on the exponent, if there is one. -/
structure Form (s : ByteArray) (a m : Nat) : Prop where
  a1 : 1 ≤ a
  am : a ≤ m
  ms : m ≤ s.size
  dig : ∀ j, j < m → j ≠ a → 48 ≤ bt s j ∧ bt s j ≤ 57
  dot : a < m → bt s a = 46 ∧ a + 1 < m
  tail : m = s.size ∨ (m < s.size ∧ ∃ q neg, Expn s m q neg)
/-- What is gathered of a mantissa. -/
structure RF where
  nd : Nat
  ndM : Nat
  dp : Int
  man : Nat
  tr : Bool
def rfStep (s : RF) (c : Nat) : RF :=
  if c = 46 then { s with dp := s.nd }
  else if c = 48 ∧ s.nd = 0 then { s with dp := s.dp - 1 }
  else if s.ndM < 19 then { s with nd := s.nd + 1, man := s.man * 10 + (c - 48), ndM := s.ndM + 1 }
  else { s with nd := s.nd + 1, tr := s.tr || c != 48 }
def rfAt (s : ByteArray) : Nat → RF
  | 0 => ⟨0, 0, 0, 0, false⟩
  | i + 1 => rfStep (rfAt s i) (bt s i)
structure RFOk (r : RF) (i : Nat) : Prop where
  nd : r.nd ≤ i
  m19 : r.ndM ≤ 19
  mnd : r.ndM ≤ r.nd
  dp0 : -(i : Int) ≤ r.dp
  dp1 : r.dp ≤ i
  man : r.man < 10 ^ r.ndM
  tr : r.tr = true → r.ndM = 19 ∧ 19 < r.nd
  eq : r.ndM < 19 → r.ndM = r.nd
  one : 1 ≤ r.nd → 1 ≤ r.man
  zero : r.nd = 0 → r.man = 0 ∧ r.ndM = 0
theorem RFOk.start : RFOk ⟨0, 0, 0, 0, false⟩ 0 := ⟨by simp, by simp, by simp, by simp, by simp, by simp, by simp, by simp, by simp, by simp⟩
theorem RFOk.step {r : RF} {i c : Nat} (h : RFOk r i) (hc : c = 46 ∨ (48 ≤ c ∧ c ≤ 57)) : RFOk (rfStep r c) (i + 1) := by
  obtain ⟨h1, h2, h3, h4, h5, h6, h7, h8, h9, h10⟩ := h
  unfold rfStep
  split
  · exact ⟨by simp only; omega, h2, h3, by simp only; omega, by simp only; omega, h6, h7, h8, h9, h10⟩
  · rename_i n46
    have hd : 48 ≤ c ∧ c ≤ 57 := hc.resolve_left n46
    split
    · exact ⟨by simp only; omega, h2, h3, by simp only; omega, by simp only; omega, h6, h7, h8, h9, h10⟩
    · rename_i h0
      split
      · rename_i h19
        refine ⟨by simp only; omega, by simp only; omega, by simp only; omega, by simp only; omega, by simp only; omega, ?_, fun ht => ?_, fun h => by simp only at *; omega, fun h => ?_, fun h => by simp only at h; omega⟩
        · simp only [Nat.pow_succ]; omega
        · simp only at ht; exact absurd (h7 ht).1 (by omega)
        · simp only
          by_cases hz : r.nd = 0
          · have : c ≠ 48 := fun e => h0 ⟨e, hz⟩
            omega
          · have := h9 (by omega)
            omega
      · rename_i h19
        refine ⟨by simp only; omega, h2, by simp only; omega, by simp only; omega, by simp only; omega, h6, fun ht => ⟨by simp only; omega, by simp only; omega⟩, fun h => by simp only at *; omega, fun h => ?_, fun h => by simp only at h; omega⟩
        · exact h9 (by omega)
theorem rf_ok {s : ByteArray} {a m : Nat} (F : Form s a m) : ∀ i, i ≤ m → RFOk (rfAt s i) i
  | 0, _ => RFOk.start
  | i + 1, hi => by
    refine (rf_ok F i (by omega)).step ?_
    by_cases h : i = a
    · subst h; exact .inl (F.dot (by omega)).1
    · exact .inr (F.dig i (by omega) h)
/-- What is gathered of an exponent. -/
def exAt (s : ByteArray) (q : Nat) : Nat → Nat
  | 0 => 0
  | k + 1 => exAt s q k * 10 + (bt s (q + k) - 48)
theorem ex_ok {s : ByteArray} {m q : Nat} {neg : Bool} (E : Expn s m q neg) : ∀ k, q + k ≤ s.size → exAt s q k < 10 ^ k
  | 0, _ => by simp [exAt]
  | k + 1, h => by
    have := ex_ok E k (by omega)
    have hd := E.all (q + k) (by omega) (by omega)
    simp only [exAt, Nat.pow_succ]
    omega
theorem ex_999 {s : ByteArray} {m q : Nat} {neg : Bool} (E : Expn s m q neg) (k : Nat) (h : q + k ≤ s.size) : exAt s q k ≤ 999 := by
  have h1 := ex_ok E k h
  have h2 := E.sq
  have h3 : k ≤ 3 := by omega
  have h4 : 10 ^ k ≤ 10 ^ 3 := Nat.pow_le_pow_right (by decide) h3
  omega
/-- What is gathered of a mantissa, as a decimal. -/
def dsStep (S : Ds) (c : Nat) : Ds :=
  if c = 46 then { S with dp := S.nd }
  else if c = 48 ∧ S.nd = 0 then { S with dp := S.dp - 1 }
  else { S with f := upd S.f S.nd c, nd := S.nd + 1 }
def dsAt (s : ByteArray) : Nat → Ds
  | 0 => ⟨fun _ => 0, 0, 0, false⟩
  | i + 1 => dsStep (dsAt s i) (bt s i)
structure DSOk (S : Ds) (i : Nat) (r : RF) : Prop where
  nd : S.nd ≤ i
  dp0 : -(i : Int) ≤ S.dp
  dp1 : S.dp ≤ i
  dig : ∀ j, j < S.nd → 48 ≤ S.f j ∧ S.f j ≤ 57
  first : 1 ≤ S.nd → S.f 0 ≠ 48
  same : S.nd = r.nd
theorem DSOk.step {S : Ds} {r : RF} {i c : Nat} (h : DSOk S i r) (hc : c = 46 ∨ (48 ≤ c ∧ c ≤ 57)) : DSOk (dsStep S c) (i + 1) (rfStep r c) := by
  obtain ⟨h1, h2, h3, h4, h5, h6⟩ := h
  unfold dsStep rfStep
  rw [← h6]
  split
  · exact ⟨by simp only; omega, by simp only; omega, by simp only; omega, h4, h5, rfl⟩
  · rename_i n46
    have hd : 48 ≤ c ∧ c ≤ 57 := hc.resolve_left n46
    split
    · exact ⟨by simp only; omega, by simp only; omega, by simp only; omega, h4, h5, rfl⟩
    · rename_i h0
      refine ⟨by simp only; omega, by simp only; omega, by simp only; omega, fun j hj => ?_, fun _ => ?_, ?_⟩
      · simp only [upd] at hj ⊢
        split
        · exact hd
        · exact h4 j (by omega)
      · simp only [upd]
        split
        · rename_i e
          exact fun e48 => h0 ⟨e48, e.symm⟩
        · exact h5 (by omega)
      · split <;> rfl
theorem ds_ok {s : ByteArray} {a m : Nat} (F : Form s a m) : ∀ i, i ≤ m → DSOk (dsAt s i) i (rfAt s i)
  | 0, _ => ⟨by simp [dsAt], by simp [dsAt], by simp [dsAt], by simp [dsAt], by simp [dsAt], rfl⟩
  | i + 1, hi => by
    refine (ds_ok F i (by omega)).step ?_
    by_cases h : i = a
    · subst h; exact .inl (F.dot (by omega)).1
    · exact .inr (F.dig i (by omega) h)
end Go.Proofs.YtdkhedefcmjjgaaGreatDoor
