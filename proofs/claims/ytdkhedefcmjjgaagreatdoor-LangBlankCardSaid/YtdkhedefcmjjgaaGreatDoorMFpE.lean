/- rightShift, walked.
Conditions: a decimal that is not nought; a shift by 1 to 60. -/
import Derived.Test.YtdkhedefcmjjgaaGreatDoorMFpC
import Derived.Laws.Bits64b
namespace Go.Proofs.YtdkhedefcmjjgaaGreatDoor
open Go.RowKit Sp
set_option linter.unusedSimpArgs false
set_option linter.unusedVariables false
/-- A loop: steps until there is none. -/
def runs {α : Type} (step : α → Option α) : Nat → α → α
  | 0, s => s
  | n + 1, s => match step s with | none => s | some s' => runs step n s'
theorem runs_none {α : Type} {step : α → Option α} {s : α} (h : step s = none) (n : Nat) : runs step n s = s := by cases n <;> simp [runs, h]
theorem runs_some {α : Type} {step : α → Option α} {s s' : α} (h : step s = some s') (n : Nat) : runs step (n + 1) s = runs step n s' := by simp [runs, h]
theorem runs_inv {α : Type} {step : α → Option α} {P : α → Prop} (hP : ∀ s s', P s → step s = some s' → P s') : ∀ (n : Nat) (s : α), P s → P (runs step n s)
  | 0, s, h => h
  | n + 1, s, h => by
    cases hs : step s with
    | none => simpa [runs, hs] using h
    | some s' =>
      rw [runs_some hs]
      exact runs_inv hP n s' (hP s s' h hs)
theorem runs_end {α : Type} {step : α → Option α} {P : α → Prop} {m : α → Nat} (hP : ∀ s s', P s → step s = some s' → P s' ∧ m s' < m s) : ∀ (n : Nat) (s : α), P s → m s ≤ n → step (runs step n s) = none
  | 0, s, h, hm => by
    cases hs : step s with
    | none => simp [runs, hs]
    | some s' =>
      have := (hP s s' h hs).2
      omega
  | n + 1, s, h, hm => by
    cases hs : step s with
    | none => simp [runs, hs]
    | some s' =>
      rw [runs_some hs]
      obtain ⟨h1, h2⟩ := hP s s' h hs
      exact runs_end hP n s' h1 (by omega)
/-- The first digits, till the shift leaves something. -/
def step1 (f : Nat → Nat) (nd k : Nat) (s : Nat × Nat) : Option (Nat × Nat) := if s.2 / 2 ^ k = 0 then some (s.1 + 1, s.2 * 10 + (if s.1 < nd then f s.1 - 48 else 0)) else none
def P1 (nd k : Nat) (s : Nat × Nat) : Prop := s.2 < 10 * 2 ^ k ∧ (s.1 = 0 → s.2 = 0) ∧ (1 ≤ s.1 → 2 ^ (s.1 - 1) ≤ s.2)
theorem two_le {k : Nat} (h0 : 1 ≤ k) (h1 : k ≤ 60) : 2 ≤ 2 ^ k ∧ 2 ^ k ≤ 1152921504606846976 :=
  ⟨Nat.pow_le_pow_right (n := 2) (by omega) h0, Nat.pow_le_pow_right (n := 2) (by omega) h1⟩
theorem P1.small {nd k r n : Nat} (hk1 : k ≤ 60) (h : P1 nd k (r, n)) : r ≤ 64 ∧ n < 11529215046068469760 := by
  obtain ⟨a, b, c⟩ := h
  have h2 : 2 ^ k ≤ 1152921504606846976 := Nat.pow_le_pow_right (n := 2) (by omega) hk1
  simp only at a b c
  refine ⟨?_, by omega⟩
  rcases Nat.lt_or_ge 64 r with hr | hr
  · have := c (by omega)
    have e : 2 ^ 64 ≤ 2 ^ (r - 1) := Nat.pow_le_pow_right (by omega) (by omega)
    omega
  · exact hr
theorem P1.step {f : Nat → Nat} {nd k r n : Nat} (hdig : ∀ i, i < nd → 48 ≤ f i ∧ f i ≤ 57) (h0 : f 0 ≠ 48) (hn : 1 ≤ nd) (h : P1 nd k (r, n)) (hq : n / 2 ^ k = 0) :
    P1 nd k (r + 1, n * 10 + (if r < nd then f r - 48 else 0)) ∧ 2 ^ k - (n * 10 + (if r < nd then f r - 48 else 0)) < 2 ^ k - n := by
  obtain ⟨a, b, c⟩ := h
  simp only at a b c
  have hlt : n < 2 ^ k := by
    rcases Nat.lt_or_ge n (2 ^ k) with h | h
    · exact h
    · have := Nat.div_pos h (Nat.two_pow_pos k)
      omega
  have hd : (if r < nd then f r - 48 else 0) ≤ 9 := by
    split
    · have := hdig r (by assumption)
      omega
    · omega
  rcases Nat.eq_zero_or_pos r with hr | hr
  · subst hr
    have hd0 : 1 ≤ (if 0 < nd then f 0 - 48 else 0) := by
      rw [if_pos (by omega)]
      have := hdig 0 (by omega)
      omega
    have hn0 := b rfl
    refine ⟨⟨by simp only; omega, fun h => by simp at h, fun _ => by simp; omega⟩, by omega⟩
  · have := c hr
    have hp : 1 ≤ 2 ^ (r - 1) := Nat.two_pow_pos _
    refine ⟨⟨by simp only; omega, fun h => by simp at h, fun _ => ?_⟩, by omega⟩
    simp only [Nat.add_sub_cancel]
    have e : 2 ^ r = 2 * 2 ^ (r - 1) := by rw [← Nat.pow_succ']; congr 1; omega
    omega
/-- The digits that came in go by, the quotient's come out. -/
def step2 (nd k : Nat) (s : Nat × Nat × Nat × (Nat → Nat)) : Option (Nat × Nat × Nat × (Nat → Nat)) :=
  if s.1 < nd then some (s.1 + 1, s.2.1 + 1, (s.2.2.1 % 2 ^ k) * 10 + (s.2.2.2 s.1 - 48), upd s.2.2.2 s.2.1 (s.2.2.1 / 2 ^ k + 48)) else none
/-- What is left over goes on in digits. -/
def step3 (k : Nat) (s : Nat × Nat × (Nat → Nat) × Bool) : Option (Nat × Nat × (Nat → Nat) × Bool) :=
  if s.2.1 = 0 then none else
  if s.1 < 800 then some (s.1 + 1, (s.2.1 % 2 ^ k) * 10, upd s.2.2.1 s.1 (s.2.1 / 2 ^ k + 48), s.2.2.2)
  else some (s.1, (s.2.1 % 2 ^ k) * 10, s.2.2.1, if s.2.1 / 2 ^ k = 0 then s.2.2.2 else true)
def P2 (nd k n1 : Nat) (s : Nat × Nat × Nat × (Nat → Nat)) : Prop :=
  s.2.1 < s.1 ∧ s.1 ≤ 1000 ∧ s.2.1 ≤ nd ∧ s.2.2.1 < 10 * 2 ^ k ∧ (∀ i, s.1 ≤ i → i < nd → 48 ≤ s.2.2.2 i ∧ s.2.2.2 i ≤ 57) ∧ (∀ i, i < s.2.1 → 48 ≤ s.2.2.2 i ∧ s.2.2.2 i ≤ 57) ∧ (s.2.1 = 0 → s.2.2.1 = n1) ∧ (1 ≤ s.2.1 → s.2.2.2 0 = n1 / 2 ^ k + 48)
def P3 (k n1 : Nat) (s : Nat × Nat × (Nat → Nat) × Bool) : Prop :=
  s.1 ≤ 800 ∧ s.2.1 < 10 * 2 ^ k ∧ (∀ i, i < s.1 → 48 ≤ s.2.2.1 i ∧ s.2.2.1 i ≤ 57) ∧ (s.1 = 0 → s.2.1 = n1) ∧ (1 ≤ s.1 → s.2.2.1 0 = n1 / 2 ^ k + 48)
theorem quo_lt {k n : Nat} (h : n < 10 * 2 ^ k) : n / 2 ^ k ≤ 9 := by
  have : n / 2 ^ k < 10 := Nat.div_lt_of_lt_mul (by rw [Nat.mul_comm]; exact h)
  omega
theorem P2.step {nd k n1 r w n : Nat} {f : Nat → Nat} (hnd : nd ≤ 800) (h : P2 nd k n1 (r, w, n, f)) (hr : r < nd) : P2 nd k n1 (r + 1, w + 1, (n % 2 ^ k) * 10 + (f r - 48), upd f w (n / 2 ^ k + 48)) := by
  obtain ⟨a, b, c, d, e, g, i, j⟩ := h
  simp only at a b c d e g i j
  have hq := quo_lt d
  have hm : n % 2 ^ k < 2 ^ k := Nat.mod_lt _ (Nat.two_pow_pos k)
  have hf := e r (Nat.le_refl _) hr
  refine ⟨by simp only; omega, by simp only; omega, by simp only; omega, by simp only; omega, fun x hx hx' => ?_, fun x hx => ?_, fun h => by simp at h, fun _ => ?_⟩
  · simp only at hx
    simp only [upd, if_neg (show ¬ x = w by omega)]
    exact e x (by omega) hx'
  · simp only at hx
    simp only [upd]
    split
    · exact ⟨Nat.le_add_left _ _, Nat.add_le_add_right hq 48⟩
    · exact g x (by omega)
  · simp only [upd]
    split
    · rename_i h0
      rw [i h0.symm]
    · exact j (by omega)
theorem P3.step {k n1 w n : Nat} {f : Nat → Nat} {tr : Bool} (h : P3 k n1 (w, n, f, tr)) (hw : w < 800) : P3 k n1 (w + 1, (n % 2 ^ k) * 10, upd f w (n / 2 ^ k + 48), tr) := by
  obtain ⟨a, b, c, d, e⟩ := h
  simp only at a b c d e
  have hq := quo_lt b
  have hm : n % 2 ^ k < 2 ^ k := Nat.mod_lt _ (Nat.two_pow_pos k)
  refine ⟨by simp only; omega, by simp only; omega, fun x hx => ?_, fun h => by simp at h, fun _ => ?_⟩
  · simp only at hx
    simp only [upd]
    split
    · exact ⟨Nat.le_add_left _ _, Nat.add_le_add_right hq 48⟩
    · exact c x (by omega)
  · simp only [upd]
    split
    · rename_i h0
      rw [d h0.symm]
    · exact e (by omega)
theorem P3.far {k n1 w n : Nat} {f : Nat → Nat} {tr tr' : Bool} (h : P3 k n1 (w, n, f, tr)) (hw : ¬ w < 800) : P3 k n1 (w, (n % 2 ^ k) * 10, f, tr') := by
  obtain ⟨a, b, c, d, e⟩ := h
  simp only at a b c d e
  have hm : n % 2 ^ k < 2 ^ k := Nat.mod_lt _ (Nat.two_pow_pos k)
  exact ⟨by simp only; omega, by simp only; omega, c, fun h => absurd (show w = 0 from h) (by omega), e⟩
/-- How many digits are still to come. -/
def toGo (k : Nat) : Nat → Nat → Nat
  | 0, _ => 0
  | fu + 1, n => if n = 0 then 0 else toGo k fu ((n % 2 ^ k) * 10) + 1
theorem toGo_le {k : Nat} : ∀ (fu n j : Nat), 2 ^ j ∣ n → j ≤ k → toGo k fu n ≤ k + 1 - j
  | 0, n, j, _, hj => by simp [toGo]
  | fu + 1, n, j, hd, hj => by
    simp only [toGo]
    split
    · omega
    · have hdm : 2 ^ j ∣ n % 2 ^ k := (Nat.dvd_mod_iff (Nat.pow_dvd_pow 2 hj)).2 hd
      rcases Nat.lt_or_ge j k with h | h
      · have h2 : 2 ^ (j + 1) ∣ (n % 2 ^ k) * 10 := by
          rw [Nat.pow_succ]
          exact Nat.mul_dvd_mul hdm ⟨5, rfl⟩
        have := toGo_le (k := k) fu _ (j + 1) h2 (by omega)
        omega
      · have e : j = k := by omega
        subst e
        have e0 : n % 2 ^ j = 0 := Nat.eq_zero_of_dvd_of_lt hdm (Nat.mod_lt _ (Nat.two_pow_pos j))
        rw [e0]
        have : toGo j fu (0 * 10) = 0 := by cases fu <;> simp [toGo]
        omega
theorem toGo_stays {k : Nat} : ∀ (fu n : Nat), toGo k fu n < fu → toGo k (fu + 1) n = toGo k fu n
  | 0, n, h => by omega
  | fu + 1, n, h => by
    by_cases h0 : n = 0
    · simp [toGo, h0]
    · have e1 : toGo k (fu + 1) n = toGo k fu ((n % 2 ^ k) * 10) + 1 := by simp [toGo, h0]
      have e2 : toGo k (fu + 1 + 1) n = toGo k (fu + 1) ((n % 2 ^ k) * 10) + 1 := by rw [toGo]; simp [h0]
      rw [e1] at h ⊢
      rw [e2, toGo_stays fu _ (by omega)]
def go70 (k n : Nat) : Nat := toGo k 70 n
theorem go70_le {k n : Nat} (hk : k ≤ 60) : go70 k n ≤ 61 := by
  have := toGo_le (k := k) 70 n 0 (by simp) (by omega)
  unfold go70
  omega
theorem go70_less {k n : Nat} (hk : k ≤ 60) (h : n ≠ 0) : go70 k ((n % 2 ^ k) * 10) < go70 k n := by
  unfold go70
  have e : toGo k 70 n = toGo k 69 ((n % 2 ^ k) * 10) + 1 := by
    rw [show (70 : Nat) = 69 + 1 from rfl, toGo]; simp [h]
  have hb := toGo_le (k := k) 69 ((n % 2 ^ k) * 10) 0 (by simp) (by omega)
  have e2 : toGo k 70 ((n % 2 ^ k) * 10) = toGo k 69 ((n % 2 ^ k) * 10) := toGo_stays (k := k) 69 ((n % 2 ^ k) * 10) (by omega)
  omega
attribute [irreducible] go70
def right1 (f : Nat → Nat) (nd k : Nat) : Nat × Nat := runs (step1 f nd k) (2 ^ k) (0, 0)
def right2 (f : Nat → Nat) (nd k : Nat) : Nat × Nat × Nat × (Nat → Nat) := runs (step2 nd k) nd ((right1 f nd k).1, 0, (right1 f nd k).2, f)
def right3 (f : Nat → Nat) (nd k : Nat) (tr : Bool) : Nat × Nat × (Nat → Nat) × Bool := runs (step3 k) 70 ((right2 f nd k).2.1, (right2 f nd k).2.2.1, (right2 f nd k).2.2.2, tr)
def rightS (S : Ds) (k : Nat) : Ds :=
  trimS ⟨(right3 S.f S.nd k S.tr).2.2.1, (right3 S.f S.nd k S.tr).1, S.dp - ((right1 S.f S.nd k).1 - 1 : Int), (right3 S.f S.nd k S.tr).2.2.2⟩
theorem mask_and {k : Nat} (hk0 : 1 ≤ k) (hk1 : k ≤ 60) {n : Nat} (hn : n < 18446744073709551616) : bits BinOp.and IntKind.u64 (n : Int) (IntKind.u64.wrap (IntKind.u64.wrap (2 ^ k) - 1)) = ((n % 2 ^ k : Nat) : Int) := by
  have hN := two_le hk0 hk1
  have e : IntKind.u64.wrap (IntKind.u64.wrap (2 ^ k) - 1) = ((2 ^ k - 1 : Nat) : Int) := by
    have e1 : ((2 : Int) ^ k) = ((2 ^ k : Nat) : Int) := by simp
    rw [e1, IntKind.wrap_u64, IntKind.wrap_u64]
    omega
  rw [e, bits_and_u64_nat n (2 ^ k - 1) hn (by omega), Nat.and_two_pow_sub_one_eq_mod]
set_option maxRecDepth 20000 in
set_option maxHeartbeats 4000000 in
theorem right_any (f : Nat → Nat) (nd : Nat) (dp : Int) (tr : Bool) (hS : Digs ⟨f, nd, dp, tr⟩) (hp0 : -1000000000 ≤ dp) (hp1 : dp ≤ 1000000000) (k : Nat) (hk0 : 1 ≤ k) (hk1 : k ≤ 60) (h0 : f 0 ≠ 48) (hn : 1 ≤ nd) (w : World) (D : Nat) (h : DecAt w D ⟨f, nd, dp, tr⟩) :
    Calls Tryz.prog 172 #[.pointer (some ⟨D, 0, none⟩), .int .u64 k] w fun e w' => e = .returned (.tuple #[]) ∧ DecAt w' D (rightS ⟨f, nd, dp, tr⟩ k) ∧ w.grownBy w' (some D) := by
  obtain ⟨hnd, hdig⟩ := hS
  replace hnd : nd ≤ 800 := hnd
  replace hdig : ∀ i, i < nd → 48 ≤ f i ∧ f i ≤ 57 := hdig
  have HD := Lib.hid hdig
  have H := Lib.hid h
  have H0 := Lib.hid h0
  have HL := Lib.hid (heap_lt h)
  clear hdig h h0
  have hN := two_le hk0 hk1
  go_enter Tryz.func172, Tryz.ntmps172
  go_wp2_with fail
  go_loopw [4, 6] (fun t4 t6 wr => ∃ r n fu : Nat, t4 = .int .i64 r ∧ t6 = .int .u64 n ∧ Hid (P1 nd k (r, n) ∧ runs (step1 f nd k) fu (r, n) = right1 f nd k ∧ 2 ^ k - n ≤ fu ∧ Below w.heap.size w wr)) (fun t4 _ _ => nd - (intOf t4).toNat)
  case atStart => exact ⟨0, 0, 2 ^ k, rfl, rfl, Lib.hid ⟨⟨by simp only; omega, fun _ => rfl, fun h => by simp at h⟩, rfl, by omega, Below.refl _ _⟩⟩
  case round =>
    obtain ⟨r, n, fu, rfl, rfl, hb⟩ := hrel
    have hD : DecAt wr D ⟨f, nd, dp, tr⟩ := (hb.out.2.2.2.block _ HL.out).trans H.out
    have HA := Lib.hid hD
    have k8 : wr.cell? ⟨D, 800, none⟩ = some (.int .i64 nd) := hD.nd
    have k9 : wr.cell? ⟨D, 801, none⟩ = some (.int .i64 dp) := hD.dp
    have f9 := hD.free 801
    clear hD
    have hs := (hb.out.1).small hk1
    obtain ⟨hs1, hs2⟩ := hs
    by_cases hq : n / 2 ^ k = 0
    · have hq' : ((n : Int) / 2 ^ k == 0) = true := by
        have : (n : Int) / 2 ^ k = ((n / 2 ^ k : Nat) : Int) := by simp
        rw [this, hq]; rfl
      have hst := Lib.hid (hb.out.1.step HD.out H0.out hn hq)
      have hru : Hid (runs (step1 f nd k) (fu - 1) (r + 1, n * 10 + (if r < nd then f r - 48 else 0)) = right1 f nd k ∧ 1 ≤ fu) := Lib.hid (by
        have h1 := hb.out.2.1
        have h2 := hb.out.2.2.1
        have h3 := hst.out.2
        obtain ⟨g, rfl⟩ : ∃ g, fu = g + 1 := ⟨fu - 1, by omega⟩
        rw [runs_some (s' := (r + 1, n * 10 + (if r < nd then f r - 48 else 0))) (by simp [step1, hq])] at h1
        exact ⟨h1, by omega⟩)
      rcases Nat.lt_or_ge r nd with hr | hr
      · have kd : wr.cell? ⟨D, r, none⟩ = some (.int .u8 (f r)) := HA.out.dig (by omega)
        have hd1 := (HD.out r hr).1
        have hd2 := (HD.out r hr).2
        have hnn : IntKind.u64.wrap (IntKind.u64.wrap (IntKind.u64.wrap ((n : Int) * 10) + (f r : Int)) - 48) = ((n * 10 + (f r - 48) : Nat) : Int) := by
          have hlt : n < 1152921504606846976 := by
            have := hN.2
            have h := hst.out.2
            omega
          rw [IntKind.wrap_u64, IntKind.wrap_u64, IntKind.wrap_u64]
          omega
        clear hq
        rw [if_pos hr] at hst hru
        go_wp2_with fail
        exact ⟨⟨r + 1, n * 10 + (f r - 48), fu - 1, by simp, by simp, Lib.hid ⟨hst.out.1, hru.out.1, by have := hst.out.2; have := hb.out.2.2.1; have := hru.out.2; omega, hb.out.2.2.2⟩⟩, by simp [intOf]; omega⟩
      · have hnp : 1 ≤ n := by
          have h2 := hb.out.1.2.2 (show 1 ≤ r by omega)
          have h3 := Nat.two_pow_pos (r - 1)
          simp only at h2
          omega
        have hnz0 : ((n : Int) == 0) = false := by simp; omega
        clear hst hru hq hnp
        go_wp2_with fail
        go_loopw [4, 6] (fun t4 t6 wr => ∃ r n fu : Nat, t4 = .int .i64 r ∧ t6 = .int .u64 n ∧ nd ≤ r ∧ Hid (P1 nd k (r, n) ∧ runs (step1 f nd k) fu (r, n) = right1 f nd k ∧ 2 ^ k - n ≤ fu ∧ Below w.heap.size w wr)) (fun _ t6 _ => 2 ^ k - (intOf t6).toNat)
        case atStart => exact ⟨r, n, fu, rfl, rfl, hr, hb⟩
        case round =>
          clear hb HA k8 k9 f9 hs1 hs2 hq' hnz0 hr
          obtain ⟨r, n, fu, rfl, rfl, hr, hb⟩ := hrel
          have hD : DecAt wr D ⟨f, nd, dp, tr⟩ := (hb.out.2.2.2.block _ HL.out).trans H.out
          have HA := Lib.hid hD
          have k8 : wr.cell? ⟨D, 800, none⟩ = some (.int .i64 nd) := hD.nd
          have k9 : wr.cell? ⟨D, 801, none⟩ = some (.int .i64 dp) := hD.dp
          have f9 := hD.free 801
          clear hD
          have hs := (hb.out.1).small hk1
          obtain ⟨hs1, hs2⟩ := hs
          by_cases hq : n / 2 ^ k = 0
          · have hq' : ((n : Int) / 2 ^ k == 0) = true := by
              have : (n : Int) / 2 ^ k = ((n / 2 ^ k : Nat) : Int) := by simp
              rw [this, hq]; rfl
            have hst := Lib.hid (hb.out.1.step HD.out H0.out hn hq)
            have hru : Hid (runs (step1 f nd k) (fu - 1) (r + 1, n * 10 + (if r < nd then f r - 48 else 0)) = right1 f nd k ∧ 1 ≤ fu) := Lib.hid (by
              have h1 := hb.out.2.1
              have h2 := hb.out.2.2.1
              have h3 := hst.out.2
              obtain ⟨g, rfl⟩ : ∃ g, fu = g + 1 := ⟨fu - 1, by omega⟩
              rw [runs_some (s' := (r + 1, n * 10 + (if r < nd then f r - 48 else 0))) (by simp [step1, hq])] at h1
              exact ⟨h1, by omega⟩)
            rw [if_neg (by omega), Nat.add_zero] at hst hru
            have hlt : n < 1152921504606846976 := by
              have := hN.2
              have h := hst.out.2
              omega
            clear hq
            go_wp2_with fail
            refine ⟨⟨r + 1, n * 10, fu - 1, by simp, by simp, by omega, Lib.hid ⟨hst.out.1, hru.out.1, by have := hst.out.2; have := hb.out.2.2.1; have := hru.out.2; omega, hb.out.2.2.2⟩⟩, ?_⟩
            have := hst.out.2
            have e9 : ((n : Int) * 10).toNat = n * 10 := by omega
            simpa [intOf, e9] using this
          · have hq' : ((n : Int) / 2 ^ k == 0) = false := by
              have : (n : Int) / 2 ^ k = ((n / 2 ^ k : Nat) : Int) := by simp
              rw [this]
              generalize n / 2 ^ k = q at hq
              simp; omega
            have he : Hid (right1 f nd k = (r, n)) := Lib.hid (by
              rw [← hb.out.2.1]
              exact runs_none (by simp [step1, hq]) _)
            have hb0 := hb.out.1
            have hr1 : 1 ≤ r := by
              rcases Nat.eq_zero_or_pos r with h | h
              · exact absurd (show n / 2 ^ k = 0 by have hn0 : n = 0 := hb0.2.1 h; rw [hn0]; simp) hq
              · exact h
            have hnz : Hid (n < 10 * 2 ^ k ∧ 2 ^ k ≤ n) := Lib.hid ⟨hb0.1, by
              rcases Nat.lt_or_ge n (2 ^ k) with h | h
              · exact absurd (Nat.div_eq_of_lt h) hq
              · exact h⟩
            clear hb0 hq
            have hA2 := Lib.hid (HA.out.setDp (dp - ((r : Int) - 1)))
            have hG2 : Hid (w.grownBy (wr.setCell ⟨D, 801, none⟩ (.int .i64 (dp - ((r : Int) - 1)))) (some D)) := Lib.hid (gr_put (gr_below hb.out.2.2.2 _) _ _)
            go_wp2_with fail
            go_loopw [4, 5, 6] (fun t4 t5 t6 wr => ∃ (r v n fu : Nat) (g : Nat → Nat), t4 = .int .i64 r ∧ t5 = .int .i64 v ∧ t6 = .int .u64 n ∧ Hid (P2 nd k (right1 f nd k).2 (r, v, n, g) ∧ runs (step2 nd k) fu (r, v, n, g) = right2 f nd k ∧ nd - r ≤ fu ∧ DecAt wr D ⟨g, nd, dp - (((right1 f nd k).1 : Int) - 1), tr⟩ ∧ w.grownBy wr (some D))) (fun t4 _ _ _ => nd - (intOf t4).toNat)
            case atStart =>
              refine ⟨r, 0, n, nd, f, rfl, rfl, rfl, Lib.hid ⟨?_, ?_, by omega, ?_, hG2.out⟩⟩
              · rw [he.out]
                exact ⟨by simp only; omega, by simp only; omega, Nat.zero_le _, hnz.out.1, fun i _ h => HD.out i h, fun i h => absurd h (Nat.not_lt_zero _), fun _ => rfl, fun h => absurd h (by simp)⟩
              · unfold right2
                rw [he.out]
              · rw [he.out]
                exact hA2.out
            case round =>
              clear hb HA k8 k9 f9 hs1 hs2 hq' he hr1 hnz hA2 hG2
              obtain ⟨r, v, n, fu, g, rfl, rfl, rfl, hb⟩ := hrel
              obtain ⟨dp', hdp'⟩ : ∃ dp', Hid (dp - (((right1 f nd k).1 : Int) - 1) = dp') := ⟨_, Lib.hid rfl⟩
              rw [hdp'.out] at hb
              have HA := Lib.hid hb.out.2.2.2.1
              have k8 : wr.cell? ⟨D, 800, none⟩ = some (.int .i64 nd) := HA.out.nd
              have hbd := hb.out.1
              have hv : v ≤ 800 := by have := hbd.2.2.1; simp only at this; omega
              have hvr : v < r := hbd.1
              have hrb : r ≤ 1000 := hbd.2.1
              have hnb : n < 11529215046068469760 := by have := hbd.2.2.2.1; simp only at this; have := hN.2; omega
              clear hbd
              rcases Nat.lt_or_ge r nd with hr | hr
              · have kd : wr.cell? ⟨D, r, none⟩ = some (.int .u8 (g r)) := HA.out.dig (by omega)
                have kv : wr.cell? ⟨D, v, none⟩ = some (.int .u8 (g v)) := HA.out.dig (by omega)
                have fv := HA.out.free v
                have hd1 := (hb.out.1.2.2.2.2.1 r (Nat.le_refl _) hr).1
                have hd2 := (hb.out.1.2.2.2.2.1 r (Nat.le_refl _) hr).2
                simp only at hd1 hd2
                obtain ⟨q, hqn, hq9, hqe⟩ : ∃ q : Nat, (n : Int) / 2 ^ k = (q : Int) ∧ q ≤ 9 ∧ Hid (n / 2 ^ k = q) := ⟨n / 2 ^ k, by simp, quo_lt hb.out.1.2.2.2.1, Lib.hid rfl⟩
                obtain ⟨m, hmn, hmb, hme⟩ : ∃ m : Nat, bits BinOp.and IntKind.u64 (n : Int) (IntKind.u64.wrap (IntKind.u64.wrap (2 ^ k) - 1)) = (m : Int) ∧ m < 1152921504606846976 ∧ Hid (n % 2 ^ k = m) :=
                  ⟨n % 2 ^ k, mask_and hk0 hk1 (by omega), by have := Nat.mod_lt n (Nat.two_pow_pos k); omega, Lib.hid rfl⟩
                have hp : Hid (P2 nd k (right1 f nd k).2 (r + 1, v + 1, m * 10 + (g r - 48), upd g v (q + 48)) ∧ runs (step2 nd k) (fu - 1) (r + 1, v + 1, m * 10 + (g r - 48), upd g v (q + 48)) = right2 f nd k) := Lib.hid ⟨by
                  have := hb.out.1.step hnd hr
                  rw [hqe.out, hme.out] at this
                  exact this, by
                  have h1 := hb.out.2.1
                  have h2 := hb.out.2.2.1
                  obtain ⟨u, rfl⟩ : ∃ u, fu = u + 1 := ⟨fu - 1, by omega⟩
                  rw [runs_some (s' := (r + 1, v + 1, m * 10 + (g r - 48), upd g v (q + 48))) (by simp only [step2]; rw [if_pos hr, hqe.out, hme.out])] at h1
                  exact h1⟩
                go_wp2_with fail
                refine ⟨⟨r + 1, v + 1, m * 10 + (g r - 48), fu - 1, upd g v (q + 48), by simp, by simp, by congr 1; omega, Lib.hid ⟨hp.out.1, hp.out.2, by have := hb.out.2.2.1; omega, ?_, gr_put hb.out.2.2.2.2 _ _⟩⟩, by simp [intOf]; omega⟩
                have := HA.out.setDig (i := v) (by omega) (q + 48)
                rw [show ((q + 48 : Nat) : Int) = (q : Int) + 48 by simp] at this
                rw [hdp'.out]
                exact this
              · have he2 : Hid (right2 f nd k = (r, v, n, g)) := Lib.hid (by
                  rw [← hb.out.2.1]
                  exact runs_none (by simp only [step2]; rw [if_neg (by omega)]) _)
                have HE : Hid (P3 k (right1 f nd k).2 (v, n, g, tr) ∧ runs (step3 k) 70 (v, n, g, tr) = right3 f nd k tr ∧ go70 k n ≤ 70 ∧ DecAt wr D ⟨g, nd, dp', tr⟩ ∧ w.grownBy wr (some D)) := Lib.hid ⟨by
                  obtain ⟨_, _, c, d, _, g', i, j⟩ := hb.out.1
                  exact ⟨hv, d, g', i, j⟩, by unfold right3; rw [he2.out], by have := go70_le (n := n) hk1; omega, HA.out, hb.out.2.2.2.2⟩
                clear he2 hb
                go_wp2_with fail
                go_loopw [5, 6] (fun t5 t6 wr => ∃ (v n fu : Nat) (g : Nat → Nat) (tr' : Bool), t5 = .int .i64 v ∧ t6 = .int .u64 n ∧ Hid (P3 k (right1 f nd k).2 (v, n, g, tr') ∧ runs (step3 k) fu (v, n, g, tr') = right3 f nd k tr ∧ go70 k n ≤ fu ∧ DecAt wr D ⟨g, nd, dp', tr'⟩ ∧ w.grownBy wr (some D))) (fun _ t6 _ => go70 k (intOf t6).toNat)
                case atStart => exact ⟨v, n, 70, g, tr, rfl, rfl, HE.out⟩
                case round =>
                  clear HA k8 HE
                  obtain ⟨v, n, fu, g, tr', rfl, rfl, hb⟩ := hrel
                  have HA := Lib.hid hb.out.2.2.2.1
                  have k8 : wr.cell? ⟨D, 800, none⟩ = some (.int .i64 nd) := HA.out.nd
                  have k11 : wr.cell? ⟨D, 803, none⟩ = some (.bool tr') := HA.out.tr
                  have f8 := HA.out.free 800
                  have f11 := HA.out.free 803
                  have hbd := hb.out.1
                  have hv : v ≤ 800 := hbd.1
                  have hnb : n < 11529215046068469760 := by have := hbd.2.1; simp only at this; have := hN.2; omega
                  clear hbd
                  rcases Nat.eq_zero_or_pos n with hn0 | hn0
                  · subst hn0
                    have he3 : Hid (right3 f nd k tr = (v, 0, g, tr')) := Lib.hid (by
                      rw [← hb.out.2.1]
                      exact runs_none (by simp [step3]) _)
                    have hS : rightS ⟨f, nd, dp, tr⟩ k = trimS ⟨g, v, dp', tr'⟩ := by
                      unfold rightS
                      simp only
                      rw [he3.out, hdp'.out]
                    have HS := Lib.hid hS
                    clear hS
                    go_wp2_with fail
                    refine (trim_any ⟨g, v, dp', tr'⟩ hv _ _ (HA.out.setNd v)).mono ?_
                    rintro e w2 ⟨rfl, hd2, hg2⟩
                    have HF : Hid (DecAt w2 D (rightS ⟨f, nd, dp, tr⟩ k) ∧ w.grownBy w2 (some D)) := Lib.hid ⟨by rw [HS.out]; exact hd2, gr_trans (gr_put hb.out.2.2.2.2 _ _) hg2⟩
                    clear hd2 hg2 HA k8 k11 f8 f11
                    go_wp2_with fail
                    go_returns
                    exact ⟨rfl, HF.out⟩
                  · have hlt : (0 : Int) < (n : Int) := by omega
                    have hless := Lib.hid (go70_less (k := k) hk1 (show n ≠ 0 by omega))
                    obtain ⟨q, hqn, hq9, hqe⟩ : ∃ q : Nat, (n : Int) / 2 ^ k = (q : Int) ∧ q ≤ 9 ∧ Hid (n / 2 ^ k = q) := ⟨n / 2 ^ k, by simp, quo_lt hb.out.1.2.1, Lib.hid rfl⟩
                    obtain ⟨m, hmn, hmb, hme⟩ : ∃ m : Nat, bits BinOp.and IntKind.u64 (n : Int) (IntKind.u64.wrap (IntKind.u64.wrap (2 ^ k) - 1)) = (m : Int) ∧ m < 1152921504606846976 ∧ Hid (n % 2 ^ k = m) :=
                      ⟨n % 2 ^ k, mask_and hk0 hk1 (by omega), by have := Nat.mod_lt n (Nat.two_pow_pos k); omega, Lib.hid rfl⟩
                    have hless2 : Hid (go70 k (m * 10) < go70 k n) := Lib.hid (by rw [← hme.out]; exact hless.out)
                    rcases Nat.lt_or_ge v 800 with hv8 | hv8
                    · have kv : wr.cell? ⟨D, v, none⟩ = some (.int .u8 (g v)) := HA.out.dig (by omega)
                      have fv := HA.out.free v
                      have hp : Hid (P3 k (right1 f nd k).2 (v + 1, m * 10, upd g v (q + 48), tr') ∧ runs (step3 k) (fu - 1) (v + 1, m * 10, upd g v (q + 48), tr') = right3 f nd k tr) := Lib.hid ⟨by
                        have := hb.out.1.step hv8
                        rw [hqe.out, hme.out] at this
                        exact this, by
                        have h1 := hb.out.2.1
                        have h2 := hb.out.2.2.1
                        have h3 := hless2.out
                        obtain ⟨u, rfl⟩ : ∃ u, fu = u + 1 := ⟨fu - 1, by omega⟩
                        rw [runs_some (s' := (v + 1, m * 10, upd g v (q + 48), tr')) (by simp only [step3]; rw [if_neg (by omega), if_pos hv8, hqe.out, hme.out])] at h1
                        exact h1⟩
                      go_wp2_with fail
                      refine ⟨⟨v + 1, m * 10, fu - 1, upd g v (q + 48), tr', by simp, by simp, Lib.hid ⟨hp.out.1, hp.out.2, by have := hless2.out; have := hb.out.2.2.1; omega, ?_, gr_put hb.out.2.2.2.2 _ _⟩⟩, ?_⟩
                      · have := HA.out.setDig hv8 (q + 48)
                        exact this
                      · have := hless2.out
                        have e9 : ((m : Int) * 10).toNat = m * 10 := by omega
                        simpa [intOf, e9] using this
                    · rcases Nat.eq_zero_or_pos q with hq0 | hq0
                      · subst hq0
                        have hp : Hid (P3 k (right1 f nd k).2 (v, m * 10, g, tr') ∧ runs (step3 k) (fu - 1) (v, m * 10, g, tr') = right3 f nd k tr) := Lib.hid ⟨by
                          have := hb.out.1.far (tr' := tr') (by omega)
                          rw [hme.out] at this
                          exact this, by
                          have h1 := hb.out.2.1
                          have h2 := hb.out.2.2.1
                          have h3 := hless2.out
                          obtain ⟨u, rfl⟩ : ∃ u, fu = u + 1 := ⟨fu - 1, by omega⟩
                          rw [runs_some (s' := (v, m * 10, g, tr')) (by simp only [step3]; rw [if_neg (by omega), if_neg (by omega), hqe.out, hme.out, if_pos rfl])] at h1
                          exact h1⟩
                        go_wp2_with fail
                        refine ⟨⟨v, m * 10, fu - 1, g, tr', by simp, by simp, Lib.hid ⟨hp.out.1, hp.out.2, by have := hless2.out; have := hb.out.2.2.1; omega, HA.out, hb.out.2.2.2.2⟩⟩, ?_⟩
                        have := hless2.out
                        have e9 : ((m : Int) * 10).toNat = m * 10 := by omega
                        simpa [intOf, e9] using this
                      · have hq0' : (0 : Int) < (q : Int) := by omega
                        have hp : Hid (P3 k (right1 f nd k).2 (v, m * 10, g, true) ∧ runs (step3 k) (fu - 1) (v, m * 10, g, true) = right3 f nd k tr) := Lib.hid ⟨by
                          have := hb.out.1.far (tr' := true) (by omega)
                          rw [hme.out] at this
                          exact this, by
                          have h1 := hb.out.2.1
                          have h2 := hb.out.2.2.1
                          have h3 := hless2.out
                          obtain ⟨u, rfl⟩ : ∃ u, fu = u + 1 := ⟨fu - 1, by omega⟩
                          rw [runs_some (s' := (v, m * 10, g, true)) (by simp only [step3]; rw [if_neg (by omega), if_neg (by omega), hqe.out, hme.out, if_neg (by omega)])] at h1
                          exact h1⟩
                        go_wp2_with fail
                        refine ⟨⟨v, m * 10, fu - 1, g, true, by simp, by simp, Lib.hid ⟨hp.out.1, hp.out.2, by have := hless2.out; have := hb.out.2.2.1; omega, HA.out.setTr true, gr_put hb.out.2.2.2.2 _ _⟩⟩, ?_⟩
                        have := hless2.out
                        have e9 : ((m : Int) * 10).toNat = m * 10 := by omega
                        simpa [intOf, e9] using this

    · have hq' : ((n : Int) / 2 ^ k == 0) = false := by
        have : (n : Int) / 2 ^ k = ((n / 2 ^ k : Nat) : Int) := by simp
        rw [this]
        generalize n / 2 ^ k = q at hq
        simp; omega
      have he : Hid (right1 f nd k = (r, n)) := Lib.hid (by
        rw [← hb.out.2.1]
        exact runs_none (by simp [step1, hq]) _)
      have hb0 := hb.out.1
      have hr1 : 1 ≤ r := by
        rcases Nat.eq_zero_or_pos r with h | h
        · exact absurd (show n / 2 ^ k = 0 by have hn0 : n = 0 := hb0.2.1 h; rw [hn0]; simp) hq
        · exact h
      have hnz : Hid (n < 10 * 2 ^ k ∧ 2 ^ k ≤ n) := Lib.hid ⟨hb0.1, by
        rcases Nat.lt_or_ge n (2 ^ k) with h | h
        · exact absurd (Nat.div_eq_of_lt h) hq
        · exact h⟩
      clear hb0 hq
      have hA2 := Lib.hid (HA.out.setDp (dp - ((r : Int) - 1)))
      have hG2 : Hid (w.grownBy (wr.setCell ⟨D, 801, none⟩ (.int .i64 (dp - ((r : Int) - 1)))) (some D)) := Lib.hid (gr_put (gr_below hb.out.2.2.2 _) _ _)
      go_wp2_with fail
      go_loopw [4, 5, 6] (fun t4 t5 t6 wr => ∃ (r v n fu : Nat) (g : Nat → Nat), t4 = .int .i64 r ∧ t5 = .int .i64 v ∧ t6 = .int .u64 n ∧ Hid (P2 nd k (right1 f nd k).2 (r, v, n, g) ∧ runs (step2 nd k) fu (r, v, n, g) = right2 f nd k ∧ nd - r ≤ fu ∧ DecAt wr D ⟨g, nd, dp - (((right1 f nd k).1 : Int) - 1), tr⟩ ∧ w.grownBy wr (some D))) (fun t4 _ _ _ => nd - (intOf t4).toNat)
      case atStart =>
        refine ⟨r, 0, n, nd, f, rfl, rfl, rfl, Lib.hid ⟨?_, ?_, by omega, ?_, hG2.out⟩⟩
        · rw [he.out]
          exact ⟨by simp only; omega, by simp only; omega, Nat.zero_le _, hnz.out.1, fun i _ h => HD.out i h, fun i h => absurd h (Nat.not_lt_zero _), fun _ => rfl, fun h => absurd h (by simp)⟩
        · unfold right2
          rw [he.out]
        · rw [he.out]
          exact hA2.out
      case round =>
        clear hb HA k8 k9 f9 hs1 hs2 hq' he hr1 hnz hA2 hG2
        obtain ⟨r, v, n, fu, g, rfl, rfl, rfl, hb⟩ := hrel
        obtain ⟨dp', hdp'⟩ : ∃ dp', Hid (dp - (((right1 f nd k).1 : Int) - 1) = dp') := ⟨_, Lib.hid rfl⟩
        rw [hdp'.out] at hb
        have HA := Lib.hid hb.out.2.2.2.1
        have k8 : wr.cell? ⟨D, 800, none⟩ = some (.int .i64 nd) := HA.out.nd
        have hbd := hb.out.1
        have hv : v ≤ 800 := by have := hbd.2.2.1; simp only at this; omega
        have hvr : v < r := hbd.1
        have hrb : r ≤ 1000 := hbd.2.1
        have hnb : n < 11529215046068469760 := by have := hbd.2.2.2.1; simp only at this; have := hN.2; omega
        clear hbd
        rcases Nat.lt_or_ge r nd with hr | hr
        · have kd : wr.cell? ⟨D, r, none⟩ = some (.int .u8 (g r)) := HA.out.dig (by omega)
          have kv : wr.cell? ⟨D, v, none⟩ = some (.int .u8 (g v)) := HA.out.dig (by omega)
          have fv := HA.out.free v
          have hd1 := (hb.out.1.2.2.2.2.1 r (Nat.le_refl _) hr).1
          have hd2 := (hb.out.1.2.2.2.2.1 r (Nat.le_refl _) hr).2
          simp only at hd1 hd2
          obtain ⟨q, hqn, hq9, hqe⟩ : ∃ q : Nat, (n : Int) / 2 ^ k = (q : Int) ∧ q ≤ 9 ∧ Hid (n / 2 ^ k = q) := ⟨n / 2 ^ k, by simp, quo_lt hb.out.1.2.2.2.1, Lib.hid rfl⟩
          obtain ⟨m, hmn, hmb, hme⟩ : ∃ m : Nat, bits BinOp.and IntKind.u64 (n : Int) (IntKind.u64.wrap (IntKind.u64.wrap (2 ^ k) - 1)) = (m : Int) ∧ m < 1152921504606846976 ∧ Hid (n % 2 ^ k = m) :=
            ⟨n % 2 ^ k, mask_and hk0 hk1 (by omega), by have := Nat.mod_lt n (Nat.two_pow_pos k); omega, Lib.hid rfl⟩
          have hp : Hid (P2 nd k (right1 f nd k).2 (r + 1, v + 1, m * 10 + (g r - 48), upd g v (q + 48)) ∧ runs (step2 nd k) (fu - 1) (r + 1, v + 1, m * 10 + (g r - 48), upd g v (q + 48)) = right2 f nd k) := Lib.hid ⟨by
            have := hb.out.1.step hnd hr
            rw [hqe.out, hme.out] at this
            exact this, by
            have h1 := hb.out.2.1
            have h2 := hb.out.2.2.1
            obtain ⟨u, rfl⟩ : ∃ u, fu = u + 1 := ⟨fu - 1, by omega⟩
            rw [runs_some (s' := (r + 1, v + 1, m * 10 + (g r - 48), upd g v (q + 48))) (by simp only [step2]; rw [if_pos hr, hqe.out, hme.out])] at h1
            exact h1⟩
          go_wp2_with fail
          refine ⟨⟨r + 1, v + 1, m * 10 + (g r - 48), fu - 1, upd g v (q + 48), by simp, by simp, by congr 1; omega, Lib.hid ⟨hp.out.1, hp.out.2, by have := hb.out.2.2.1; omega, ?_, gr_put hb.out.2.2.2.2 _ _⟩⟩, by simp [intOf]; omega⟩
          have := HA.out.setDig (i := v) (by omega) (q + 48)
          rw [show ((q + 48 : Nat) : Int) = (q : Int) + 48 by simp] at this
          rw [hdp'.out]
          exact this
        · have he2 : Hid (right2 f nd k = (r, v, n, g)) := Lib.hid (by
            rw [← hb.out.2.1]
            exact runs_none (by simp only [step2]; rw [if_neg (by omega)]) _)
          have HE : Hid (P3 k (right1 f nd k).2 (v, n, g, tr) ∧ runs (step3 k) 70 (v, n, g, tr) = right3 f nd k tr ∧ go70 k n ≤ 70 ∧ DecAt wr D ⟨g, nd, dp', tr⟩ ∧ w.grownBy wr (some D)) := Lib.hid ⟨by
            obtain ⟨_, _, c, d, _, g', i, j⟩ := hb.out.1
            exact ⟨hv, d, g', i, j⟩, by unfold right3; rw [he2.out], by have := go70_le (n := n) hk1; omega, HA.out, hb.out.2.2.2.2⟩
          clear he2 hb
          go_wp2_with fail
          go_loopw [5, 6] (fun t5 t6 wr => ∃ (v n fu : Nat) (g : Nat → Nat) (tr' : Bool), t5 = .int .i64 v ∧ t6 = .int .u64 n ∧ Hid (P3 k (right1 f nd k).2 (v, n, g, tr') ∧ runs (step3 k) fu (v, n, g, tr') = right3 f nd k tr ∧ go70 k n ≤ fu ∧ DecAt wr D ⟨g, nd, dp', tr'⟩ ∧ w.grownBy wr (some D))) (fun _ t6 _ => go70 k (intOf t6).toNat)
          case atStart => exact ⟨v, n, 70, g, tr, rfl, rfl, HE.out⟩
          case round =>
            clear HA k8 HE
            obtain ⟨v, n, fu, g, tr', rfl, rfl, hb⟩ := hrel
            have HA := Lib.hid hb.out.2.2.2.1
            have k8 : wr.cell? ⟨D, 800, none⟩ = some (.int .i64 nd) := HA.out.nd
            have k11 : wr.cell? ⟨D, 803, none⟩ = some (.bool tr') := HA.out.tr
            have f8 := HA.out.free 800
            have f11 := HA.out.free 803
            have hbd := hb.out.1
            have hv : v ≤ 800 := hbd.1
            have hnb : n < 11529215046068469760 := by have := hbd.2.1; simp only at this; have := hN.2; omega
            clear hbd
            rcases Nat.eq_zero_or_pos n with hn0 | hn0
            · subst hn0
              have he3 : Hid (right3 f nd k tr = (v, 0, g, tr')) := Lib.hid (by
                rw [← hb.out.2.1]
                exact runs_none (by simp [step3]) _)
              have hS : rightS ⟨f, nd, dp, tr⟩ k = trimS ⟨g, v, dp', tr'⟩ := by
                unfold rightS
                simp only
                rw [he3.out, hdp'.out]
              have HS := Lib.hid hS
              clear hS
              go_wp2_with fail
              refine (trim_any ⟨g, v, dp', tr'⟩ hv _ _ (HA.out.setNd v)).mono ?_
              rintro e w2 ⟨rfl, hd2, hg2⟩
              have HF : Hid (DecAt w2 D (rightS ⟨f, nd, dp, tr⟩ k) ∧ w.grownBy w2 (some D)) := Lib.hid ⟨by rw [HS.out]; exact hd2, gr_trans (gr_put hb.out.2.2.2.2 _ _) hg2⟩
              clear hd2 hg2 HA k8 k11 f8 f11
              go_wp2_with fail
              go_returns
              exact ⟨rfl, HF.out⟩
            · have hlt : (0 : Int) < (n : Int) := by omega
              have hless := Lib.hid (go70_less (k := k) hk1 (show n ≠ 0 by omega))
              obtain ⟨q, hqn, hq9, hqe⟩ : ∃ q : Nat, (n : Int) / 2 ^ k = (q : Int) ∧ q ≤ 9 ∧ Hid (n / 2 ^ k = q) := ⟨n / 2 ^ k, by simp, quo_lt hb.out.1.2.1, Lib.hid rfl⟩
              obtain ⟨m, hmn, hmb, hme⟩ : ∃ m : Nat, bits BinOp.and IntKind.u64 (n : Int) (IntKind.u64.wrap (IntKind.u64.wrap (2 ^ k) - 1)) = (m : Int) ∧ m < 1152921504606846976 ∧ Hid (n % 2 ^ k = m) :=
                ⟨n % 2 ^ k, mask_and hk0 hk1 (by omega), by have := Nat.mod_lt n (Nat.two_pow_pos k); omega, Lib.hid rfl⟩
              have hless2 : Hid (go70 k (m * 10) < go70 k n) := Lib.hid (by rw [← hme.out]; exact hless.out)
              rcases Nat.lt_or_ge v 800 with hv8 | hv8
              · have kv : wr.cell? ⟨D, v, none⟩ = some (.int .u8 (g v)) := HA.out.dig (by omega)
                have fv := HA.out.free v
                have hp : Hid (P3 k (right1 f nd k).2 (v + 1, m * 10, upd g v (q + 48), tr') ∧ runs (step3 k) (fu - 1) (v + 1, m * 10, upd g v (q + 48), tr') = right3 f nd k tr) := Lib.hid ⟨by
                  have := hb.out.1.step hv8
                  rw [hqe.out, hme.out] at this
                  exact this, by
                  have h1 := hb.out.2.1
                  have h2 := hb.out.2.2.1
                  have h3 := hless2.out
                  obtain ⟨u, rfl⟩ : ∃ u, fu = u + 1 := ⟨fu - 1, by omega⟩
                  rw [runs_some (s' := (v + 1, m * 10, upd g v (q + 48), tr')) (by simp only [step3]; rw [if_neg (by omega), if_pos hv8, hqe.out, hme.out])] at h1
                  exact h1⟩
                go_wp2_with fail
                refine ⟨⟨v + 1, m * 10, fu - 1, upd g v (q + 48), tr', by simp, by simp, Lib.hid ⟨hp.out.1, hp.out.2, by have := hless2.out; have := hb.out.2.2.1; omega, ?_, gr_put hb.out.2.2.2.2 _ _⟩⟩, ?_⟩
                · have := HA.out.setDig hv8 (q + 48)
                  exact this
                · have := hless2.out
                  have e9 : ((m : Int) * 10).toNat = m * 10 := by omega
                  simpa [intOf, e9] using this
              · rcases Nat.eq_zero_or_pos q with hq0 | hq0
                · subst hq0
                  have hp : Hid (P3 k (right1 f nd k).2 (v, m * 10, g, tr') ∧ runs (step3 k) (fu - 1) (v, m * 10, g, tr') = right3 f nd k tr) := Lib.hid ⟨by
                    have := hb.out.1.far (tr' := tr') (by omega)
                    rw [hme.out] at this
                    exact this, by
                    have h1 := hb.out.2.1
                    have h2 := hb.out.2.2.1
                    have h3 := hless2.out
                    obtain ⟨u, rfl⟩ : ∃ u, fu = u + 1 := ⟨fu - 1, by omega⟩
                    rw [runs_some (s' := (v, m * 10, g, tr')) (by simp only [step3]; rw [if_neg (by omega), if_neg (by omega), hqe.out, hme.out, if_pos rfl])] at h1
                    exact h1⟩
                  go_wp2_with fail
                  refine ⟨⟨v, m * 10, fu - 1, g, tr', by simp, by simp, Lib.hid ⟨hp.out.1, hp.out.2, by have := hless2.out; have := hb.out.2.2.1; omega, HA.out, hb.out.2.2.2.2⟩⟩, ?_⟩
                  have := hless2.out
                  have e9 : ((m : Int) * 10).toNat = m * 10 := by omega
                  simpa [intOf, e9] using this
                · have hq0' : (0 : Int) < (q : Int) := by omega
                  have hp : Hid (P3 k (right1 f nd k).2 (v, m * 10, g, true) ∧ runs (step3 k) (fu - 1) (v, m * 10, g, true) = right3 f nd k tr) := Lib.hid ⟨by
                    have := hb.out.1.far (tr' := true) (by omega)
                    rw [hme.out] at this
                    exact this, by
                    have h1 := hb.out.2.1
                    have h2 := hb.out.2.2.1
                    have h3 := hless2.out
                    obtain ⟨u, rfl⟩ : ∃ u, fu = u + 1 := ⟨fu - 1, by omega⟩
                    rw [runs_some (s' := (v, m * 10, g, true)) (by simp only [step3]; rw [if_neg (by omega), if_neg (by omega), hqe.out, hme.out, if_neg (by omega)])] at h1
                    exact h1⟩
                  go_wp2_with fail
                  refine ⟨⟨v, m * 10, fu - 1, g, true, by simp, by simp, Lib.hid ⟨hp.out.1, hp.out.2, by have := hless2.out; have := hb.out.2.2.1; omega, HA.out.setTr true, gr_put hb.out.2.2.2.2 _ _⟩⟩, ?_⟩
                  have := hless2.out
                  have e9 : ((m : Int) * 10).toNat = m * 10 := by omega
                  simpa [intOf, e9] using this

end Go.Proofs.YtdkhedefcmjjgaaGreatDoor
/- What rightShift leaves: digits, the first of them not 0, the point not behind where it was.
Conditions: none; plain Lean. -/
namespace Go.Proofs.YtdkhedefcmjjgaaGreatDoor
open Go.RowKit Sp
set_option linter.unusedSimpArgs false
set_option linter.unusedVariables false
/-- A decimal that is not nought. -/
def Good (S : Ds) : Prop := Digs S ∧ 1 ≤ S.nd ∧ S.f 0 ≠ 48
theorem trimN_le (f : Nat → Nat) : ∀ n, trimN f n ≤ n
  | 0 => Nat.le_refl _
  | n + 1 => by
    simp only [trimN]
    split
    · exact Nat.le_succ_of_le (trimN_le f n)
    · exact Nat.le_refl _
theorem trimN_pos (f : Nat → Nat) (h0 : f 0 ≠ 48) : ∀ n, 1 ≤ n → 1 ≤ trimN f n
  | 0, h => by omega
  | n + 1, _ => by
    simp only [trimN]
    split
    · rename_i h
      cases n with
      | zero => exact absurd h h0
      | succ n => exact trimN_pos f h0 (n + 1) (by omega)
    · omega
theorem trim_good {f : Nat → Nat} {n : Nat} {dp : Int} {tr : Bool} (hn : 1 ≤ n) (hn8 : n ≤ 800) (h0 : f 0 ≠ 48) (hd : ∀ i, i < n → 48 ≤ f i ∧ f i ≤ 57) : Good (trimS ⟨f, n, dp, tr⟩) ∧ (trimS ⟨f, n, dp, tr⟩).dp = dp ∧ (trimS ⟨f, n, dp, tr⟩).f = f := by
  have h1 := trimN_pos f h0 n hn
  have h2 := trimN_le f n
  refine ⟨⟨⟨by simp only [trimS]; omega, fun i hi => ?_⟩, by simpa [trimS] using h1, h0⟩, ?_, rfl⟩
  · simp only [trimS] at hi ⊢
    exact hd i (by omega)
  · simp only [trimS]
    rw [if_neg (by omega)]
theorem right1_props {f : Nat → Nat} {nd k : Nat} (hdig : ∀ i, i < nd → 48 ≤ f i ∧ f i ≤ 57) (hk0 : 1 ≤ k) (hk1 : k ≤ 60) (h0 : f 0 ≠ 48) (hn : 1 ≤ nd) :
    P1 nd k (right1 f nd k) ∧ (right1 f nd k).2 / 2 ^ k ≠ 0 ∧ 1 ≤ (right1 f nd k).1 ∧ ((right1 f nd k).1 = 1 → (right1 f nd k).2 = f 0 - 48) := by
  have hstart : P1 nd k (0, 0) := ⟨by have := Nat.two_pow_pos k; simp only; omega, fun _ => rfl, fun h => by simp at h⟩
  have hst : ∀ s s', P1 nd k s → step1 f nd k s = some s' → P1 nd k s' ∧ 2 ^ k - s'.2 < 2 ^ k - s.2 := by
    intro s s' hP hs
    obtain ⟨r, n⟩ := s
    simp only [step1] at hs
    split at hs
    · rename_i hq
      cases hs
      exact hP.step hdig h0 hn hq
    · cases hs
  have hP : P1 nd k (right1 f nd k) := runs_inv (fun s s' h hs => (hst s s' h hs).1) _ _ hstart
  have hE : step1 f nd k (right1 f nd k) = none := runs_end (m := fun s => 2 ^ k - s.2) hst _ _ hstart (by simp)
  have hQ : ((right1 f nd k).1 = 0 → (right1 f nd k).2 = 0) ∧ ((right1 f nd k).1 = 1 → (right1 f nd k).2 = f 0 - 48) := by
    refine runs_inv (P := fun s : Nat × Nat => (s.1 = 0 → s.2 = 0) ∧ (s.1 = 1 → s.2 = f 0 - 48)) (fun s s' h hs => ?_) _ _ ⟨fun _ => rfl, fun h => by simp at h⟩
    obtain ⟨r, n⟩ := s
    simp only [step1] at hs
    split at hs
    · cases hs
      refine ⟨fun h => by simp at h, fun h1 => ?_⟩
      have hr : r = 0 := by simpa using h1
      subst hr
      have hn0 : n = 0 := h.1 rfl
      subst hn0
      simp only [Nat.zero_mul, Nat.zero_add]
      rw [if_pos (by omega)]
    · cases hs
  have hq : (right1 f nd k).2 / 2 ^ k ≠ 0 := by
    intro h
    simp only [step1] at hE
    rw [if_pos h] at hE
    cases hE
  refine ⟨hP, hq, ?_, hQ.2⟩
  rcases Nat.eq_zero_or_pos (right1 f nd k).1 with h | h
  · rw [hQ.1 h] at hq
    simp at hq
  · exact h
theorem right2_props {f : Nat → Nat} {nd k : Nat} (hnd : nd ≤ 800) (hdig : ∀ i, i < nd → 48 ≤ f i ∧ f i ≤ 57) (hk0 : 1 ≤ k) (hk1 : k ≤ 60) (h0 : f 0 ≠ 48) (hn : 1 ≤ nd) : P2 nd k (right1 f nd k).2 (right2 f nd k) := by
  obtain ⟨hP, hq, hr, _⟩ := right1_props hdig hk0 hk1 h0 hn
  have hs := P1.small (nd := nd) (r := (right1 f nd k).1) (n := (right1 f nd k).2) hk1 hP
  refine runs_inv (fun s s' h hs => ?_) _ _ ?_
  · obtain ⟨r, v, n, g⟩ := s
    simp only [step2] at hs
    split at hs
    · rename_i hr
      cases hs
      exact h.step hnd hr
    · cases hs
  · exact ⟨by simp only; omega, by simp only; omega, Nat.zero_le _, hP.1, fun i _ h => hdig i h, fun i h => absurd h (Nat.not_lt_zero _), fun _ => rfl, fun h => absurd h (by simp)⟩
theorem right3_props {f : Nat → Nat} {nd k : Nat} {tr : Bool} (hnd : nd ≤ 800) (hdig : ∀ i, i < nd → 48 ≤ f i ∧ f i ≤ 57) (hk0 : 1 ≤ k) (hk1 : k ≤ 60) (h0 : f 0 ≠ 48) (hn : 1 ≤ nd) :
    P3 k (right1 f nd k).2 (right3 f nd k tr) ∧ 1 ≤ (right3 f nd k tr).1 := by
  obtain ⟨hP, hq, hr, _⟩ := right1_props hdig hk0 hk1 h0 hn
  have hstart : P3 k (right1 f nd k).2 ((right2 f nd k).2.1, (right2 f nd k).2.2.1, (right2 f nd k).2.2.2, tr) := by
    obtain ⟨_, _, c, d, _, g', i, j⟩ := right2_props hnd hdig hk0 hk1 h0 hn
    exact ⟨by simp only; omega, d, g', i, j⟩
  have hst : ∀ s s', P3 k (right1 f nd k).2 s → step3 k s = some s' → P3 k (right1 f nd k).2 s' ∧ go70 k s'.2.1 < go70 k s.2.1 := by
    intro s s' h hs
    obtain ⟨v, n, g, t⟩ := s
    simp only [step3] at hs
    split at hs
    · cases hs
    · rename_i hn0
      split at hs
      · rename_i hv
        cases hs
        exact ⟨h.step hv, go70_less hk1 hn0⟩
      · rename_i hv
        cases hs
        exact ⟨h.far hv, go70_less hk1 hn0⟩
  have hP3 : P3 k (right1 f nd k).2 (right3 f nd k tr) := runs_inv (fun s s' h hs => (hst s s' h hs).1) _ _ hstart
  have hE : step3 k (right3 f nd k tr) = none := runs_end (m := fun s => go70 k s.2.1) hst _ _ hstart (by have := go70_le (k := k) (n := (right2 f nd k).2.2.1) hk1; simp only; omega)
  refine ⟨hP3, ?_⟩
  have hz : (right3 f nd k tr).2.1 = 0 := by
    rcases Nat.eq_zero_or_pos (right3 f nd k tr).2.1 with h | h
    · exact h
    · simp only [step3] at hE
      rw [if_neg (by omega)] at hE
      split at hE <;> cases hE
  rcases Nat.eq_zero_or_pos (right3 f nd k tr).1 with h | h
  · have := hP3.2.2.2.1 h
    rw [hz] at this
    rw [← this] at hq
    simp at hq
  · exact h
/-- What a shift to the right leaves. -/
theorem right_good {S : Ds} (hS : Good S) {k : Nat} (hk0 : 1 ≤ k) (hk1 : k ≤ 60) : Good (rightS S k) ∧ (rightS S k).dp ≤ S.dp ∧ S.dp - 64 ≤ (rightS S k).dp ∧ ((rightS S k).dp < S.dp ∨ (rightS S k).f 0 < S.f 0) := by
  obtain ⟨f, nd, dp, tr⟩ := S
  obtain ⟨⟨hnd, hdig⟩, hn, h0⟩ := hS
  simp only at hnd hdig hn h0
  obtain ⟨hP, hq, hr, h1⟩ := right1_props hdig hk0 hk1 h0 hn
  obtain ⟨⟨a, b, c, d, e⟩, hv⟩ := right3_props (tr := tr) hnd hdig hk0 hk1 h0 hn
  have hs := P1.small (nd := nd) (r := (right1 f nd k).1) (n := (right1 f nd k).2) hk1 hP
  have hf := e hv
  have hne : (right3 f nd k tr).2.2.1 0 ≠ 48 := by
    rw [hf]
    exact fun h => hq (Nat.add_right_cancel (h.trans (Nat.zero_add 48).symm))
  obtain ⟨hg, hdp, hff⟩ := trim_good (dp := dp - ((right1 f nd k).1 - 1 : Int)) (tr := (right3 f nd k tr).2.2.2) hv a hne c
  have eS : rightS ⟨f, nd, dp, tr⟩ k = trimS ⟨(right3 f nd k tr).2.2.1, (right3 f nd k tr).1, dp - ((right1 f nd k).1 - 1 : Int), (right3 f nd k tr).2.2.2⟩ := rfl
  rw [eS, hdp, hff]
  refine ⟨hg, by simp only; omega, by simp only; omega, ?_⟩
  rcases Nat.lt_or_ge 1 (right1 f nd k).1 with h | h
  · exact .inl (by simp only; omega)
  · have hr1 : (right1 f nd k).1 = 1 := by omega
    refine .inr ?_
    simp only
    rw [hf, h1 hr1]
    have hd0 := hdig 0 (by omega)
    have h2 : 2 ≤ 2 ^ k := (two_le hk0 hk1).1
    have h3 : (f 0 - 48) / 2 ^ k < f 0 - 48 := Nat.div_lt_self (by omega) (by omega)
    omega
end Go.Proofs.YtdkhedefcmjjgaaGreatDoor
/- The table of leftShift: how many digits more a shift to the left makes.
Conditions: none; plain Lean. -/
namespace Go.Proofs.YtdkhedefcmjjgaaGreatDoor
open Go.RowKit Sp
set_option linter.unusedSimpArgs false
set_option linter.unusedVariables false
/-- The number that m digits from the i-th on write. -/
def val (f : Nat → Nat) : Nat → Nat → Nat
  | _, 0 => 0
  | i, m + 1 => (f i - 48) * 10 ^ m + val f (i + 1) m
/-- The number that a text's digits write. -/
def cval : Bs → Nat
  | [] => 0
  | x :: r => (x.toNat - 48) * 10 ^ r.length + cval r
theorem val_lt {f : Nat → Nat} : ∀ (m i : Nat), (∀ j, i ≤ j → j < i + m → 48 ≤ f j ∧ f j ≤ 57) → val f i m < 10 ^ m
  | 0, i, h => by simp [val]
  | m + 1, i, h => by
    have h1 := h i (Nat.le_refl _) (by omega)
    have h2 := val_lt (f := f) m (i + 1) (fun j a b => h j (by omega) (by omega))
    have h3 : (f i - 48) * 10 ^ m ≤ 9 * 10 ^ m := Nat.mul_le_mul_right _ (by omega)
    simp only [val, Nat.pow_succ]
    omega
def OkC (c : Bs) : Prop := ∀ x ∈ c, 48 ≤ x.toNat ∧ x.toNat ≤ 57
theorem cval_lt : ∀ (c : Bs), OkC c → cval c < 10 ^ c.length
  | [], _ => by simp [cval]
  | x :: r, h => by
    have h1 := h x (by simp)
    have h2 := cval_lt r (fun y hy => h y (by simp [hy]))
    have h3 : (x.toNat - 48) * 10 ^ r.length ≤ 9 * 10 ^ r.length := Nat.mul_le_mul_right _ (by omega)
    simp only [cval, List.length_cons, Nat.pow_succ]
    omega
/-- Each rest of the text but the empty one is more than nought. -/
def PosC : Bs → Prop
  | [] => True
  | x :: r => 0 < cval (x :: r) ∧ PosC r
theorem pre_val {f : Nat → Nat} {nd : Nat} (hd : ∀ i, i < nd → 48 ≤ f i ∧ f i ≤ 57) : ∀ (c : Bs) (i : Nat), i ≤ nd → OkC c → PosC c →
    (preL f nd c i = true → val f i (nd - i) * 10 ^ c.length < cval c * 10 ^ (nd - i)) ∧ (preL f nd c i = false → cval c * 10 ^ (nd - i) ≤ val f i (nd - i) * 10 ^ c.length)
  | [], i, hi, _, _ => by simp [preL, cval]
  | x :: r, i, hi, ho, hp => by
    simp only [preL]
    by_cases h1 : nd ≤ i
    · have e : nd - i = 0 := by omega
      rw [if_pos h1, e]
      simp only [val, Nat.zero_mul, Nat.pow_zero, Nat.mul_one]
      exact ⟨fun _ => hp.1, fun h => by simp at h⟩
    · rw [if_neg h1]
      obtain ⟨m, hm⟩ : ∃ m, nd - i = m + 1 := ⟨nd - i - 1, by omega⟩
      have hm' : nd - (i + 1) = m := by omega
      have hdi := hd i (by omega)
      have hx := ho x (by simp)
      have hv := val_lt (f := f) m (i + 1) (fun j a b => hd j (by omega))
      have hc := cval_lt r (fun y hy => ho y (by simp [hy]))
      have e2 : cval (x :: r) = (x.toNat - 48) * 10 ^ r.length + cval r := rfl
      rw [hm]
      simp only [val, e2, List.length_cons]
      generalize hV : val f (i + 1) m = V at *
      generalize hC : cval r = C at *
      have hpow : 10 ^ m * 10 ^ (r.length + 1) = 10 ^ r.length * 10 ^ (m + 1) := by
        rw [Nat.pow_succ, Nat.pow_succ, ← Nat.mul_assoc, ← Nat.mul_assoc, Nat.mul_comm (10 ^ m) (10 ^ r.length)]
      have hA : ((f i - 48) * 10 ^ m + V) * 10 ^ (r.length + 1) = (f i - 48) * (10 ^ r.length * 10 ^ (m + 1)) + V * 10 ^ r.length * 10 := by
        rw [Nat.add_mul, Nat.mul_assoc, hpow, Nat.mul_assoc V (10 ^ r.length) 10, ← Nat.pow_succ]
      have hB : ((x.toNat - 48) * 10 ^ r.length + C) * 10 ^ (m + 1) = (x.toNat - 48) * (10 ^ r.length * 10 ^ (m + 1)) + C * 10 ^ m * 10 := by
        rw [Nat.add_mul, Nat.mul_assoc, Nat.pow_succ, Nat.mul_assoc C]
      rw [hA, hB]
      have hVl : V * 10 ^ r.length * 10 < 10 ^ r.length * 10 ^ (m + 1) := by
        have h1 : V * 10 ^ r.length < 10 ^ m * 10 ^ r.length := Nat.mul_lt_mul_of_pos_right hv (Nat.pow_pos (by omega))
        have h2 : 10 ^ r.length * 10 ^ (m + 1) = 10 ^ m * 10 ^ r.length * 10 := by rw [Nat.pow_succ, ← Nat.mul_assoc, Nat.mul_comm (10 ^ r.length)]
        omega
      have hCl : C * 10 ^ m * 10 < 10 ^ r.length * 10 ^ (m + 1) := by
        have h1 : C * 10 ^ m < 10 ^ r.length * 10 ^ m := Nat.mul_lt_mul_of_pos_right hc (Nat.pow_pos (by omega))
        have h2 : 10 ^ r.length * 10 ^ (m + 1) = 10 ^ r.length * 10 ^ m * 10 := by rw [Nat.pow_succ, ← Nat.mul_assoc]
        omega
      generalize 10 ^ r.length * 10 ^ (m + 1) = W at *
      by_cases h2 : f i = x.toNat
      · rw [if_pos h2, h2]
        have ih := pre_val hd r (i + 1) (by omega) (fun y hy => ho y (by simp [hy])) hp.2
        rw [hm', hV, hC] at ih
        refine ⟨fun h => ?_, fun h => ?_⟩
        · have := ih.1 h
          omega
        · have := ih.2 h
          omega
      · rw [if_neg h2]
        refine ⟨fun h => ?_, fun h => ?_⟩
        · have hlt : f i < x.toNat := by simpa using h
          have h3 : (f i - 48 + 1) * W ≤ (x.toNat - 48) * W := Nat.mul_le_mul_right _ (by omega)
          rw [Nat.add_mul, Nat.one_mul] at h3
          omega
        · have hlt : ¬ f i < x.toNat := by simpa using h
          have h3 : (x.toNat - 48 + 1) * W ≤ (f i - 48) * W := Nat.mul_le_mul_right _ (by omega)
          rw [Nat.add_mul, Nat.one_mul] at h3
          omega
/-- A row of the table is right. -/
def rowOk (k : Nat) (x : Nat × Bs) : Bool :=
  x.1 + x.2.length == k + 1 && cval x.2 == 5 ^ k && decide (2 ^ k < 10 ^ x.1) && decide (10 ^ (x.1 - 1) ≤ 2 ^ k) && decide (1 ≤ x.1) && decide (x.1 ≤ 20) && decide (x.2.length ≤ 100) &&
    (x.2.all fun c => decide (48 ≤ c.toNat) && decide (c.toNat ≤ 57)) && (List.range x.2.length).all fun i => decide (0 < cval (x.2.drop i))
theorem rows_ok : ((List.range 61).all fun k => k == 0 || match Go.Pinned.cheatRows[k]? with | some x => rowOk k x | none => false) = true := by kernel_rfl
theorem posC_of : ∀ (c : Bs), (∀ i, i < c.length → 0 < cval (c.drop i)) → PosC c
  | [], _ => trivial
  | x :: r, h => ⟨h 0 (by simp), posC_of r fun i hi => by simpa using h (i + 1) (by simpa using hi)⟩
theorem row_at {k : Nat} (h0 : 1 ≤ k) (h1 : k ≤ 60) : ∃ d c, Go.Pinned.cheatRows[k]? = some (d, c) ∧ d + c.length = k + 1 ∧ cval c = 5 ^ k ∧ 2 ^ k < 10 ^ d ∧ 10 ^ (d - 1) ≤ 2 ^ k ∧ 1 ≤ d ∧ d ≤ 20 ∧ c.length ≤ 100 ∧ OkC c ∧ PosC c := by
  have h := List.all_eq_true.1 rows_ok k (by simp; omega)
  rcases hx : Go.Pinned.cheatRows[k]? with _ | ⟨d, c⟩
  · rw [hx] at h
    simp at h
    omega
  · rw [hx] at h
    have hk : (k == 0) = false := by simp; omega
    rw [hk] at h
    simp only [Bool.false_or, rowOk, Bool.and_eq_true, beq_iff_eq, decide_eq_true_eq, List.all_eq_true, List.mem_range] at h
    obtain ⟨⟨⟨⟨⟨⟨⟨⟨a1, a2⟩, a3⟩, a4⟩, a5⟩, a6⟩, a7⟩, a8⟩, a9⟩ := h
    exact ⟨d, c, rfl, a1, a2, a3, a4, a5, a6, a7, a8, posC_of c a9⟩
/-- So many digits come in front. -/
def dlt (f : Nat → Nat) (nd k : Nat) : Nat := match Go.Pinned.cheatRows[k]? with | some (d, c) => if preL f nd c 0 then d - 1 else d | none => 0
theorem dlt_ok {f : Nat → Nat} {nd k : Nat} (hd : ∀ i, i < nd → 48 ≤ f i ∧ f i ≤ 57) (h0 : f 0 ≠ 48) (hn : 1 ≤ nd) (hk0 : 1 ≤ k) (hk1 : k ≤ 60) :
    dlt f nd k ≤ 20 ∧ val f 0 nd * 2 ^ k < 10 ^ (nd + dlt f nd k) ∧ (1 ≤ dlt f nd k → 10 ^ (nd + dlt f nd k - 1) ≤ val f 0 nd * 2 ^ k) := by
  obtain ⟨d, c, hx, a1, a2, a3, a4, a5, a6, a7, a8, a9⟩ := row_at hk0 hk1
  have hp := pre_val hd c 0 (Nat.zero_le _) a8 a9
  rw [Nat.sub_zero] at hp
  have hN := val_lt (f := f) nd 0 (fun j _ b => hd j (by omega))
  have hlow : 10 ^ (nd - 1) ≤ val f 0 nd := by
    obtain ⟨m, rfl⟩ : ∃ m, nd = m + 1 := ⟨nd - 1, by omega⟩
    have := hd 0 (by omega)
    simp only [val, Nat.add_sub_cancel]
    have h3 : 1 * 10 ^ m ≤ (f 0 - 48) * 10 ^ m := Nat.mul_le_mul_right _ (by omega)
    omega
  generalize val f 0 nd = N at *
  rw [a2] at hp
  have e5 : 5 ^ k * 2 ^ k = 10 ^ k := by rw [← Nat.mul_pow]
  have eD : dlt f nd k = if preL f nd c 0 then d - 1 else d := by simp [dlt, hx]
  rw [eD]
  have hpow : ∀ a b : Nat, (10 : Nat) ^ (a + b) = 10 ^ a * 10 ^ b := fun a b => Nat.pow_add 10 a b
  cases hb : preL f nd c 0 with
  | true =>
    rw [if_pos rfl]
    refine ⟨by omega, ?_, fun h1 => ?_⟩
    · have h := hp.1 hb
      have h2 : N * 10 ^ c.length * 2 ^ k < 5 ^ k * 10 ^ nd * 2 ^ k := Nat.mul_lt_mul_of_pos_right h (Nat.two_pow_pos k)
      have h3 : 5 ^ k * 10 ^ nd * 2 ^ k = 10 ^ (nd + (d - 1)) * 10 ^ c.length := by
        rw [Nat.mul_right_comm, e5, ← hpow, ← hpow]
        congr 1
        omega
      rw [h3, Nat.mul_right_comm] at h2
      exact Nat.lt_of_mul_lt_mul_right h2
    · have h2 : 10 ^ (nd - 1) * 10 ^ (d - 1) ≤ N * 2 ^ k := Nat.mul_le_mul hlow a4
      rw [← hpow] at h2
      rw [show nd + (d - 1) - 1 = nd - 1 + (d - 1) by omega]
      exact h2
  | false =>
    rw [if_neg (by simp)]
    refine ⟨a6, ?_, fun h1 => ?_⟩
    · have h2 : N * 2 ^ k < 10 ^ nd * 10 ^ d := Nat.mul_lt_mul'' hN a3
      rw [hpow]
      exact h2
    · have h := hp.2 hb
      have h2 : 5 ^ k * 10 ^ nd * 2 ^ k ≤ N * 10 ^ c.length * 2 ^ k := Nat.mul_le_mul_right _ h
      have h3 : 5 ^ k * 10 ^ nd * 2 ^ k = 10 ^ (nd + d - 1) * 10 ^ c.length := by
        rw [Nat.mul_right_comm, e5, ← hpow, ← hpow]
        congr 1
        omega
      rw [h3, Nat.mul_right_comm N] at h2
      exact Nat.le_of_mul_le_mul_right h2 (Nat.pow_pos (by omega))
end Go.Proofs.YtdkhedefcmjjgaaGreatDoor
/- leftShift, walked.
Conditions: a decimal that is not nought; a shift by 1 to 60. -/
namespace Go.Proofs.YtdkhedefcmjjgaaGreatDoor
open Go.RowKit Sp
set_option linter.unusedSimpArgs false
set_option linter.unusedVariables false
abbrev L1 := Nat × Nat × Nat × (Nat → Nat) × Bool
abbrev L2 := Nat × Nat × (Nat → Nat) × Bool
def put (f : Nat → Nat) (v x : Nat) : Nat → Nat := if v < 800 then upd f v (x + 48) else f
def lost (tr : Bool) (v x : Nat) : Bool := if v < 800 then tr else if x = 0 then tr else true
/-- A digit from behind, times the power of 2. -/
def stepL1 (k : Nat) (s : L1) : Option L1 :=
  if s.1 = 0 then none else
  some (s.1 - 1, s.2.1 - 1, (s.2.2.1 + (s.2.2.2.1 (s.1 - 1) - 48) * 2 ^ k) / 10, put s.2.2.2.1 (s.2.1 - 1) ((s.2.2.1 + (s.2.2.2.1 (s.1 - 1) - 48) * 2 ^ k) % 10), lost s.2.2.2.2 (s.2.1 - 1) ((s.2.2.1 + (s.2.2.2.1 (s.1 - 1) - 48) * 2 ^ k) % 10))
/-- What is carried goes in front. -/
def stepL2 (s : L2) : Option L2 := if s.2.1 = 0 then none else some (s.1 - 1, s.2.1 / 10, upd s.2.2.1 (s.1 - 1) (s.2.1 % 10 + 48), s.2.2.2)
def PL1 (f0 : Nat → Nat) (nd dl k : Nat) (s : L1) : Prop :=
  s.1 ≤ nd ∧ s.2.1 = s.1 + dl ∧ s.2.2.1 < 2 ^ k ∧ (∀ i, i < s.1 → s.2.2.2.1 i = f0 i) ∧ (∀ i, s.2.1 ≤ i → i < min (nd + dl) 800 → 48 ≤ s.2.2.2.1 i ∧ s.2.2.2.1 i ≤ 57) ∧
  s.2.2.1 * 10 ^ (nd - s.1) ≤ val f0 s.1 (nd - s.1) * 2 ^ k ∧ val f0 s.1 (nd - s.1) * 2 ^ k < (s.2.2.1 + 1) * 10 ^ (nd - s.1) ∧
  (s.1 = 0 → dl = 0 → ∃ n1, s.2.2.1 = n1 / 10 ∧ s.2.2.2.1 0 = n1 % 10 + 48 ∧ 2 * (f0 0 - 48) ≤ n1)
def PL2 (f0 : Nat → Nat) (nd dl : Nat) (s : L2) : Prop :=
  s.1 ≤ dl ∧ s.2.1 < 10 ^ s.1 ∧ (1 ≤ s.1 → 10 ^ (s.1 - 1) ≤ s.2.1) ∧ (∀ i, s.1 ≤ i → i < min (nd + dl) 800 → 48 ≤ s.2.2.1 i ∧ s.2.2.1 i ≤ 57) ∧ (s.1 = 0 → (1 ≤ dl → s.2.2.1 0 ≠ 48) ∧ (dl = 0 → f0 0 < s.2.2.1 0))
theorem put_dig {f : Nat → Nat} {v x N : Nat} (hx : x ≤ 9) (h : ∀ i, v + 1 ≤ i → i < min N 800 → 48 ≤ f i ∧ f i ≤ 57) : ∀ i, v ≤ i → i < min N 800 → 48 ≤ put f v x i ∧ put f v x i ≤ 57 := by
  intro i hi hi2
  unfold put
  split
  · simp only [upd]
    split
    · omega
    · exact h i (by omega) hi2
  · exact h i (by omega) hi2
theorem PL1.step {f0 f : Nat → Nat} {nd dl k c v n : Nat} {tr : Bool} (hd : ∀ i, i < nd → 48 ≤ f0 i ∧ f0 i ≤ 57) (hnd : nd ≤ 800) (hk0 : 1 ≤ k) (h : PL1 f0 nd dl k (c, v, n, f, tr)) (hc : c ≠ 0) :
    PL1 f0 nd dl k (c - 1, v - 1, (n + (f (c - 1) - 48) * 2 ^ k) / 10, put f (v - 1) ((n + (f (c - 1) - 48) * 2 ^ k) % 10), lost tr (v - 1) ((n + (f (c - 1) - 48) * 2 ^ k) % 10)) := by
  obtain ⟨a1, a2, a3, a4, a5, a6, a7, a8⟩ := h
  simp only at a1 a2 a3 a4 a5 a6 a7 a8
  obtain ⟨c, rfl⟩ : ∃ e, c = e + 1 := ⟨c - 1, by omega⟩
  simp only [Nat.add_sub_cancel] at *
  have hfc := a4 c (by omega)
  rw [hfc]
  have hdc := hd c (by omega)
  obtain ⟨d, hdd⟩ : ∃ d, f0 c = d + 48 := ⟨f0 c - 48, by omega⟩
  have h9 : d ≤ 9 := by omega
  have hmul : d * 2 ^ k ≤ 9 * 2 ^ k := Nat.mul_le_mul_right _ h9
  obtain ⟨m, hm⟩ : ∃ m, nd - c = m + 1 := ⟨nd - c - 1, by omega⟩
  have hm' : nd - (c + 1) = m := by omega
  rw [hm'] at a6 a7
  have ev : val f0 c (m + 1) = d * 10 ^ m + val f0 (c + 1) m := by simp only [val]; rw [hdd]; simp
  rw [hdd, Nat.add_sub_cancel]
  have e1 : val f0 c (m + 1) * 2 ^ k = d * 2 ^ k * 10 ^ m + val f0 (c + 1) m * 2 ^ k := by
    rw [ev, Nat.add_mul, Nat.mul_right_comm]
  generalize hV : val f0 (c + 1) m * 2 ^ k = V at *
  generalize hp : d * 2 ^ k = p at *
  have hq : 10 * ((n + p) / 10) ≤ n + p := Nat.mul_div_le _ _
  have hq2 : n + p + 1 ≤ 10 * ((n + p) / 10 + 1) := by omega
  refine ⟨by simp only; omega, by simp only; omega, by simp only; omega, fun i hi => ?_, ?_, ?_, ?_, fun h0 h1 => ?_⟩
  · simp only at hi ⊢
    unfold put
    split
    · simp only [upd, if_neg (show ¬ i = v - 1 by omega)]
      exact a4 i (by omega)
    · exact a4 i (by omega)
  · simp only
    exact put_dig (by omega) (fun i h1 h2 => a5 i (by omega) h2)
  · simp only
    rw [hm, e1, Nat.pow_succ]
    have := Nat.mul_le_mul_right (10 ^ m) hq
    rw [Nat.add_mul] at this
    have e : (n + p) / 10 * (10 ^ m * 10) = 10 * ((n + p) / 10) * 10 ^ m := by rw [Nat.mul_comm (10 ^ m) 10, ← Nat.mul_assoc, Nat.mul_comm _ 10]
    rw [e]
    omega
  · simp only
    rw [hm, e1, Nat.pow_succ]
    have := Nat.mul_le_mul_right (10 ^ m) hq2
    have e : ((n + p) / 10 + 1) * (10 ^ m * 10) = 10 * ((n + p) / 10 + 1) * 10 ^ m := by rw [Nat.mul_comm (10 ^ m) 10, ← Nat.mul_assoc, Nat.mul_comm _ 10]
    rw [e]
    have e2 : (n + p + 1) * 10 ^ m = p * 10 ^ m + (n + 1) * 10 ^ m := by rw [show n + p + 1 = p + (n + 1) by omega, Nat.add_mul]
    omega
  · simp only at h0
    subst h0
    subst h1
    have hv : v - 1 = 0 := by omega
    refine ⟨n + p, rfl, ?_, ?_⟩
    · simp only
      rw [hv]
      simp [put, upd]
    · have : 2 ≤ 2 ^ k := Nat.pow_le_pow_right (n := 2) (by omega) hk0
      rw [hdd, Nat.add_sub_cancel, ← hp]
      have h4 : d * 2 ≤ d * 2 ^ k := Nat.mul_le_mul_left _ this
      omega
theorem PL2.step {f0 f : Nat → Nat} {nd dl v n : Nat} {tr : Bool} (hdl : dl ≤ 20) (h : PL2 f0 nd dl (v, n, f, tr)) (hn : n ≠ 0) : 1 ≤ v ∧ v ≤ 20 ∧ PL2 f0 nd dl (v - 1, n / 10, upd f (v - 1) (n % 10 + 48), tr) := by
  obtain ⟨a1, a2, a3, a4, a5⟩ := h
  simp only at a1 a2 a3 a4 a5
  have hv : 1 ≤ v := by
    rcases Nat.eq_zero_or_pos v with h | h
    · subst h
      simp at a2
      omega
    · exact h
  obtain ⟨u, rfl⟩ : ∃ u, v = u + 1 := ⟨v - 1, by omega⟩
  simp only [Nat.add_sub_cancel] at *
  have hlow := a3 (by omega)
  rw [Nat.pow_succ] at a2
  refine ⟨hv, by omega, by simp only; omega, by simp only; omega, fun h1 => ?_, fun i h1 h2 => ?_, fun h1 => ?_⟩
  · simp only at h1 ⊢
    obtain ⟨t, rfl⟩ : ∃ t, u = t + 1 := ⟨u - 1, by omega⟩
    rw [Nat.pow_succ] at hlow
    simp only [Nat.add_sub_cancel]
    omega
  · simp only at h1 ⊢
    simp only [upd]
    split
    · omega
    · exact a4 i (by omega) h2
  · simp only at h1 ⊢
    subst h1
    refine ⟨fun _ => ?_, fun h => by omega⟩
    simp only [upd, if_pos]
    simp at a2
    omega
def left1 (f : Nat → Nat) (nd k : Nat) (tr : Bool) : L1 := runs (stepL1 k) nd (nd, nd + dlt f nd k, 0, f, tr)
def left2 (f : Nat → Nat) (nd k : Nat) (tr : Bool) : L2 := runs stepL2 20 ((left1 f nd k tr).2.1, (left1 f nd k tr).2.2.1, (left1 f nd k tr).2.2.2.1, (left1 f nd k tr).2.2.2.2)
def leftS (S : Ds) (k : Nat) : Ds :=
  trimS ⟨(left2 S.f S.nd k S.tr).2.2.1, min (S.nd + dlt S.f S.nd k) 800, S.dp + dlt S.f S.nd k, (left2 S.f S.nd k S.tr).2.2.2⟩
theorem left1_start {f : Nat → Nat} {nd k : Nat} {tr : Bool} (hn : 1 ≤ nd) : PL1 f nd (dlt f nd k) k (nd, nd + dlt f nd k, 0, f, tr) := by
  refine ⟨Nat.le_refl _, rfl, Nat.two_pow_pos k, fun _ _ => rfl, fun i h1 h2 => by simp only at h1; omega, ?_, ?_, fun h => by simp only at h; omega⟩
  · simp
  · simp [val]
/-- Behind the first loop: what is carried has as many digits as come in front. -/
theorem left2_start {f0 f : Nat → Nat} {nd k v n : Nat} {tr : Bool} (hd : ∀ i, i < nd → 48 ≤ f0 i ∧ f0 i ≤ 57) (h0 : f0 0 ≠ 48) (hn : 1 ≤ nd) (hk0 : 1 ≤ k) (hk1 : k ≤ 60) (h : PL1 f0 nd (dlt f0 nd k) k (0, v, n, f, tr)) :
    PL2 f0 nd (dlt f0 nd k) (v, n, f, tr) := by
  obtain ⟨a1, a2, a3, a4, a5, a6, a7, a8⟩ := h
  simp only [Nat.sub_zero, Nat.zero_add] at a1 a2 a3 a4 a5 a6 a7 a8
  obtain ⟨b1, b2, b3⟩ := dlt_ok hd h0 hn hk0 hk1
  generalize dlt f0 nd k = dl at *
  subst a2
  have hpow : ∀ a b : Nat, (10 : Nat) ^ (a + b) = 10 ^ a * 10 ^ b := fun a b => Nat.pow_add 10 a b
  have hnl : n < 10 ^ v := by
    have h1 : n * 10 ^ nd < 10 ^ v * 10 ^ nd := by
      rw [← hpow, Nat.add_comm v nd]
      omega
    exact Nat.lt_of_mul_lt_mul_right h1
  refine ⟨Nat.le_refl _, hnl, fun h1 => ?_, a5, fun h1 => ?_⟩
  · simp only at h1 ⊢
    have h2 := b3 h1
    rw [show nd + v - 1 = (v - 1) + nd by omega, hpow] at h2
    have h3 : 10 ^ (v - 1) * 10 ^ nd < (n + 1) * 10 ^ nd := by omega
    have := Nat.lt_of_mul_lt_mul_right h3
    omega
  · simp only at h1 ⊢
    subst h1
    refine ⟨fun h => by omega, fun _ => ?_⟩
    obtain ⟨n1, e1, e2, e3⟩ := a8 trivial rfl
    have hz : n = 0 := by simpa using hnl
    have hd0 := hd 0 (by omega)
    omega
/-- What a shift to the left leaves. -/
theorem left_good {S : Ds} (hS : Good S) {k : Nat} (hk0 : 1 ≤ k) (hk1 : k ≤ 60) : Good (leftS S k) ∧ S.dp ≤ (leftS S k).dp ∧ (leftS S k).dp ≤ S.dp + 20 ∧ (S.dp < (leftS S k).dp ∨ S.f 0 < (leftS S k).f 0) := by
  obtain ⟨f, nd, dp, tr⟩ := S
  obtain ⟨⟨hnd, hdig⟩, hn, h0⟩ := hS
  simp only at hnd hdig hn h0
  have hdl := (dlt_ok hdig h0 hn hk0 hk1).1
  have hst : ∀ s s', PL1 f nd (dlt f nd k) k s → stepL1 k s = some s' → PL1 f nd (dlt f nd k) k s' ∧ s'.1 < s.1 := by
    intro s s' h hs
    obtain ⟨c, v, n, g, t⟩ := s
    simp only [stepL1] at hs
    split at hs
    · cases hs
    · rename_i hc
      cases hs
      exact ⟨h.step hdig hnd hk0 hc, by simp only; omega⟩
  have hP : PL1 f nd (dlt f nd k) k (left1 f nd k tr) := runs_inv (fun s s' h hs => (hst s s' h hs).1) _ _ (left1_start hn)
  have hE : stepL1 k (left1 f nd k tr) = none := runs_end (m := fun s => s.1) hst _ _ (left1_start hn) (Nat.le_refl _)
  have hc : (left1 f nd k tr).1 = 0 := by
    rcases Nat.eq_zero_or_pos (left1 f nd k tr).1 with h | h
    · exact h
    · simp only [stepL1] at hE
      rw [if_neg (by omega)] at hE
      cases hE
  have hs2 : PL2 f nd (dlt f nd k) ((left1 f nd k tr).2.1, (left1 f nd k tr).2.2.1, (left1 f nd k tr).2.2.2.1, (left1 f nd k tr).2.2.2.2) := by
    refine left2_start hdig h0 hn hk0 hk1 ?_
    rw [← hc]
    exact hP
  have hst2 : ∀ s s', PL2 f nd (dlt f nd k) s → stepL2 s = some s' → PL2 f nd (dlt f nd k) s' ∧ s'.1 < s.1 := by
    intro s s' h hs
    obtain ⟨v, n, g, t⟩ := s
    simp only [stepL2] at hs
    split at hs
    · cases hs
    · rename_i hn0
      cases hs
      have := h.step hdl hn0
      exact ⟨this.2.2, by simp only; omega⟩
  have hP2 : PL2 f nd (dlt f nd k) (left2 f nd k tr) := runs_inv (fun s s' h hs => (hst2 s s' h hs).1) _ _ hs2
  have hE2 : stepL2 (left2 f nd k tr) = none := runs_end (m := fun s => s.1) hst2 _ _ hs2 (by have := hs2.1; simp only at this ⊢; omega)
  have hz : (left2 f nd k tr).2.1 = 0 := by
    rcases Nat.eq_zero_or_pos (left2 f nd k tr).2.1 with h | h
    · exact h
    · simp only [stepL2] at hE2
      rw [if_neg (by omega)] at hE2
      cases hE2
  obtain ⟨c1, c2, c3, c4, c5⟩ := hP2
  have hv : (left2 f nd k tr).1 = 0 := by
    rcases Nat.eq_zero_or_pos (left2 f nd k tr).1 with h | h
    · exact h
    · have h1 := c3 h
      have h2 : 0 < 10 ^ ((left2 f nd k tr).1 - 1) := Nat.pow_pos (by omega)
      omega
  have c6 := c5 hv
  have hd0 := hdig 0 (by omega)
  have hne : (left2 f nd k tr).2.2.1 0 ≠ 48 := by
    rcases Nat.eq_zero_or_pos (dlt f nd k) with h | h
    · have := c6.2 h
      omega
    · exact c6.1 h
  obtain ⟨hg, hdp, hff⟩ := trim_good (dp := dp + dlt f nd k) (tr := (left2 f nd k tr).2.2.2) (n := min (nd + dlt f nd k) 800) (by omega) (by omega) hne (fun i hi => c4 i (by omega) hi)
  have eS : leftS ⟨f, nd, dp, tr⟩ k = trimS ⟨(left2 f nd k tr).2.2.1, min (nd + dlt f nd k) 800, dp + dlt f nd k, (left2 f nd k tr).2.2.2⟩ := rfl
  rw [eS, hdp, hff]
  refine ⟨hg, by simp only; omega, by simp only; omega, ?_⟩
  rcases Nat.eq_zero_or_pos (dlt f nd k) with h | h
  · exact .inr (c6.2 h)
  · exact .inl (by simp only; omega)
end Go.Proofs.YtdkhedefcmjjgaaGreatDoor
