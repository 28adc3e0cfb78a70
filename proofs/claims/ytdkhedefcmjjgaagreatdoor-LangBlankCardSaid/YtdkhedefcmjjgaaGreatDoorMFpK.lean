/- bits.Class and bits.Neg, walked: what they tell of a pattern does not hang on the memory.
Conditions: none. -/
import Derived.Test.YtdkhedefcmjjgaaGreatDoorMSpec
import Derived.Lib.Hide
import Derived.Handy
import Derived.Deep.RegionWith
import Derived.Laws.FloatArith
import Derived.Test.YtdkhedefcmjjgaaGreatDoorMFpL
import Derived.WalkMore
import Derived.ScopeJumps
namespace Go.Proofs.YtdkhedefcmjjgaaGreatDoor
open Go.RowKit Sp
set_option linter.unusedSimpArgs false
set_option linter.unusedVariables false
theorem of64 (w : World) : Calls Tryz.prog 93 #[.int .i64 64] w fun e w' => e = .returned (.tuple #[.agg #[.int .i64 52, .int .i64 2047, .int .i64 (-1074), .int .i64 (-9223372036854775808)], .bool true]) ∧ Below w.heap.size w w' := by
  go_enter Tryz.func93, Tryz.ntmps93
  go_wp2_with fail
  go_returns
  exact ⟨rfl, (Below.refl _ _).alloc (Nat.le_refl _) _⟩
theorem of32 (w : World) : Calls Tryz.prog 93 #[.int .i64 32] w fun e w' => e = .returned (.tuple #[.agg #[.int .i64 23, .int .i64 255, .int .i64 (-149), .int .i64 2147483648], .bool true]) ∧ Below w.heap.size w w' := by
  go_enter Tryz.func93, Tryz.ntmps93
  go_wp2_with fail
  go_returns
  exact ⟨rfl, (Below.refl _ _).alloc (Nat.le_refl _) _⟩
theorem valid64 (b : Int) (w : World) : Calls Tryz.prog 112 #[.int .i64 b, .int .i64 64] w fun e w' => e = .returned (.bool true) ∧ w' = w := by
  go_enter Tryz.func112, Tryz.ntmps112
  go_wp2_with fail
  go_returns
  exact ⟨rfl, rfl⟩
theorem valid32 (b : Int) : ∃ v : Bool, ∀ w, Calls Tryz.prog 112 #[.int .i64 b, .int .i64 32] w fun e w' => e = .returned (.bool v) ∧ w' = w := by
  apply Exists.intro
  case h =>
    intro w
    go_enter Tryz.func112, Tryz.ntmps112
    go_wp2_with fail
    go_returns
    exact ⟨rfl, rfl⟩
set_option maxHeartbeats 2000000 in
theorem class64 (b : Int) : ∃ v : Int, ∀ w, Calls Tryz.prog 92 #[.int .i64 b, .int .i64 64] w fun e w' => e = .returned (.int .i64 v) ∧ Below w.heap.size w w' := by
  have H64 := Lib.hid of64
  have V64 := Lib.hid (valid64 b)
  cases h1 : (bits BinOp.and IntKind.i64 (b / 4503599627370496) 2047 == 2047) <;> cases h2 : (bits BinOp.and IntKind.i64 b 4503599627370495 != 0) <;> cases h3 : (bits BinOp.and IntKind.i64 (b / 4503599627370496) 2047 != 0)
  all_goals
    apply Exists.intro
    case h =>
      intro w
      go_enter Tryz.func92, Tryz.ntmps92
      go_wp2_with fail
      refine (H64.out w).mono ?_
      rintro e w1 ⟨rfl, hb1⟩
      have HB1 := Lib.hid hb1
      clear hb1
      go_wp2_with fail
      go_region
      go_wp2_with (refine (V64.out _).mono ?_; rintro e w2 ⟨rfl, rfl⟩)
      go_returns
      first
      | exact ⟨rfl, (HB1.out.alloc HB1.out.size _).drew⟩
      | exact ⟨rfl, (HB1.out.alloc HB1.out.size _).drew.drew⟩
      | exact ⟨rfl, HB1.out.drew⟩
set_option maxHeartbeats 2000000 in
theorem class32 (b : Int) : ∃ v : Int, ∀ w, Calls Tryz.prog 92 #[.int .i64 b, .int .i64 32] w fun e w' => e = .returned (.int .i64 v) ∧ Below w.heap.size w w' := by
  have H64 := Lib.hid of32
  obtain ⟨vv, hvv⟩ := valid32 b
  have V64 := Lib.hid hvv
  clear hvv
  cases vv <;> cases h1 : (bits BinOp.and IntKind.i64 (b / 8388608) 255 == 255) <;> cases h2 : (bits BinOp.and IntKind.i64 b 8388607 != 0) <;> cases h3 : (bits BinOp.and IntKind.i64 (b / 8388608) 255 != 0)
  all_goals
    apply Exists.intro
    case h =>
      intro w
      go_enter Tryz.func92, Tryz.ntmps92
      go_wp2_with fail
      refine (H64.out w).mono ?_
      rintro e w1 ⟨rfl, hb1⟩
      have HB1 := Lib.hid hb1
      clear hb1
      go_wp2_with fail
      go_region
      go_wp2_with (refine (V64.out _).mono ?_; rintro e w2 ⟨rfl, rfl⟩)
      go_returns
      first
      | exact ⟨rfl, (HB1.out.alloc HB1.out.size _).drew⟩
      | exact ⟨rfl, (HB1.out.alloc HB1.out.size _).drew.drew⟩
      | exact ⟨rfl, HB1.out.drew⟩
theorem nan64 (w : World) : Calls Tryz.prog 94 #[.int .i64 64] w fun e w' => e = .returned (.int .i64 9221120237041090561) ∧ w' = w := by
  go_enter Tryz.func94, Tryz.ntmps94
  go_wp2_with fail
  go_returns
  exact ⟨rfl, rfl⟩
set_option maxHeartbeats 2000000 in
theorem neg64 (b : Int) : ∃ v : Int, ∀ w, Calls Tryz.prog 77 #[.int .i64 b, .int .i64 64] w fun e w' => e = .returned (.int .i64 v) ∧ Below w.heap.size w w' := by
  have H64 := Lib.hid of64
  obtain ⟨c, hc⟩ := class64 b
  have HC := Lib.hid hc
  clear hc
  cases h1 : (c == 4)
  all_goals
    apply Exists.intro
    case h =>
      intro w
      go_enter Tryz.func77, Tryz.ntmps77
      go_wp2_with fail
      refine (H64.out w).mono ?_
      rintro e w1 ⟨rfl, hb1⟩
      have HB1 := Lib.hid hb1
      clear hb1
      go_wp2_with fail
      refine (HC.out _).mono ?_
      rintro e w2 ⟨rfl, hb2⟩
      have hn := heap_alloc_new w1 (.cells #[.int .i64 52, .int .i64 2047, .int .i64 (-1074), .int .i64 (-9223372036854775808)] 139)
      have kk : w2.cell? ⟨w1.heap.size, 3, none⟩ = some (.int .i64 (-9223372036854775808)) := cell_heap ((hb2.block _ (by simp)).trans hn) 3
      have HB2 : Hid (Below w.heap.size w w2) := Lib.hid ((HB1.out.alloc HB1.out.size _).trans (hb2.mono (by simp; have := HB1.out.size; omega)))
      clear hb2 hn
      go_wp2_with (refine (nan64 _).mono ?_; rintro e w3 ⟨rfl, rfl⟩)
      go_returns
      exact ⟨rfl, HB2.out⟩
end Go.Proofs.YtdkhedefcmjjgaaGreatDoor
/- A float32 as a float64 and back: for every pattern that is no NaN both are told by the pattern.
Conditions: the pattern is no NaN. -/
namespace Go.Proofs.YtdkhedefcmjjgaaGreatDoor
open Go.RowKit
set_option linter.unusedSimpArgs false
set_option linter.unusedVariables false
theorem cut_no (n : Nat) (s : Bool) : Ieee.Toward.even.cut s n 0 = n := by
  unfold Ieee.Toward.cut
  simp [Nat.mod_one]
theorem cut_whole (n d : Nat) (s : Bool) (h : d ≤ (n * 2 ^ d).log2 + 2) : Ieee.Toward.even.cut s (n * 2 ^ d) d = n := by
  unfold Ieee.Toward.cut
  simp only [Nat.min_eq_left h, Nat.one_shiftLeft, Nat.mul_mod_left, Nat.mul_div_cancel n (Nat.two_pow_pos d)]
  have hp := Nat.two_pow_pos d
  have h1 : ¬ 2 ^ d < 2 * 0 := by omega
  have h2 : ¬ 2 ^ d = 2 * 0 := by omega
  simp [h1, h2]
theorem word_read (f : Ieee.Format) (s : Bool) {r : Nat} (h : r < f.signWeight) : f.word s r % f.signWeight = r ∧ (f.word s r / f.signWeight % 2 == 1) = s := by
  unfold Ieee.Format.word
  cases s with
  | true =>
    refine ⟨?_, ?_⟩
    · simp only [if_true]; rw [Nat.add_mod_left, Nat.mod_eq_of_lt h]
    · simp only [if_true]
      rw [Nat.add_div_left _ (by omega), Nat.div_eq_of_lt h]
      decide
  | false =>
    refine ⟨?_, ?_⟩
    · simp; exact Nat.mod_eq_of_lt h
    · simp [Nat.div_eq_of_lt h]
theorem nearest_double (s : Bool) (m : Nat) (p : Int) (hm : m ≠ 0) (hm2 : m < 2 ^ 24) (hp0 : -149 ≤ p) (hp1 : p ≤ 104) :
    ∃ L K : Nat, L = m.log2 ∧ L ≤ 23 ∧ K = m * 2 ^ (52 - L) ∧ 2 ^ 52 ≤ K ∧ K < 2 ^ 53 ∧ Ieee.double.nearest s m p = Ieee.double.word s ((p + L - 52 + 1074).toNat * 2 ^ 52 + K) := by
  have hL : m.log2 ≤ 23 := by
    have := (Nat.log2_lt hm).2 hm2
    omega
  have hlo : 2 ^ m.log2 ≤ m := Nat.log2_self_le hm
  have hhi : m < 2 ^ (m.log2 + 1) := Nat.lt_log2_self
  refine ⟨m.log2, m * 2 ^ (52 - m.log2), rfl, hL, rfl, ?_, ?_, ?_⟩
  · calc 2 ^ 52 = 2 ^ m.log2 * 2 ^ (52 - m.log2) := by rw [← Nat.pow_add]; congr 1; omega
      _ ≤ m * 2 ^ (52 - m.log2) := Nat.mul_le_mul_right _ hlo
  · calc m * 2 ^ (52 - m.log2) < 2 ^ (m.log2 + 1) * 2 ^ (52 - m.log2) := Nat.mul_lt_mul_of_pos_right hhi (Nat.two_pow_pos _)
      _ = 2 ^ 53 := by rw [← Nat.pow_add]; congr 1; omega
  · have hK : m * 2 ^ (52 - m.log2) < 2 ^ 53 :=
      calc m * 2 ^ (52 - m.log2) < 2 ^ (m.log2 + 1) * 2 ^ (52 - m.log2) := Nat.mul_lt_mul_of_pos_right hhi (Nat.two_pow_pos _)
        _ = 2 ^ 53 := by rw [← Nat.pow_add]; congr 1; omega
    unfold Ieee.Format.nearest
    rw [if_neg hm]
    have hb : Ieee.double.binade = 2 ^ 52 := rfl
    have hl : Ieee.double.leastPlace = -1074 := by decide
    have hi : Ieee.double.infRung = 2047 * 2 ^ 52 := by rfl
    have hf : (Ieee.double.fractionBits : Int) = 52 := rfl
    simp only [hb, hl, hi, hf]
    have e1 : max (p + (m.log2 : Int) - 52) (-1074) = p + (m.log2 : Int) - 52 := by omega
    rw [e1]
    have e2 : (p - (p + (m.log2 : Int) - 52)).toNat = 52 - m.log2 := by omega
    have e3 : (p + (m.log2 : Int) - 52 - p).toNat = 0 := by omega
    rw [e2, e3, cut_no, Nat.shiftLeft_eq]
    have e4 : p + (m.log2 : Int) - 52 - -1074 = p + (m.log2 : Int) - 52 + 1074 := by omega
    rw [e4, Nat.min_eq_left]
    generalize m * 2 ^ (52 - m.log2) = K at hK
    have h1 : (p + (m.log2 : Int) - 52 + 1074).toNat ≤ 1149 := by omega
    generalize (p + (m.log2 : Int) - 52 + 1074).toNat = q at h1
    omega
theorem read_double (s : Bool) (m : Nat) (p : Int) (hm : m ≠ 0) (hm2 : m < 2 ^ 24) (hp0 : -149 ≤ p) (hp1 : p ≤ 104) :
    ∃ L : Nat, L = m.log2 ∧ L ≤ 23 ∧ Ieee.double.read (Ieee.double.nearest s m p) = .number s (m * 2 ^ (52 - L)) (p + L - 52) ∧ (m * 2 ^ (52 - L)).log2 = 52 ∧ m * 2 ^ (52 - L) ≠ 0 := by
  obtain ⟨L, K, hL, hL2, hK, hK0, hK1, he⟩ := nearest_double s m p hm hm2 hp0 hp1
  have hlog : K.log2 = 52 := by
    have h1 : K ≠ 0 := by omega
    have h2 := (Nat.log2_lt h1).2 hK1
    have h3 := (Nat.le_log2 h1).2 hK0
    omega
  refine ⟨L, hL, hL2, ?_, by rw [← hK]; exact hlog, by rw [← hK]; omega⟩
  rw [he, ← hK]
  obtain ⟨q, hq⟩ : ∃ q : Nat, (p + L - 52 + 1074).toNat = q := ⟨_, rfl⟩
  have hq2 : p + L - 52 = (q : Int) - 1074 := by omega
  have hq3 : q ≤ 1149 := by omega
  rw [hq]
  have hb : Ieee.double.binade = 2 ^ 52 := rfl
  have hl : Ieee.double.leastPlace = -1074 := by decide
  have hi : Ieee.double.infRung = 2047 * 2 ^ 52 := rfl
  have hs : Ieee.double.signWeight = 2 ^ 63 := rfl
  have hr : q * 2 ^ 52 + K < Ieee.double.signWeight := by rw [hs]; omega
  obtain ⟨w1, w2⟩ := word_read Ieee.double s hr
  unfold Ieee.Format.read
  simp only [w1, w2, hb, hl, hi]
  rw [if_neg (by omega), if_pos (by omega)]
  have d1 : (q * 2 ^ 52 + K) / 2 ^ 52 = q + 1 := by omega
  have d2 : (q * 2 ^ 52 + K) % 2 ^ 52 = K - 2 ^ 52 := by omega
  have d3 : 2 ^ 52 + (K - 2 ^ 52) = K := by omega
  have d4 : (-1074 : Int) + ((q + 1 - 1 : Nat) : Int) = (q : Int) - 1074 := by omega
  rw [d1, d2, hq2, d3, d4]
theorem nearest_single (s : Bool) (m L : Nat) (p : Int) (hL : L ≤ 23) (hlog : (m * 2 ^ (52 - L)).log2 = 52) (h0 : m * 2 ^ (52 - L) ≠ 0) (hp : p = max (p + L - 23) (-149)) :
    Ieee.single.nearest s (m * 2 ^ (52 - L)) (p + L - 52) = Ieee.single.word s (min ((p + 149).toNat * 2 ^ 23 + m) (255 * 2 ^ 23)) := by
  unfold Ieee.Format.nearest
  rw [if_neg h0]
  have hb : Ieee.single.binade = 2 ^ 23 := rfl
  have hl : Ieee.single.leastPlace = -149 := by decide
  have hi : Ieee.single.infRung = 255 * 2 ^ 23 := rfl
  have hf : (Ieee.single.fractionBits : Int) = 23 := rfl
  simp only [hb, hl, hi, hf, hlog]
  have e1 : max (p + L - 52 + ((52 : Nat) : Int) - 23) (-149) = p := by omega
  rw [e1]
  have e2 : (p + (L : Int) - 52 - p).toNat = 0 := by omega
  have e3 : (p - (p + (L : Int) - 52)).toNat = 52 - L := by omega
  have e4 : p - -149 = p + 149 := by omega
  rw [e2, e3, e4, Nat.shiftLeft_zero, cut_whole _ _ _ (by omega)]
/-- The two conversions of a number of a float32. -/
theorem conv_num (s : Bool) (m : Nat) (p : Int) (hp0 : -149 ≤ p) (hp1 : p ≤ 104) (hm : (p = -149 ∧ m < 2 ^ 24) ∨ (2 ^ 23 ≤ m ∧ m < 2 ^ 24)) :
    ∃ y, Ieee.double.nearest s m p = y ∧ (Ieee.double.read y).isInfinity = false ∧ ∃ s2 m2 p2, Ieee.double.read y = .number s2 m2 p2 ∧ (Ieee.single.read (Ieee.single.nearest s2 m2 p2)).isInfinity = false := by
  have hs1 : Ieee.single.signWeight = 2 ^ 31 := rfl
  have hi1 : Ieee.single.infRung = 255 * 2 ^ 23 := rfl
  have hb1 : Ieee.single.binade = 2 ^ 23 := rfl
  have fin : ∀ r s, r < 255 * 2 ^ 23 → (Ieee.single.read (Ieee.single.word s r)).isInfinity = false := fun r s hr => by
    obtain ⟨w1, w2⟩ := word_read Ieee.single s (r := r) (by rw [hs1]; omega)
    unfold Ieee.Format.read
    simp only [w1, w2, hb1, hi1]
    split
    · rfl
    · first
      | rfl
      | (rw [if_pos hr]; rfl)
  refine ⟨_, rfl, ?_⟩
  by_cases h0 : m = 0
  · subst h0
    have e : Ieee.double.read (Ieee.double.nearest s 0 p) = .number s 0 (-1074) := by
      unfold Ieee.Format.nearest
      rw [if_pos rfl]
      cases s <;> rfl
    rw [e]
    refine ⟨rfl, s, 0, -1074, rfl, ?_⟩
    unfold Ieee.Format.nearest
    rw [if_pos rfl]
    exact fin 0 s (by decide)
  · obtain ⟨L, hL, hL2, hr, hlog, hn⟩ := read_double s m p h0 (by omega) hp0 hp1
    rw [hr]
    refine ⟨rfl, s, _, _, rfl, ?_⟩
    rw [nearest_single s m L p hL2 hlog hn (by
      rcases hm with ⟨h1, h2⟩ | ⟨h1, h2⟩
      · omega
      · have : 23 ≤ m.log2 := (Nat.le_log2 h0).2 h1
        omega)]
    have h1 : (p + 149).toNat ≤ 253 := by omega
    have h2 : m < 2 ^ 24 := by omega
    generalize (p + 149).toNat = q at h1
    rw [Nat.min_eq_left (by omega)]
    exact fin _ _ (by omega)
theorem conv_ok (x : Nat) (h : (FloatKind.f32.format.read x).isNaN = false) : ∃ y z, floatToFloatBits .f32 x .f64 = some y ∧ floatToFloatBits .f64 y .f32 = some z := by
  have hb : Ieee.single.binade = 2 ^ 23 := rfl
  have hl : Ieee.single.leastPlace = -149 := by decide
  have hi : Ieee.single.infRung = 255 * 2 ^ 23 := rfl
  unfold floatToFloatBits
  rw [if_neg (by decide)]
  have key : ∀ s m p, Ieee.single.read x = .number s m p → (-149 ≤ p ∧ p ≤ 104) ∧ ((p = -149 ∧ m < 2 ^ 24) ∨ (2 ^ 23 ≤ m ∧ m < 2 ^ 24)) := fun s m p e => by
    unfold Ieee.Format.read at e
    simp only [hb, hl, hi] at e
    split at e
    · cases e; omega
    · split at e
      · cases e; omega
      · split at e <;> cases e
  have h' : (Ieee.single.read x).isNaN = false := h
  cases hx : Ieee.single.read x with
  | number s m p =>
    obtain ⟨⟨k0, k1⟩, k2⟩ := key s m p hx
    obtain ⟨y, hy, hy1, s2, m2, p2, hy2, hy3⟩ := conv_num s m p k0 k1 k2
    have e1 : FloatKind.f32.decode x = .number s m p := hx
    have e2 : FloatKind.f64.encode (.number s m p) = y := hy
    have e3 : FloatKind.f64.decode y = .number s2 m2 p2 := hy2
    have e4 : (FloatKind.f32.decode (FloatKind.f32.encode (.number s2 m2 p2))).isInfinity = false := hy3
    have e5 : (FloatKind.f64.decode y).isInfinity = false := hy1
    refine ⟨y, FloatKind.f32.encode (.number s2 m2 p2), ?_, ?_⟩
    · rw [e1]
      simp only [e2, e5]
      rfl
    · rw [if_neg (by decide), e3]
      simp only [e4]
      rfl
  | infinity s =>
    have e1 : FloatKind.f32.decode x = .infinity s := hx
    refine ⟨FloatKind.f64.encode (.infinity s), FloatKind.f32.encode (.infinity s), ?_, ?_⟩
    · rw [e1]
    · rw [if_neg (by decide)]
      have e2 : FloatKind.f64.decode (FloatKind.f64.encode (.infinity s)) = .infinity s := by cases s <;> rfl
      rw [e2]
  | nan s t => rw [hx] at h'; cases h'
end Go.Proofs.YtdkhedefcmjjgaaGreatDoor
/- Words for floatBits' walk: a jump to a label that stands ahead; where its two loops end.
Conditions: its point lies from -330 to 310. -/
namespace Go.Proofs.YtdkhedefcmjjgaaGreatDoor
open Go.RowKit Sp
set_option linter.unusedSimpArgs false
set_option linter.unusedVariables false
/-- As Q; by a goto: what stands behind its label, which jumps no more. -/
def landQ (P : Program) (c : Code) (Q : Exit → Act → World → Prop) : Exit → Act → World → Prop
  | .goto l, a, w => ∃ rest, findLabel c l = some rest ∧ rest.wp P (Exit.noGoto Q) a w
  | e, a, w => Q e a w
theorem wp_scope_land {P : Program} {a : Act} {w : World} {Q : Exit → Act → World → Prop} {c : Code} (first : c.wp P (landQ P c Q) a w) : (Code.scope c).wp P Q a w := by
  intro b k cs
  obtain ⟨e, a₁, w₁, hq, harr⟩ := first b (.inScope c :: k) cs
  cases e with
  | normal => exact ⟨.normal, a₁, w₁, hq, .head step_scope (Steps.trans harr (.one step_inScope))⟩
  | exit id => exact ⟨.exit id, a₁, w₁, hq, fun k' hk => .head step_scope (harr k' (by simp [exitTo, hk]))⟩
  | goto l =>
    obtain ⟨rest, hf, hr⟩ := hq
    have hg : gotoIn l (.inScope c :: k) = some (.code rest :: .inScope c :: k) := by simp [gotoIn, hf]
    obtain ⟨e₂, a₂, w₂, hq₂, harr₂⟩ := hr b (.inScope c :: k) cs
    refine ⟨e₂, a₂, w₂, ?_, .of_steps (.head step_scope (harr _ hg)) ?_⟩
    · cases e₂ with
      | goto l' => exact False.elim hq₂
      | _ => exact hq₂
    · cases e₂ with
      | normal => exact Steps.trans harr₂ (.one step_inScope)
      | exit id => exact fun k' hk => harr₂ k' (by simp [exitTo, hk])
      | goto l' => exact False.elim hq₂
      | ret => exact harr₂
      | panic ch => exact harr₂
      | outgrown => exact harr₂
  | ret => exact ⟨_, a₁, w₁, hq, .of_steps (.one step_scope) harr⟩
  | panic ch => exact ⟨_, a₁, w₁, hq, .of_steps (.one step_scope) harr⟩
  | outgrown => exact ⟨_, a₁, w₁, hq, .of_steps (.one step_scope) harr⟩
def dpOf (w : World) (D : Nat) : Int := match w.cell? ⟨D, 801, none⟩ with | some (.int _ n) => n | _ => 0
def f0Of (w : World) (D : Nat) : Nat := match w.cell? ⟨D, 0, none⟩ with | some (.int _ n) => n.toNat | _ => 0
theorem DecAt.dpOf {w : World} {D : Nat} {S : Ds} (h : DecAt w D S) : YtdkhedefcmjjgaaGreatDoor.dpOf w D = S.dp := by
  unfold YtdkhedefcmjjgaaGreatDoor.dpOf
  rw [h.dp]
theorem DecAt.f0Of {w : World} {D : Nat} {S : Ds} (h : DecAt w D S) : YtdkhedefcmjjgaaGreatDoor.f0Of w D = S.f 0 := by
  unfold YtdkhedefcmjjgaaGreatDoor.f0Of
  rw [h.dig (i := 0) (by omega)]
  simp
def mW1 (w : World) (D : Nat) : Nat := (10 * YtdkhedefcmjjgaaGreatDoor.dpOf w D).toNat + YtdkhedefcmjjgaaGreatDoor.f0Of w D
theorem DecAt.mW1 {w : World} {D : Nat} {S : Ds} (h : DecAt w D S) : YtdkhedefcmjjgaaGreatDoor.mW1 w D = mF1 S := by
  unfold YtdkhedefcmjjgaaGreatDoor.mW1 mF1
  rw [h.dpOf, h.f0Of]
def mW2 (w : World) (D : Nat) : Nat := if 0 < YtdkhedefcmjjgaaGreatDoor.dpOf w D then 0 else (10 * (-YtdkhedefcmjjgaaGreatDoor.dpOf w D)).toNat + (60 - YtdkhedefcmjjgaaGreatDoor.f0Of w D)
theorem DecAt.mW2 {w : World} {D : Nat} {S : Ds} (h : DecAt w D S) : YtdkhedefcmjjgaaGreatDoor.mW2 w D = mF2 S := by
  unfold YtdkhedefcmjjgaaGreatDoor.mW2 mF2
  rw [h.dpOf, h.f0Of]
/-- Where the first loop ends. -/
theorem f1_end {S : Ds} (hS : Good S) (hp0 : -330 ≤ S.dp) (hp1 : S.dp ≤ 310) : ∃ T E, runs stepF1 4000 (S, 0) = (T, E) ∧ Good T ∧ -500 ≤ T.dp ∧ T.dp ≤ 0 ∧ 0 ≤ E ∧ E ≤ 108000 := by
  have hm : mF1 S ≤ 3200 := by have := hS.first; unfold mF1; omega
  have hP : ∀ s s' : Ds × Int, (Good s.1 ∧ -500 ≤ s.1.dp ∧ 0 ≤ s.2 ∧ s.2 + 27 * mF1 s.1 ≤ 27 * mF1 S) → stepF1 s = some s' → (Good s'.1 ∧ -500 ≤ s'.1.dp ∧ 0 ≤ s'.2 ∧ s'.2 + 27 * mF1 s'.1 ≤ 27 * mF1 S) ∧ mF1 s'.1 < mF1 s.1 := by
    rintro ⟨T, e⟩ ⟨T', e'⟩ ⟨h1, h2, h3, h4⟩ hs
    have hp : 0 < T.dp := by
      simp only [stepF1] at hs
      split at hs
      · assumption
      · cases hs
    obtain ⟨a, b, c, d, f, g⟩ := stepF1_good h1 hs
    simp only at *
    exact ⟨⟨a, by omega, by omega, by omega⟩, b⟩
  obtain ⟨⟨T, E⟩, hr⟩ : ∃ r, runs stepF1 4000 (S, 0) = r := ⟨_, rfl⟩
  have h0 : Good S ∧ -500 ≤ S.dp ∧ (0 : Int) ≤ 0 ∧ (0 : Int) + 27 * mF1 S ≤ 27 * mF1 S := ⟨hS, by omega, by omega, by omega⟩
  have h1 := runs_inv (P := fun s : Ds × Int => Good s.1 ∧ -500 ≤ s.1.dp ∧ 0 ≤ s.2 ∧ s.2 + 27 * mF1 s.1 ≤ 27 * mF1 S) (fun s s' h hs => (hP s s' h hs).1) 4000 (S, 0) h0
  have h2 := runs_end (P := fun s : Ds × Int => Good s.1 ∧ -500 ≤ s.1.dp ∧ 0 ≤ s.2 ∧ s.2 + 27 * mF1 s.1 ≤ 27 * mF1 S) (m := fun s => mF1 s.1) hP 4000 (S, 0) h0 (by simp only; omega)
  rw [hr] at h1 h2
  obtain ⟨a, b, c, d⟩ := h1
  simp only at a b c d
  refine ⟨T, E, hr, a, b, ?_, c, by omega⟩
  simp only [stepF1] at h2
  split at h2
  · cases h2
  · omega
/-- Where the second loop ends. -/
theorem f2_end {T : Ds} {E : Int} (hT : Good T) (hp0 : -500 ≤ T.dp) (hp1 : T.dp ≤ 0) (hE0 : 0 ≤ E) (hE1 : E ≤ 108000) : ∃ U E2, runs stepF2 6000 (T, E) = (U, E2) ∧ Good U ∧ 0 ≤ U.dp ∧ U.dp ≤ 20 ∧ (U.dp = 0 → 53 ≤ U.f 0) ∧ -162000 ≤ E2 ∧ E2 ≤ 108000 := by
  have hm : mF2 T ≤ 5100 := by
    have := hT.first
    unfold mF2
    split <;> omega
  have hP : ∀ s s' : Ds × Int, (Good s.1 ∧ -500 ≤ s.1.dp ∧ s.1.dp ≤ 20 ∧ s.2 ≤ 108000 ∧ -27 * (mF2 T : Int) + 27 * mF2 s.1 ≤ s.2) → stepF2 s = some s' → (Good s'.1 ∧ -500 ≤ s'.1.dp ∧ s'.1.dp ≤ 20 ∧ s'.2 ≤ 108000 ∧ -27 * (mF2 T : Int) + 27 * mF2 s'.1 ≤ s'.2) ∧ mF2 s'.1 < mF2 s.1 := by
    rintro ⟨U, e⟩ ⟨U', e'⟩ ⟨h1, h2, h3, h4, h5⟩ hs
    have hp : U.dp ≤ 0 := by
      simp only [stepF2] at hs
      split at hs
      · omega
      · cases hs
    obtain ⟨a, b, c, d, f, g⟩ := stepF2_good h1 hs
    simp only at *
    exact ⟨⟨a, by omega, by omega, by omega, by omega⟩, b⟩
  obtain ⟨⟨U, E2⟩, hr⟩ : ∃ r, runs stepF2 6000 (T, E) = r := ⟨_, rfl⟩
  have h0 : Good T ∧ -500 ≤ T.dp ∧ T.dp ≤ 20 ∧ E ≤ 108000 ∧ -27 * (mF2 T : Int) + 27 * mF2 T ≤ E := ⟨hT, by omega, by omega, by omega, by omega⟩
  have h1 := runs_inv (P := fun s : Ds × Int => Good s.1 ∧ -500 ≤ s.1.dp ∧ s.1.dp ≤ 20 ∧ s.2 ≤ 108000 ∧ -27 * (mF2 T : Int) + 27 * mF2 s.1 ≤ s.2) (fun s s' h hs => (hP s s' h hs).1) 6000 (T, E) h0
  have h2 := runs_end (P := fun s : Ds × Int => Good s.1 ∧ -500 ≤ s.1.dp ∧ s.1.dp ≤ 20 ∧ s.2 ≤ 108000 ∧ -27 * (mF2 T : Int) + 27 * mF2 s.1 ≤ s.2) (m := fun s => mF2 s.1) hP 6000 (T, E) h0 (by simp only; omega)
  rw [hr] at h1 h2
  obtain ⟨a, b, c, d, e⟩ := h1
  simp only at a b c d e
  have hn : ¬ (U.dp < 0 ∨ (U.dp = 0 ∧ U.f 0 < 53)) := by
    simp only [stepF2] at h2
    split at h2
    · cases h2
    · assumption
  exact ⟨U, E2, hr, a, by omega, c, by omega, by omega, d⟩
theorem ret_fb {a b : Int} {x y : Bool} {c : Int × Bool} (h : c = (a, x)) (h2 : c = (b, y)) : Ending.returned (.tuple #[.int .u64 a, .bool x]) = Ending.returned (.tuple #[.int .u64 b, .bool y]) := by
  rw [h] at h2
  cases h2
  rfl
end Go.Proofs.YtdkhedefcmjjgaaGreatDoor
