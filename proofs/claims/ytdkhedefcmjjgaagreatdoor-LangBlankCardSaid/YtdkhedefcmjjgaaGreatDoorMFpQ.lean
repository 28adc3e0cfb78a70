/- floatBits, walked: of a decimal whose point lies far behind: too great.
Conditions: its point lies behind place 310. -/
import Derived.Test.YtdkhedefcmjjgaaGreatDoorMFpM
import Derived.Test.YtdkhedefcmjjgaaGreatDoorMFpA
import Derived.Laws.BitsAllLaws
import Derived.Test.YtdkhedefcmjjgaaGreatDoorMFpP
namespace Go.Proofs.YtdkhedefcmjjgaaGreatDoor
open Go.RowKit Sp
set_option linter.unusedSimpArgs false
set_option linter.unusedVariables false
set_option maxRecDepth 20000 in
set_option maxHeartbeats 8000000 in
theorem floatBits_hi (S : Ds) (hS : Good S) (hp0 : 310 < S.dp) (w : World) (D : Nat) (hA : Apart w D) (h : DecAt w D S) :
    Calls Tryz.prog 150 #[.pointer (some ⟨D, 0, none⟩), .pointer (some ⟨14, 0, none⟩)] w fun e w' => e = .returned (.tuple #[.int .u64 (asm64 0 2047), .bool true]) ∧ w.grownBy w' (some D) := by
  have k8 : w.cell? ⟨D, 800, none⟩ = some (.int .i64 S.nd) := h.nd
  have k9 : w.cell? ⟨D, 801, none⟩ = some (.int .i64 S.dp) := h.dp
  have kn := h.ng
  have hz : ((S.nd : Int) == 0) = false := by have := hS.2.1; simp; omega
  have hTb := hA.tabs
  have i0 := hTb.i64.1
  have i1 := hTb.i64.2.1
  have i2 := hTb.i64.2.2
  clear h hS hA hTb
  go_enter Tryz.func150, Tryz.ntmps150
  go_wp2_with fail
  apply wp_scope_land
  go_wp2_with fail
  go_step3
  refine ⟨_, rfl, ?_⟩
  go_wp2_with fail
  try
    go_region
    go_wp2_with fail
  go_step3
  go_wp2_with fail
  try
    go_region
    go_wp2_with fail
  rw [Exit.noGoto_ret]
  go_returns
  exact ⟨rfl, by first | exact gr_refl _ _ | exact gr_drew (gr_refl _ _) | exact gr_drew (gr_drew (gr_refl _ _)) | exact gr_drew (gr_drew (gr_drew (gr_refl _ _)))⟩
end Go.Proofs.YtdkhedefcmjjgaaGreatDoor
/- parseFloat32, walked once more: it tells no NaN.
Conditions: none. -/
namespace Go.Proofs.YtdkhedefcmjjgaaGreatDoor
open Go.RowKit Sp
set_option linter.unusedSimpArgs false
set_option linter.unusedVariables false
theorem div_small {H s : Int} (h0 : 0 ≤ H) (h1 : H ≤ 18446744073709551615) (hs : 37 ≤ s) : 0 ≤ H / 2 ^ s.toNat ∧ H / 2 ^ s.toNat ≤ 134217727 := by
  obtain ⟨k, hk⟩ : ∃ k : Nat, s.toNat = 37 + k := ⟨s.toNat - 37, by omega⟩
  rw [hk]
  have hp : (0 : Int) < 2 ^ (37 + k) := Int.pow_pos (by decide)
  refine ⟨Int.ediv_nonneg h0 (Int.le_of_lt hp), ?_⟩
  have h2 : (2 : Int) ^ 37 ≤ 2 ^ (37 + k) := by
    rw [Int.pow_add]
    have : (1 : Int) ≤ 2 ^ k := Int.pow_pos (by decide)
    have h3 : (0 : Int) ≤ 2 ^ 37 := by decide
    calc (2 : Int) ^ 37 = 2 ^ 37 * 1 := by omega
      _ ≤ 2 ^ 37 * 2 ^ k := Int.mul_le_mul_of_nonneg_left this h3
  have h4 : H / 2 ^ (37 + k) < 134217728 := by
    apply Int.ediv_lt_of_lt_mul hp
    have : (134217728 : Int) * 2 ^ 37 ≤ 134217728 * 2 ^ (37 + k) := Int.mul_le_mul_of_nonneg_left h2 (by decide)
    have e : (134217728 : Int) * 2 ^ 37 = 18446744073709551616 := by decide
    omega
  omega
theorem or_small {a b : Int} (h0 : 0 ≤ a) (h1 : a ≤ 134217727) (h2 : 0 ≤ b) (h3 : b ≤ 134217727) : 0 ≤ bits .or .u64 a b ∧ bits .or .u64 a b ≤ 134217727 := by
  rw [u64_or a b h0 (by omega) h2 (by omega)]
  have : a.toNat ||| b.toNat < 2 ^ 27 := Nat.or_lt_two_pow (by omega) (by omega)
  omega
theorem and63_small (s : Int) (h0 : 0 ≤ s) (h1 : s ≤ 63) : bits .and .i64 s 63 = s := by
  have h : ∀ n : Fin 64, bits .and .i64 ((n.val : Nat) : Int) 63 = ((n.val : Nat) : Int) := by decide
  have := h ⟨s.toNat, by omega⟩
  simp only at this
  rwa [Int.toNat_of_nonneg h0] at this
theorem uscale_b (x hi lo s : Int) (hx0 : 0 ≤ x) (hx1 : x ≤ 18446744073709551615) (hh0 : 0 ≤ hi) (hh1 : hi ≤ 18446744073709551615) (hl0 : 0 ≤ lo) (hl1 : lo ≤ 18446744073709551615) (hs0 : 37 ≤ s) (hs1 : s ≤ 63) :
    ∃ v : Int, (0 ≤ v ∧ v ≤ 134217727) ∧ ∀ w B, w.heap[B]? = some (.cells #[.int .u64 hi, .int .u64 lo, .int .i64 s] 232 (0, 0)) → Calls Tryz.prog 163 #[.int .u64 x, .pointer (some ⟨B, 0, none⟩)] w fun e w' => e = .returned (.int .u64 v) ∧ Below w.heap.size w w' := by
  obtain ⟨c, hc, hcz, hc1, hc0⟩ : ∃ c, bits .and .i64 s 63 = c ∧ 0 ≤ c ∧ c ≤ 63 ∧ 37 ≤ c := ⟨s, and63_small s (by omega) hs1, by omega, hs1, hs0⟩
  obtain ⟨H, L, hH0, hH1, hL0, hL1, M1⟩ := mul64 x hi hx0 hx1 hh0 hh1
  obtain ⟨H2, L2, hH20, hH21, hL20, hL21, M2⟩ := mul64 x lo hx0 hx1 hl0 hl1
  replace M1 := Lib.hid M1
  replace M2 := Lib.hid M2
  cases hb : (IntKind.u64.wrap (H / 2 ^ c.toNat * 2 ^ c.toNat) != H) with
  | true =>
    apply Exists.intro
    case h =>
      refine ⟨?bd, ?wk⟩
      case wk =>
        intro w B hB
        have k0 : w.cell? ⟨B, 0, none⟩ = some (.int .u64 hi) := cell_heap hB 0
        have k1 : w.cell? ⟨B, 1, none⟩ = some (.int .u64 lo) := cell_heap hB 1
        have k2 : w.cell? ⟨B, 2, none⟩ = some (.int .i64 s) := cell_heap hB 2
        clear hB
        go_enter Tryz.func163, Tryz.ntmps163
        go_wp2_with fail
        refine (M1.out w).mono ?_
        rintro e w1 ⟨rfl, rfl⟩
        go_wp2_with fail
        go_ret
        exact ⟨rfl, Below.refl _ _⟩
      case bd =>
        exact or_small (div_small hH0 hH1 hc0).1 (div_small hH0 hH1 hc0).2 (by decide) (by decide)
  | false =>
    apply Exists.intro
    case h =>
      refine ⟨?bd, ?wk⟩
      case wk =>
        intro w B hB
        have k0 : w.cell? ⟨B, 0, none⟩ = some (.int .u64 hi) := cell_heap hB 0
        have k1 : w.cell? ⟨B, 1, none⟩ = some (.int .u64 lo) := cell_heap hB 1
        have k2 : w.cell? ⟨B, 2, none⟩ = some (.int .i64 s) := cell_heap hB 2
        clear hB
        go_enter Tryz.func163, Tryz.ntmps163
        go_wp2_with fail
        refine (M1.out w).mono ?_
        rintro e w1 ⟨rfl, rfl⟩
        go_wp2_with fail
        refine (M2.out w1).mono ?_
        rintro e w1 ⟨rfl, rfl⟩
        go_wp2_with fail
        refine (bool2_u64 _ w1).mono ?_
        rintro e w1 ⟨rfl, rfl⟩
        go_wp2_with fail
        go_region_with (first | (go_at_call 151; refine (bool2_u64 _ _).mono ?_; rintro e w2 ⟨rfl, rfl⟩) | fail)
        go_wp2_with fail
        go_ret
        exact ⟨rfl, (Below.refl _ _).drew⟩
      case bd =>
        have hw := wrap64 (H - tn (decide (L < H2)))
        have ht := tn_bound (decide (1 < IntKind.u64.wrap (L - H2)))
        exact or_small (div_small hw.1 hw.2 hc0).1 (div_small hw.1 hw.2 hc0).2 ht.1 (by omega)
theorem fn32 {v : Nat} (h : v ≤ 2139095040) : FN .f32 v := by
  unfold FN
  show (Ieee.single.read v).isNaN = false
  have hb : Ieee.single.binade = 8388608 := rfl
  have hi : Ieee.single.infRung = 2139095040 := rfl
  have hs : Ieee.single.signWeight = 2147483648 := rfl
  unfold Ieee.Format.read
  simp only [hb, hi, hs]
  rw [Nat.mod_eq_of_lt (by omega)]
  split
  · rfl
  · split
    · rfl
    · rw [if_pos (by omega)]; rfl
theorem mid_b {U T : Int} (h0 : 0 ≤ U) (h1 : U ≤ 134217727) (hT : tn (decide (67108862 ≤ U)) = T) (t0 : 0 ≤ T) (t1 : T ≤ 1) :
    0 ≤ bits BinOp.or IntKind.u64 (U / 2 ^ T.toNat) (bits BinOp.and IntKind.u64 U 1) ∧ bits BinOp.or IntKind.u64 (U / 2 ^ T.toNat) (bits BinOp.and IntKind.u64 U 1) ≤ 67108863 := by
  have ha : 0 ≤ U / 2 ^ T.toNat ∧ U / 2 ^ T.toNat ≤ 67108863 := by
    by_cases h : 67108862 ≤ U
    · have e : T = 1 := by rw [← hT, decide_eq_true h]; rfl
      rw [e]
      show 0 ≤ U / 2 ^ 1 ∧ U / 2 ^ 1 ≤ 67108863
      omega
    · have e : T = 0 := by rw [← hT, decide_eq_false h]; rfl
      rw [e]
      show 0 ≤ U / 2 ^ 0 ∧ U / 2 ^ 0 ≤ 67108863
      omega
  have hb : 0 ≤ bits BinOp.and IntKind.u64 U 1 ∧ bits BinOp.and IntKind.u64 U 1 ≤ 1 := by
    rw [u64_and U 1 h0 (by omega) (by decide) (by decide)]
    have : U.toNat &&& (1 : Int).toNat ≤ 1 := Nat.and_le_right
    omega
  rw [u64_or _ _ ha.1 (by omega) hb.1 (by omega)]
  have : (U / 2 ^ T.toNat).toNat ||| (bits BinOp.and IntKind.u64 U 1).toNat < 2 ^ 26 := Nat.or_lt_two_pow (by omega) (by omega)
  omega
theorem or0_b {r : Int} (h0 : 0 ≤ r) (h1 : r ≤ 16777216) : 0 ≤ bits BinOp.or IntKind.u32 0 (IntKind.u32.wrap r) ∧ bits BinOp.or IntKind.u32 0 (IntKind.u32.wrap r) ≤ 16777216 := by
  have e : IntKind.u32.wrap r = r := by rw [IntKind.wrap_u32]; omega
  rw [e, u32_or 0 r (by decide) (by decide) h0 (by omega)]
  simp
  omega
theorem round_b (x : Int) (h0 : 0 ≤ x) (h1 : x ≤ 67108863) : ∃ v : Int, (0 ≤ v ∧ v ≤ 16777216) ∧ ∀ w, Calls Tryz.prog 166 #[.int .u64 x] w fun e w' => e = .returned (.int .u64 v) ∧ w' = w := by
  apply Exists.intro
  case h =>
    refine ⟨?bd, ?wk⟩
    case wk =>
      intro w
      go_enter Tryz.func166, Tryz.ntmps166
      go_wp2_with fail
      go_ret
      exact ⟨rfl, rfl⟩
    case bd =>
      have hb : 0 ≤ bits BinOp.and IntKind.u64 (x / 4) 1 ∧ bits BinOp.and IntKind.u64 (x / 4) 1 ≤ 1 := by
        rw [u64_and (x / 4) 1 (by omega) (by omega) (by decide) (by decide)]
        have : (x / 4).toNat &&& (1 : Int).toNat ≤ 1 := Nat.and_le_right
        omega
      simp only [IntKind.wrap_u64]
      omega
/-- Below the infinite: the exponent's field and what lies below it. -/
theorem low23 {m : Nat} (h : m < 16777216) : m &&& (4294967295 - 8388608) < 8388608 := by
  apply Nat.lt_pow_two_of_testBit (n := 23)
  intro i hi
  rw [Nat.testBit_and]
  by_cases h23 : i = 23
  · subst h23
    rw [show Nat.testBit (4294967295 - 8388608) 23 = false by decide, Bool.and_false]
  · have : m.testBit i = false := Nat.testBit_lt_two_pow (Nat.lt_of_lt_of_le h (by
      have : 2 ^ 24 ≤ 2 ^ i := Nat.pow_le_pow_right (by decide) (by omega)
      omega))
    rw [this, Bool.false_and]
theorem pk_nor {m e : Int} (hm0 : 0 ≤ m) (hm1 : m ≤ 16777216) (hb : (bits BinOp.and IntKind.u32 m 8388608 == 0) = false) (he0 : -149 ≤ e) (h2 : e < 105) :
    FN .f32 (bits BinOp.or IntKind.u32 (bits BinOp.andNot IntKind.u32 m 8388608) ((150 + e) * 8388608)).toNat := by
  have hm2 : m < 16777216 := by
    rcases Int.lt_or_le m 16777216 with h | h
    · exact h
    · have : m = 16777216 := by omega
      subst this
      exact absurd hb (by decide)
  rw [u32_andNot m 8388608 hm0 (by omega) (by decide) (by decide)]
  have hl := low23 (m := m.toNat) (by omega)
  have h3 : (8388608 : Int).toNat = 8388608 := rfl
  rw [h3]
  generalize m.toNat &&& (4294967295 - 8388608) = x at hl
  rw [u32_or _ _ (by omega) (by omega) (by omega) (by omega)]
  apply fn32
  obtain ⟨k, hk⟩ : ∃ k : Nat, 150 + e = k := ⟨(150 + e).toNat, by omega⟩
  have hk2 : k ≤ 254 := by omega
  rw [hk]
  have e3 : ((k : Int) * 8388608).toNat = 2 ^ 23 * k := by omega
  rw [e3, Int.toNat_natCast, Int.toNat_natCast, Nat.or_comm, ← Nat.two_pow_add_eq_or_of_lt (by omega)]
  omega
theorem pk_inf {m : Int} (hm0 : 0 ≤ m) (hm1 : m ≤ 16777216) : FN .f32 (bits BinOp.or IntKind.u32 (bits BinOp.and IntKind.u32 m 2147483648) 2139095040).toNat := by
  rw [u32_and m 2147483648 hm0 (by omega) (by decide) (by decide)]
  have : m.toNat &&& (2147483648 : Int).toNat = 0 := by
    show m.toNat &&& 2 ^ 31 = 0
    apply Nat.eq_of_testBit_eq
    intro i
    rw [Nat.testBit_and, Nat.zero_testBit]
    by_cases h : i = 31
    · subst h
      rw [Nat.testBit_lt_two_pow (by omega), Bool.false_and]
    · rw [Nat.testBit_two_pow_of_ne (fun e => h e.symm), Bool.and_false]
  rw [this]
  exact fn32 (by decide)
theorem pack32_fn (m e : Int) (hm0 : 0 ≤ m) (hm1 : m ≤ 16777216) (he0 : -149 ≤ e) (he1 : e ≤ 100000) :
    ∃ v : Nat, ∃ er : Value, FN .f32 v ∧ (er = .nilIface ∨ er = .iface 100 (.int .i64 1)) ∧ ∀ w, Calls Tryz.prog 165 #[.int .u32 m, .int .i64 e] w fun e' w' => e' = .returned (.tuple #[.float .f32 v, er]) ∧ w' = w := by
  have ff := from32
  cases hb : (bits BinOp.and IntKind.u32 m 8388608 == 0) with
  | true =>
    apply Exists.intro
    case h =>
      refine ⟨.nilIface, ?bd, .inl rfl, ?wk⟩
      case wk =>
        intro w
        go_enter Tryz.func165, Tryz.ntmps165
        go_wp2_with fail
        go_returns
        exact ⟨rfl, rfl⟩
      case bd => exact fn32 (by omega)
  | false =>
    rcases Int.lt_or_le e 105 with h2 | h2
    · apply Exists.intro
      case h =>
        refine ⟨.nilIface, ?bd, .inl rfl, ?wk⟩
        case wk =>
          intro w
          go_enter Tryz.func165, Tryz.ntmps165
          go_wp2_with fail
          go_returns
          exact ⟨rfl, rfl⟩
        case bd => exact pk_nor hm0 hm1 hb he0 h2
    · apply Exists.intro
      case h =>
        refine ⟨.iface 100 (.int .i64 1), ?bd, .inr rfl, ?wk⟩
        case wk =>
          intro w
          go_enter Tryz.func165, Tryz.ntmps165
          go_wp2_with fail
          go_returns
          exact ⟨rfl, rfl⟩
        case bd => exact pk_inf hm0 hm1
set_option maxHeartbeats 1000000 in
theorem parse32_fn (d p : Int) (hd0 : 1 ≤ d) (hd1 : d ≤ 18446744073709551615) (hp0 : -345 ≤ p) (hp1 : p ≤ 310) :
    ∃ v : Nat, ∃ er : Value, FN .f32 v ∧ (er = .nilIface ∨ er = .iface 100 (.int .i64 1)) ∧ ∀ w, Tabs w → Calls Tryz.prog 148 #[.int .u64 d, .int .i64 p, .int .u32 0] w fun e' w' => e' = .returned (.tuple #[.float .f32 v, er]) ∧ Below w.heap.size w w' := by
  have ff := from32
  obtain ⟨b, hb0, hb1, HL⟩ := len64_any d hd0 hd1
  have hlp : ∃ lp, p * 108853 / 32768 = lp ∧ -1147 ≤ lp ∧ lp ≤ 1030 := ⟨_, rfl, by omega, by omega⟩
  obtain ⟨lp, hl, hl0, hl1⟩ := hlp
  have HP := Lib.hid (fun w => log2Pow10_any p w (by omega) (by omega))
  rw [hl] at HP
  replace HL := Lib.hid HL
  obtain ⟨E, hE, hE0, hE1, hE2⟩ : ∃ E, min 149 (24 - b - lp) = E ∧ E ≤ 149 ∧ E ≤ 24 - b - lp ∧ -1080 ≤ E := ⟨_, rfl, by omega, by omega, by omega⟩
  obtain ⟨hi, lo, hh0, hh1, ho0, ho1, HPS⟩ := prescale_any (E - (64 - b)) p lp (by omega) (by omega) (by omega) (by omega) (by omega) (by omega)
  replace HPS := Lib.hid HPS
  obtain ⟨S, hS, hS0⟩ : ∃ S, -(E - (64 - b) + lp + 3) = S ∧ 37 ≤ S := ⟨_, rfl, by omega⟩
  rw [hS] at HPS
  clear hl hS
  rcases Int.lt_or_le S 64 with h2 | h2
  · obtain ⟨U, ⟨hU0, hU1⟩, HU⟩ := uscale_b (IntKind.u64.wrap (d * 2 ^ (64 - b).toNat)) hi lo S (wrap64 _).1 (wrap64 _).2 hh0 hh1 ho0 ho1 hS0 (by omega)
    obtain ⟨T, hT, ht0, ht1⟩ : ∃ T, tn (decide (67108862 ≤ U)) = T ∧ 0 ≤ T ∧ T ≤ 1 := ⟨_, rfl, (tn_bound _).1, (tn_bound _).2⟩
    have hx := mid_b hU0 hU1 hT ht0 ht1
    obtain ⟨r, ⟨hr0, hr1⟩, HR⟩ := round_b (bits BinOp.or IntKind.u64 (U / 2 ^ T.toNat) (bits BinOp.and IntKind.u64 U 1)) hx.1 hx.2
    have hm := or0_b hr0 hr1
    obtain ⟨v, er, hfn, her, HK⟩ := pack32_fn (bits BinOp.or IntKind.u32 0 (IntKind.u32.wrap r)) (-(E - T)) hm.1 hm.2 (by omega) (by omega)
    clear hm hx hr0 hr1
    replace HU := Lib.hid HU
    replace HR := Lib.hid HR
    replace HK := Lib.hid HK
    refine ⟨v, er, hfn, her, fun w hTb => ?_⟩
    clear hfn
    have HT := Lib.hid hTb
    clear hTb her
    go_enter Tryz.func148, Tryz.ntmps148
    go_wp2_with fail
    refine (HL.out _).mono ?_
    rintro e w1 ⟨rfl, rfl⟩
    go_wp2_with fail
    refine (HP.out _).mono ?_
    rintro e w1 ⟨rfl, rfl⟩
    go_wp2_with fail
    have hn := heap_alloc_new w1 (.cells #[.int .u64 0, .int .u64 0, .int .i64 0] 232)
    refine (HPS.out _ _ _ _ _ (HT.out.old ((Below.refl _ _).alloc (Nat.le_refl _) _)) hn (by have := HT.out.size; omega)).mono ?_
    rintro e w2 ⟨rfl, hw2⟩
    have m : w2.heap[w1.heap.size]? = some (.cells #[.int .u64 hi, .int .u64 lo, .int .i64 S] 232 (0, 0)) := by
      rw [hw2]
      exact set_heap (set_heap (set_heap hn 0 _) 1 _) 2 _
    have hb : Below w1.heap.size w1 w2 := by
      rw [hw2]
      exact ((((Below.refl _ _).alloc (Nat.le_refl _) _).setCell (Nat.le_refl _) _).setCell (Nat.le_refl _) _).setCell (Nat.le_refl _) _
    have M := Lib.hid m
    have HB := Lib.hid hb
    have k2 : w2.cell? ⟨w1.heap.size, 2, none⟩ = some (.int .i64 S) := cell_heap m 2
    clear m hb hn hw2
    go_wp2_with fail
    refine (HU.out _ _ M.out).mono ?_
    rintro e w3 ⟨rfl, hb3⟩
    have HB3 := Lib.hid (HB.out.trans (hb3.mono HB.out.size))
    clear hb3 M k2 HB
    go_wp2_with fail
    refine (unmin_24 _).mono ?_
    rintro e w4 ⟨rfl, rfl⟩
    go_wp2_with fail
    refine (bool2_int _ _).mono ?_
    rintro e w5 ⟨rfl, rfl⟩
    go_wp2_with fail
    refine (HR.out _).mono ?_
    rintro e w6 ⟨rfl, rfl⟩
    go_wp2_with fail
    refine (HK.out _).mono ?_
    rintro e w7 ⟨rfl, rfl⟩
    go_wp2_with fail
    go_returns
    exact ⟨rfl, HB3.out⟩
  · refine ⟨(bits BinOp.or IntKind.u32 0 0).toNat, .nilIface, fn32 (by decide), .inl rfl, fun w hTb => ?_⟩
    have HT := Lib.hid hTb
    clear hTb
    go_enter Tryz.func148, Tryz.ntmps148
    go_wp2_with fail
    refine (HL.out _).mono ?_
    rintro e w1 ⟨rfl, rfl⟩
    go_wp2_with fail
    refine (HP.out _).mono ?_
    rintro e w1 ⟨rfl, rfl⟩
    go_wp2_with fail
    have hn := heap_alloc_new w1 (.cells #[.int .u64 0, .int .u64 0, .int .i64 0] 232)
    refine (HPS.out _ _ _ _ _ (HT.out.old ((Below.refl _ _).alloc (Nat.le_refl _) _)) hn (by have := HT.out.size; omega)).mono ?_
    rintro e w2 ⟨rfl, hw2⟩
    have m : w2.heap[w1.heap.size]? = some (.cells #[.int .u64 hi, .int .u64 lo, .int .i64 S] 232 (0, 0)) := by
      rw [hw2]
      exact set_heap (set_heap (set_heap hn 0 _) 1 _) 2 _
    have hb : Below w1.heap.size w1 w2 := by
      rw [hw2]
      exact ((((Below.refl _ _).alloc (Nat.le_refl _) _).setCell (Nat.le_refl _) _).setCell (Nat.le_refl _) _).setCell (Nat.le_refl _) _
    have HB := Lib.hid hb
    have k2 : w2.cell? ⟨w1.heap.size, 2, none⟩ = some (.int .i64 S) := cell_heap m 2
    clear m hb hn hw2
    go_wp2_with fail
    go_returns
    exact ⟨rfl, HB.out⟩
end Go.Proofs.YtdkhedefcmjjgaaGreatDoor
/- atof32exact, walked once more: it tells no NaN; what floatBits tells of a float32 is none either.
Conditions: none. -/
namespace Go.Proofs.YtdkhedefcmjjgaaGreatDoor
open Go.RowKit Sp
set_option linter.unusedSimpArgs false
set_option linter.unusedVariables false
theorem and_le_mod (n M K : Nat) : n &&& (M % K) ≤ M := Nat.le_trans Nat.and_le_right (Nat.mod_le _ _)
theorem bits_and_le (x y : Int) : 0 ≤ bits .and .u64 x y ∧ bits .and .u64 x y ≤ ((BitVec.ofInt 64 y).toNat : Int) := by
  have h : (BitVec.ofInt 64 x &&& BitVec.ofInt 64 y).toNat ≤ (BitVec.ofInt 64 y).toNat := by
    rw [BitVec.toNat_and]
    exact Nat.and_le_right
  have h2 : (BitVec.ofInt 64 x &&& BitVec.ofInt 64 y).toNat < 2 ^ 64 := (BitVec.ofInt 64 x &&& BitVec.ofInt 64 y).isLt
  show 0 ≤ IntKind.u64.wrap ((BitVec.ofInt 64 x &&& BitVec.ofInt 64 y).toNat : Int) ∧ IntKind.u64.wrap ((BitVec.ofInt 64 x &&& BitVec.ofInt 64 y).toNat : Int) ≤ _
  rw [IntKind.wrap_u64]
  omega
theorem and_low (m : Int) : 0 ≤ bits .and .u64 m 8388607 ∧ bits .and .u64 m 8388607 ≤ 8388607 := by
  have h := bits_and_le m 8388607
  have e : (BitVec.ofInt 64 8388607).toNat = 8388607 := by decide
  rw [e] at h
  exact h
set_option maxRecDepth 20000 in
theorem asm32_fn {m x : Int} (h : (0 ≤ x ∧ x ≤ 254) ∨ (m = 0 ∧ x = 255)) : 0 ≤ asm32 m x ∧ asm32 m x ≤ 2139095040 := by
  unfold asm32
  rcases h with ⟨h0, h1⟩ | ⟨rfl, rfl⟩
  · have hx : bits .and .i64 x 255 = x := by
      have hh : ∀ n : Fin 255, bits .and .i64 ((n.val : Nat) : Int) 255 = ((n.val : Nat) : Int) := by decide
      have := hh ⟨x.toNat, by omega⟩
      simp only at this
      rwa [Int.toNat_of_nonneg h0] at this
    rw [hx]
    have e1 : IntKind.u64.wrap (IntKind.u64.wrap x * 8388608) = x * 8388608 := by
      rw [IntKind.wrap_u64, IntKind.wrap_u64]; omega
    rw [e1]
    have hb : 0 ≤ bits .and .u64 m 8388607 ∧ bits .and .u64 m 8388607 ≤ 8388607 := and_low m
    rw [u64_or _ _ hb.1 (by omega) (by omega) (by omega)]
    generalize bits .and .u64 m 8388607 = y at hb
    obtain ⟨k, hk⟩ : ∃ k : Nat, x = k := ⟨x.toNat, by omega⟩
    rw [hk]
    have e3 : ((k : Int) * 8388608).toNat = 2 ^ 23 * k := by omega
    rw [e3, Nat.or_comm, ← Nat.two_pow_add_eq_or_of_lt (by omega)]
    omega
  · decide
theorem fb32_fn {E v b : Int} {ovf : Bool} (hE : -126 ≤ E) (h : fb32 E v = (b, ovf)) : 0 ≤ b ∧ b ≤ 2139095040 := by
  unfold fb32 at h
  split at h
  · cases h; exact asm32_fn (.inr ⟨rfl, rfl⟩)
  · split at h
    · split at h
      · cases h; exact asm32_fn (.inr ⟨rfl, rfl⟩)
      · split at h
        · cases h; exact asm32_fn (.inl ⟨by omega, by omega⟩)
        · cases h; exact asm32_fn (.inl ⟨by omega, by omega⟩)
    · split at h
      · cases h; exact asm32_fn (.inl ⟨by omega, by omega⟩)
      · cases h; exact asm32_fn (.inl ⟨by omega, by omega⟩)
set_option maxHeartbeats 2000000 in
theorem exact32_fn (d p : Int) (hd0 : 1 ≤ d) (hd1 : d ≤ 18446744073709551615) (hp0 : -345 ≤ p) (hp1 : p ≤ 310) :
    ∃ v : Nat, ∃ ok : Bool, (ok = true → FN .f32 v) ∧ ∀ w, Tabs w → Calls Tryz.prog 147 #[.int .u64 d, .int .i64 p, .bool false] w fun e' w' => e' = .returned (.tuple #[.float .f32 v, .bool ok]) ∧ w' = w := by
  have harith : ∀ (op : BinOp) (x y r : Nat) (w : World), floatBits op .f32 x y = some r → (binOp op 170 (.float .f32 x) (.float .f32 y)).run Tryz.prog w = .ok (.float .f32 r) w := fun op x y r w h => run_float_arith w op 170 .f32 x y r h
  cases hm : (d / 8388608 != 0) with
  | true =>
    refine ⟨0, false, (fun h => by cases h), fun w hT => ?_⟩
    have k0 := hT.i64.1
    clear hT harith
    go_enter Tryz.func147, Tryz.ntmps147
    go_wp2_with fail
    go_returns
    exact ⟨rfl, rfl⟩
  | false =>
    have FI := FN_int .f32 d
    rcases Int.lt_or_le 0 p with h1 | h1
    · rcases Int.lt_or_le 17 p with h2 | h2
      · refine ⟨floatOfInt .f32 d, false, (fun h => by cases h), fun w hT => ?_⟩
        have k0 := hT.i64.1
        clear hT harith FI
        go_enter Tryz.func147, Tryz.ntmps147
        go_wp2_with fail
        go_returns
        exact ⟨rfl, rfl⟩
      · rcases Int.lt_or_le 10 p with h3 | h3
        · obtain ⟨x, hx, hxp⟩ := pow32_at (p - 10).toNat (by omega)
          obtain ⟨y, hy, hyp⟩ := pow32_at 10 (by omega)
          obtain ⟨r, hr, hrn⟩ := mul_some FI hxp
          obtain ⟨r2, hr2, hn2⟩ := mul_some hrn hyp
          have A1 := fun w => harith .mul _ _ _ w hr
          have A2 := fun w => harith .mul _ _ _ w hr2
          clear harith hr hr2 hxp hyp FI hrn
          cases ht1 : (FloatKind.f32.format.order r 1259902592 == some .gt) with
          | true =>
            refine ⟨r, false, (fun h => by cases h), fun w hT => ?_⟩
            have k0 := hT.i64.1
            obtain ⟨R, o, c, k1, hc, k2⟩ := hT.p32
            have k3 := pow32_cell k2 hx
            have k4 := pow32_cell k2 hy
            replace k1 : w.cell? ⟨15, 0, none⟩ = some (.slice (some ⟨R, o, none⟩) (10 + 1) c) := k1
            clear hT k2 hx hy
            go_enter Tryz.func147, Tryz.ntmps147
            go_wp2_with fail
            go_returns
            exact ⟨rfl, rfl⟩
          | false =>
            cases ht2 : (FloatKind.f32.format.order r 3407386240 == some .lt) with
            | true =>
              refine ⟨r, false, (fun h => by cases h), fun w hT => ?_⟩
              have k0 := hT.i64.1
              obtain ⟨R, o, c, k1, hc, k2⟩ := hT.p32
              have k3 := pow32_cell k2 hx
              have k4 := pow32_cell k2 hy
              replace k1 : w.cell? ⟨15, 0, none⟩ = some (.slice (some ⟨R, o, none⟩) (10 + 1) c) := k1
              clear hT k2 hx hy
              go_enter Tryz.func147, Tryz.ntmps147
              go_wp2_with fail
              go_returns
              exact ⟨rfl, rfl⟩
            | false =>
              refine ⟨r2, true, (fun _ => hn2), fun w hT => ?_⟩
              have k0 := hT.i64.1
              obtain ⟨R, o, c, k1, hc, k2⟩ := hT.p32
              have k3 := pow32_cell k2 hx
              have k4 := pow32_cell k2 hy
              replace k1 : w.cell? ⟨15, 0, none⟩ = some (.slice (some ⟨R, o, none⟩) (10 + 1) c) := k1
              clear hT k2 hx hy
              go_enter Tryz.func147, Tryz.ntmps147
              go_wp2_with fail
              go_returns
              exact ⟨rfl, rfl⟩
        · obtain ⟨x, hx, hxp⟩ := pow32_at p.toNat (by omega)
          obtain ⟨r2, hr2, hn2⟩ := mul_some FI hxp
          have A2 := fun w => harith .mul _ _ _ w hr2
          clear harith hr2 hxp FI
          cases ht1 : (FloatKind.f32.format.order (floatOfInt .f32 d) 1259902592 == some .gt) with
          | true =>
            refine ⟨floatOfInt .f32 d, false, (fun h => by cases h), fun w hT => ?_⟩
            have k0 := hT.i64.1
            clear hT hx A2
            go_enter Tryz.func147, Tryz.ntmps147
            go_wp2_with fail
            go_returns
            exact ⟨rfl, rfl⟩
          | false =>
            cases ht2 : (FloatKind.f32.format.order (floatOfInt .f32 d) 3407386240 == some .lt) with
            | true =>
              refine ⟨floatOfInt .f32 d, false, (fun h => by cases h), fun w hT => ?_⟩
              have k0 := hT.i64.1
              clear hT hx A2
              go_enter Tryz.func147, Tryz.ntmps147
              go_wp2_with fail
              go_returns
              exact ⟨rfl, rfl⟩
            | false =>
              refine ⟨r2, true, (fun _ => hn2), fun w hT => ?_⟩
              have k0 := hT.i64.1
              obtain ⟨R, o, c, k1, hc, k2⟩ := hT.p32
              have k3 := pow32_cell k2 hx
              replace k1 : w.cell? ⟨15, 0, none⟩ = some (.slice (some ⟨R, o, none⟩) (10 + 1) c) := k1
              clear hT k2 hx
              go_enter Tryz.func147, Tryz.ntmps147
              go_wp2_with fail
              go_returns
              exact ⟨rfl, rfl⟩
    · rcases Int.lt_or_le p 0 with h2 | h2
      · rcases Int.lt_or_le p (-10) with h3 | h3
        · refine ⟨floatOfInt .f32 d, false, (fun h => by cases h), fun w hT => ?_⟩
          have k0 := hT.i64.1
          clear hT harith FI
          go_enter Tryz.func147, Tryz.ntmps147
          go_wp2_with fail
          go_returns
          exact ⟨rfl, rfl⟩
        · obtain ⟨x, hx, hxp⟩ := pow32_at (-p).toNat (by omega)
          obtain ⟨r2, hr2, hn2⟩ := div_some FI hxp
          have A2 := fun w => harith .quo _ _ _ w hr2
          clear harith hr2 hxp FI
          refine ⟨r2, true, (fun _ => hn2), fun w hT => ?_⟩
          have k0 := hT.i64.1
          obtain ⟨R, o, c, k1, hc, k2⟩ := hT.p32
          have k3 := pow32_cell k2 hx
          replace k1 : w.cell? ⟨15, 0, none⟩ = some (.slice (some ⟨R, o, none⟩) (10 + 1) c) := k1
          clear hT k2 hx
          go_enter Tryz.func147, Tryz.ntmps147
          go_wp2_with fail
          go_returns
          exact ⟨rfl, rfl⟩
      · obtain rfl : p = 0 := by omega
        refine ⟨floatOfInt .f32 d, true, (fun _ => FI), fun w hT => ?_⟩
        have k0 := hT.i64.1
        clear hT harith FI
        go_enter Tryz.func147, Tryz.ntmps147
        go_wp2_with fail
        go_returns
        exact ⟨rfl, rfl⟩
end Go.Proofs.YtdkhedefcmjjgaaGreatDoor
