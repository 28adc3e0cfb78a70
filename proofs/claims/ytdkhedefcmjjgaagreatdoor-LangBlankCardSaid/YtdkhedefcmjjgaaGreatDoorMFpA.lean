/- Small functions of internal/strconv, walked: scaling by a power of ten.
Conditions: none. -/
import Derived.Test.YtdkhedefcmjjgaaGreatDoorMSpec
import Derived.Test.YtdkhedefcmjjgaaGreatDoorMShelf
import Derived.Laws.Externs
import Derived.Deep.RegionWith
import Derived.Handy
import Derived.Laws.FloatArith
namespace Go.Proofs.YtdkhedefcmjjgaaGreatDoor
open Go.RowKit Sp
set_option linter.unusedSimpArgs false
set_option linter.unusedVariables false
theorem log2Pow10_any (x : Int) (w : World) (h0 : -100000 ≤ x) (h1 : x ≤ 100000) : Calls Tryz.prog 161 #[.int .i64 x] w fun e w' => e = .returned (.int .i64 (x * 108853 / 32768)) ∧ w' = w := by
  go_enter Tryz.func161, Tryz.ntmps161
  go_wp2_with fail
  go_ret
  exact ⟨rfl, rfl⟩
theorem unmin_53 (w : World) : Calls Tryz.prog 164 #[.int .u64 9007199254740992] w fun e w' => e = .returned (.int .u64 36028797018963966) ∧ w' = w := by
  go_enter Tryz.func164, Tryz.ntmps164
  go_wp2_with fail
  go_ret
  exact ⟨rfl, rfl⟩
theorem unmin_24 (w : World) : Calls Tryz.prog 164 #[.int .u64 16777216] w fun e w' => e = .returned (.int .u64 67108862) ∧ w' = w := by
  go_enter Tryz.func164, Tryz.ntmps164
  go_wp2_with fail
  go_ret
  exact ⟨rfl, rfl⟩
theorem round_any (x : Int) : ∃ v : Int, ∀ w, Calls Tryz.prog 166 #[.int .u64 x] w fun e w' => e = .returned (.int .u64 v) ∧ w' = w := by
  apply Exists.intro
  intro w
  go_enter Tryz.func166, Tryz.ntmps166
  go_wp2_with fail
  go_ret
  exact ⟨rfl, rfl⟩
theorem and63 (s : Int) : ∃ c, bits .and .i64 s 63 = c ∧ 0 ≤ c ∧ c ≤ 63 := by
  refine ⟨_, rfl, ?_⟩
  have e : ∀ n : Nat, n &&& (63 % 2 ^ IntKind.i64.bits) ≤ 63 := fun n => Nat.and_le_right
  have := e (s % 2 ^ IntKind.i64.bits).toNat
  have e2 : bits .and .i64 s 63 = IntKind.i64.wrap (((s % 2 ^ IntKind.i64.bits).toNat &&& (63 % 2 ^ IntKind.i64.bits) : Nat) : Int) := by simp [bits]
  rw [e2, IntKind.wrap_i64]
  omega
theorem mul64 (x y : Int) (hx0 : 0 ≤ x) (hx1 : x ≤ 18446744073709551615) (hy0 : 0 ≤ y) (hy1 : y ≤ 18446744073709551615) : ∃ h l : Int, 0 ≤ h ∧ h ≤ 18446744073709551615 ∧ 0 ≤ l ∧ l ≤ 18446744073709551615 ∧
    ∀ w, Calls Tryz.prog 170 #[.int .u64 x, .int .u64 y] w fun e w' => e = .returned (.tuple #[.int .u64 h, .int .u64 l]) ∧ w' = w := by
  refine ⟨((x.toNat * y.toNat / 18446744073709551616 : Nat) : Int), ((x.toNat * y.toNat % 18446744073709551616 : Nat) : Int), by omega, ?_, by omega, by omega, fun w => ?_⟩
  · have : x.toNat * y.toNat ≤ 18446744073709551615 * 18446744073709551615 := Nat.mul_le_mul (by omega) (by omega)
    omega
  · have := Tryz.bits_Mul64 x.toNat y.toNat (by omega) (by omega) w
    rw [Int.toNat_of_nonneg hx0, Int.toNat_of_nonneg hy0] at this
    exact this
/-- A truth as a number. -/
def tn (b : Bool) : Int := match b with | true => 1 | false => 0
theorem tn_bound (b : Bool) : 0 ≤ tn b ∧ tn b ≤ 1 := by cases b <;> decide
theorem bool2_u64 (b : Bool) (w : World) : Calls Tryz.prog 151 #[.bool b] w fun e w' => e = .returned (.int .u64 (tn b)) ∧ w' = w := by
  cases b with
  | true =>
    go_enter Tryz.func151, Tryz.ntmps151
    go_wp2_with fail
    go_ret
    exact ⟨rfl, rfl⟩
  | false =>
    go_enter Tryz.func151, Tryz.ntmps151
    go_wp2_with fail
    go_ret
    exact ⟨rfl, rfl⟩
theorem bool2_u32 (b : Bool) (w : World) : Calls Tryz.prog 145 #[.bool b] w fun e w' => e = .returned (.int .u32 (tn b)) ∧ w' = w := by
  cases b with
  | true =>
    go_enter Tryz.func145, Tryz.ntmps145
    go_wp2_with fail
    go_ret
    exact ⟨rfl, rfl⟩
  | false =>
    go_enter Tryz.func145, Tryz.ntmps145
    go_wp2_with fail
    go_ret
    exact ⟨rfl, rfl⟩
theorem bool2_int (b : Bool) (w : World) : Calls Tryz.prog 100 #[.bool b] w fun e w' => e = .returned (.int .i64 (tn b)) ∧ w' = w := by
  cases b with
  | true =>
    go_enter Tryz.func100, Tryz.ntmps100
    go_wp2_with fail
    go_ret
    exact ⟨rfl, rfl⟩
  | false =>
    go_enter Tryz.func100, Tryz.ntmps100
    go_wp2_with fail
    go_ret
    exact ⟨rfl, rfl⟩
theorem uscale_any (x hi lo s : Int) (hx0 : 0 ≤ x) (hx1 : x ≤ 18446744073709551615) (hh0 : 0 ≤ hi) (hh1 : hi ≤ 18446744073709551615) (hl0 : 0 ≤ lo) (hl1 : lo ≤ 18446744073709551615) :
    ∃ v : Int, ∀ w B, w.heap[B]? = some (.cells #[.int .u64 hi, .int .u64 lo, .int .i64 s] 232 (0, 0)) → Calls Tryz.prog 163 #[.int .u64 x, .pointer (some ⟨B, 0, none⟩)] w fun e w' => e = .returned (.int .u64 v) ∧ Below w.heap.size w w' := by
  obtain ⟨c, hc, hc0, hc1⟩ := and63 s
  obtain ⟨H, L, hH0, hH1, hL0, hL1, M1⟩ := mul64 x hi hx0 hx1 hh0 hh1
  obtain ⟨H2, L2, hH20, hH21, hL20, hL21, M2⟩ := mul64 x lo hx0 hx1 hl0 hl1
  replace M1 := Lib.hid M1
  replace M2 := Lib.hid M2
  cases hb : (IntKind.u64.wrap (H / 2 ^ c.toNat * 2 ^ c.toNat) != H) with
  | true =>
    apply Exists.intro
    intro w B hB
    have k0 : w.cell? ⟨B, 0, none⟩ = some (.int .u64 hi) := cell_heap hB 0
    have k1 : w.cell? ⟨B, 1, none⟩ = some (.int .u64 lo) := cell_heap hB 1
    have k2 : w.cell? ⟨B, 2, none⟩ = some (.int .i64 s) := cell_heap hB 2
    clear hB
    go_enter Tryz.func163, Tryz.ntmps163
    go_wp2_with fail
    refine (M1.out w).mono ?_
    rintro e w1 ⟨rfl, rfl⟩
    go_wp2_with fail
    go_ret
    exact ⟨rfl, Below.refl _ _⟩
  | false =>
    apply Exists.intro
    case h =>
      intro w B hB
      have k0 : w.cell? ⟨B, 0, none⟩ = some (.int .u64 hi) := cell_heap hB 0
      have k1 : w.cell? ⟨B, 1, none⟩ = some (.int .u64 lo) := cell_heap hB 1
      have k2 : w.cell? ⟨B, 2, none⟩ = some (.int .i64 s) := cell_heap hB 2
      clear hB
      go_enter Tryz.func163, Tryz.ntmps163
      go_wp2_with fail
      refine (M1.out w).mono ?_
      rintro e w1 ⟨rfl, rfl⟩
      go_wp2_with fail
      refine (M2.out w1).mono ?_
      rintro e w1 ⟨rfl, rfl⟩
      go_wp2_with fail
      refine (bool2_u64 _ w1).mono ?_
      rintro e w1 ⟨rfl, rfl⟩
      go_wp2_with fail
      go_region_with (first | (go_at_call 151; refine (bool2_u64 _ _).mono ?_; rintro e w2 ⟨rfl, rfl⟩) | fail)
      go_wp2_with fail
      go_ret
      exact ⟨rfl, (Below.refl _ _).drew⟩
/-- prescale writes the three numbers. -/
theorem prescale_any (e p lp : Int) (hp0 : -348 ≤ p) (hp1 : p ≤ 347) (he0 : -100000 ≤ e) (he1 : e ≤ 100000) (hl0 : -100000 ≤ lp) (hl1 : lp ≤ 100000) :
    ∃ hi lo : Int, 0 ≤ hi ∧ hi ≤ 18446744073709551615 ∧ 0 ≤ lo ∧ lo ≤ 18446744073709551615 ∧ ∀ w B c0 c1 c2, Tabs w → w.heap[B]? = some (.cells #[c0, c1, c2] 232 (0, 0)) → 18 < B →
      Calls Tryz.prog 162 #[.pointer (some ⟨B, 0, none⟩), .int .i64 e, .int .i64 p, .int .i64 lp] w fun e' w' => e' = .returned (.tuple #[]) ∧ w' = ((w.setCell ⟨B, 0, none⟩ (.int .u64 hi)).setCell ⟨B, 1, none⟩ (.int .u64 lo)).setCell ⟨B, 2, none⟩ (.int .i64 (-(e + lp + 3))) := by
  obtain ⟨x, hx⟩ : ∃ x, Go.Pinned.pow10Rows[(p + 348).toNat]? = some x := ⟨_, List.getElem?_eq_getElem (by
    have : Go.Pinned.pow10Rows.length = 696 := by kernel_rfl
    omega)⟩
  have hall : (Go.Pinned.pow10Rows.all fun x => decide (x.1 ≤ 18446744073709551615) && decide (x.2 ≤ 18446744073709551615)) = true := by kernel_rfl
  have hxb := List.all_eq_true.1 hall x (List.mem_of_getElem? hx)
  simp only [Bool.and_eq_true, decide_eq_true_eq] at hxb
  clear hall
  refine ⟨(x.1 : Nat), (x.2 : Nat), by omega, by omega, by omega, by omega, fun w B c0 c1 c2 hT hB h20 => ?_⟩
  have k0 : w.cell? ⟨B, 0, none⟩ = some c0 := cell_heap hB 0
  have k1 : w.cell? ⟨B, 1, none⟩ = some c1 := cell_heap hB 1
  have k2 : w.cell? ⟨B, 2, none⟩ = some c2 := cell_heap hB 2
  have f0 : w.frozen? ⟨B, 0, none⟩ = false := free_heap hB 0
  have f1 : w.frozen? ⟨B, 1, none⟩ = false := free_heap hB 1
  have f2 : w.frozen? ⟨B, 2, none⟩ = false := free_heap hB 2
  obtain ⟨g0, g1⟩ := hT.p10 _ _ hx
  rw [Nat.mul_comm] at g0 g1
  have hne : ¬ (18 : Nat) = B := by omega
  have hne' : ¬ B = (18 : Nat) := by omega
  clear hB hx hT
  go_enter Tryz.func162, Tryz.ntmps162
  go_wp2_with fail
  go_end0
  exact ⟨rfl, rfl⟩
/-- The four functions that the model stands in for. -/
theorem from64 (n : Int) (w : World) : (callFunc 152 #[.int .u64 n]).run Tryz.prog w = .ok (.value (.float .f64 n.toNat)) w := by
  rw [run_callFunc_extern (e := Extern.MathFloatBits.float64frombits) Tryz.func152 (by kernel_rfl) (by kernel_rfl) (by kernel_rfl) (by kernel_rfl)]
  rfl
theorem from32 (n : Int) (w : World) : (callFunc 146 #[.int .u32 n]).run Tryz.prog w = .ok (.value (.float .f32 n.toNat)) w := by
  rw [run_callFunc_extern (e := Extern.MathFloatBits.float32frombits) Tryz.func146 (by kernel_rfl) (by kernel_rfl) (by kernel_rfl) (by kernel_rfl)]
  rfl
theorem bits64 (n : Nat) (w : World) : (callFunc 121 #[.float .f64 n]).run Tryz.prog w = .ok (.value (.int .u64 n)) w := by
  rw [run_callFunc_extern (e := Extern.MathFloatBits.float64bits) Tryz.func121 (by kernel_rfl) (by kernel_rfl) (by kernel_rfl) (by kernel_rfl)]
  rfl
theorem bits32 (n : Nat) (w : World) : (callFunc 120 #[.float .f32 n]).run Tryz.prog w = .ok (.value (.int .u32 n)) w := by
  rw [run_callFunc_extern (e := Extern.MathFloatBits.float32bits) Tryz.func120 (by kernel_rfl) (by kernel_rfl) (by kernel_rfl) (by kernel_rfl)]
  rfl
theorem pack64_any (m e : Int) (he0 : -1100 ≤ e) (he1 : e ≤ 100000) :
    ∃ v : Nat, ∃ er : Value, (er = .nilIface ∨ er = .iface 100 (.int .i64 1)) ∧ ∀ w, Calls Tryz.prog 169 #[.int .u64 m, .int .i64 e] w fun e' w' => e' = .returned (.tuple #[.float .f64 v, er]) ∧ w' = w := by
  have ff := from64
  cases hb : (bits BinOp.and IntKind.u64 m 4503599627370496 == 0) with
  | true =>
    apply Exists.intro
    case h =>
      refine ⟨.nilIface, .inl rfl, fun w => ?_⟩
      go_enter Tryz.func169, Tryz.ntmps169
      go_wp2_with fail
      go_returns
      exact ⟨rfl, rfl⟩
  | false =>
    rcases Int.lt_or_le e 972 with h2 | h2
    · apply Exists.intro
      case h =>
        refine ⟨.nilIface, .inl rfl, fun w => ?_⟩
        go_enter Tryz.func169, Tryz.ntmps169
        go_wp2_with fail
        go_returns
        exact ⟨rfl, rfl⟩
    · apply Exists.intro
      case h =>
        refine ⟨.iface 100 (.int .i64 1), .inr rfl, fun w => ?_⟩
        go_enter Tryz.func169, Tryz.ntmps169
        go_wp2_with fail
        go_returns
        exact ⟨rfl, rfl⟩
theorem pack32_any (m e : Int) (he0 : -1100 ≤ e) (he1 : e ≤ 100000) :
    ∃ v : Nat, ∃ er : Value, (er = .nilIface ∨ er = .iface 100 (.int .i64 1)) ∧ ∀ w, Calls Tryz.prog 165 #[.int .u32 m, .int .i64 e] w fun e' w' => e' = .returned (.tuple #[.float .f32 v, er]) ∧ w' = w := by
  have ff := from32
  cases hb : (bits BinOp.and IntKind.u32 m 8388608 == 0) with
  | true =>
    apply Exists.intro
    case h =>
      refine ⟨.nilIface, .inl rfl, fun w => ?_⟩
      go_enter Tryz.func165, Tryz.ntmps165
      go_wp2_with fail
      go_returns
      exact ⟨rfl, rfl⟩
  | false =>
    rcases Int.lt_or_le e 105 with h2 | h2
    · apply Exists.intro
      case h =>
        refine ⟨.nilIface, .inl rfl, fun w => ?_⟩
        go_enter Tryz.func165, Tryz.ntmps165
        go_wp2_with fail
        go_returns
        exact ⟨rfl, rfl⟩
    · apply Exists.intro
      case h =>
        refine ⟨.iface 100 (.int .i64 1), .inr rfl, fun w => ?_⟩
        go_enter Tryz.func165, Tryz.ntmps165
        go_wp2_with fail
        go_returns
        exact ⟨rfl, rfl⟩
theorem wrap64 (x : Int) : 0 ≤ IntKind.u64.wrap x ∧ IntKind.u64.wrap x ≤ 18446744073709551615 := by rw [IntKind.wrap_u64]; omega
theorem len64_any (x : Int) (h0 : 1 ≤ x) (h1 : x ≤ 18446744073709551615) : ∃ b : Int, 1 ≤ b ∧ b ≤ 64 ∧ ∀ w, Calls Tryz.prog 99 #[.int .u64 x] w fun e w' => e = .returned (.int .i64 b) ∧ w' = w := by
  have hf : ∀ f x, Lib.bitLenAux f x ≤ f := by
    intro f
    induction f with
    | zero => intro x; simp [Lib.bitLenAux]
    | succ f ih =>
      intro x
      simp only [Lib.bitLenAux]
      split
      · omega
      · have := ih (x / 2)
        omega
  refine ⟨Lib.bitLen x.toNat, ?_, ?_, fun w => Tryz.bits_Len64 x w (by omega) h1⟩
  · unfold Lib.bitLen
    rw [show (64 : Nat) = 63 + 1 from rfl]
    simp only [Lib.bitLenAux]
    rw [if_neg (by omega)]
    omega
  · have := hf 64 x.toNat
    unfold Lib.bitLen
    omega
theorem Tabs.size {w : World} (h : Tabs w) : 19 < w.heap.size := by
  obtain ⟨R, o, c, h1, _⟩ := h.cheats
  exact World.block_lt_of_cell? w _ h1
set_option maxHeartbeats 1000000 in
theorem parse64_any (d p sg : Int) (hd0 : 1 ≤ d) (hd1 : d ≤ 18446744073709551615) (hp0 : -345 ≤ p) (hp1 : p ≤ 310) :
    ∃ v : Nat, ∃ er : Value, (er = .nilIface ∨ er = .iface 100 (.int .i64 1)) ∧ ∀ w, Tabs w → Calls Tryz.prog 154 #[.int .u64 d, .int .i64 p, .int .u64 sg] w fun e' w' => e' = .returned (.tuple #[.float .f64 v, er]) ∧ Below w.heap.size w w' := by
  have ff := from64
  obtain ⟨b, hb0, hb1, HL⟩ := len64_any d hd0 hd1
  have hlp : ∃ lp, p * 108853 / 32768 = lp ∧ -1147 ≤ lp ∧ lp ≤ 1030 := ⟨_, rfl, by omega, by omega⟩
  obtain ⟨lp, hl, hl0, hl1⟩ := hlp
  have HP := Lib.hid (fun w => log2Pow10_any p w (by omega) (by omega))
  rw [hl] at HP
  replace HL := Lib.hid HL
  obtain ⟨E, hE, hE0, hE1, hE2⟩ : ∃ E, min 1074 (53 - b - lp) = E ∧ E ≤ 1074 ∧ E ≤ 53 - b - lp ∧ -1080 ≤ E := ⟨_, rfl, by omega, by omega, by omega⟩
  obtain ⟨hi, lo, hh0, hh1, ho0, ho1, HPS⟩ := prescale_any (E - (64 - b)) p lp (by omega) (by omega) (by omega) (by omega) (by omega) (by omega)
  replace HPS := Lib.hid HPS
  obtain ⟨S, hS, hS0⟩ : ∃ S, -(E - (64 - b) + lp + 3) = S ∧ 8 ≤ S := ⟨_, rfl, by omega⟩
  rw [hS] at HPS
  clear hl hS
  rcases Int.lt_or_le S 64 with h2 | h2
  · obtain ⟨U, HU⟩ := uscale_any (IntKind.u64.wrap (d * 2 ^ (64 - b).toNat)) hi lo S (wrap64 _).1 (wrap64 _).2 hh0 hh1 ho0 ho1
    obtain ⟨T, hT, ht0, ht1⟩ : ∃ T, tn (decide (36028797018963966 ≤ U)) = T ∧ 0 ≤ T ∧ T ≤ 1 := ⟨_, rfl, (tn_bound _).1, (tn_bound _).2⟩
    obtain ⟨r, HR⟩ := round_any (bits BinOp.or IntKind.u64 (U / 2 ^ T.toNat) (bits BinOp.and IntKind.u64 U 1))
    obtain ⟨v, er, her, HK⟩ := pack64_any (bits BinOp.or IntKind.u64 sg r) (-(E - T)) (by omega) (by omega)
    replace HU := Lib.hid HU
    replace HR := Lib.hid HR
    replace HK := Lib.hid HK
    refine ⟨v, er, her, fun w hTb => ?_⟩
    have HT := Lib.hid hTb
    clear hTb her
    go_enter Tryz.func154, Tryz.ntmps154
    go_wp2_with fail
    refine (HL.out _).mono ?_
    rintro e w1 ⟨rfl, rfl⟩
    go_wp2_with fail
    refine (HP.out _).mono ?_
    rintro e w1 ⟨rfl, rfl⟩
    go_wp2_with fail
    have hn := heap_alloc_new w1 (.cells #[.int .u64 0, .int .u64 0, .int .i64 0] 232)
    refine (HPS.out _ _ _ _ _ (HT.out.old ((Below.refl _ _).alloc (Nat.le_refl _) _)) hn (by have := HT.out.size; omega)).mono ?_
    rintro e w2 ⟨rfl, hw2⟩
    have m : w2.heap[w1.heap.size]? = some (.cells #[.int .u64 hi, .int .u64 lo, .int .i64 S] 232 (0, 0)) := by
      rw [hw2]
      exact set_heap (set_heap (set_heap hn 0 _) 1 _) 2 _
    have hb : Below w1.heap.size w1 w2 := by
      rw [hw2]
      exact ((((Below.refl _ _).alloc (Nat.le_refl _) _).setCell (Nat.le_refl _) _).setCell (Nat.le_refl _) _).setCell (Nat.le_refl _) _
    have M := Lib.hid m
    have HB := Lib.hid hb
    have k2 : w2.cell? ⟨w1.heap.size, 2, none⟩ = some (.int .i64 S) := cell_heap m 2
    clear m hb hn hw2
    go_wp2_with fail
    refine (HU.out _ _ M.out).mono ?_
    rintro e w3 ⟨rfl, hb3⟩
    have HB3 := Lib.hid (HB.out.trans (hb3.mono HB.out.size))
    clear hb3 M k2 HB
    go_wp2_with fail
    refine (unmin_53 _).mono ?_
    rintro e w4 ⟨rfl, rfl⟩
    go_wp2_with fail
    refine (bool2_int _ _).mono ?_
    rintro e w5 ⟨rfl, rfl⟩
    go_wp2_with fail
    refine (HR.out _).mono ?_
    rintro e w6 ⟨rfl, rfl⟩
    go_wp2_with fail
    refine (HK.out _).mono ?_
    rintro e w7 ⟨rfl, rfl⟩
    go_wp2_with fail
    go_returns
    exact ⟨rfl, HB3.out⟩
  · refine ⟨(bits BinOp.or IntKind.u64 sg 0).toNat, .nilIface, .inl rfl, fun w hTb => ?_⟩
    have HT := Lib.hid hTb
    clear hTb
    go_enter Tryz.func154, Tryz.ntmps154
    go_wp2_with fail
    refine (HL.out _).mono ?_
    rintro e w1 ⟨rfl, rfl⟩
    go_wp2_with fail
    refine (HP.out _).mono ?_
    rintro e w1 ⟨rfl, rfl⟩
    go_wp2_with fail
    have hn := heap_alloc_new w1 (.cells #[.int .u64 0, .int .u64 0, .int .i64 0] 232)
    refine (HPS.out _ _ _ _ _ (HT.out.old ((Below.refl _ _).alloc (Nat.le_refl _) _)) hn (by have := HT.out.size; omega)).mono ?_
    rintro e w2 ⟨rfl, hw2⟩
    have m : w2.heap[w1.heap.size]? = some (.cells #[.int .u64 hi, .int .u64 lo, .int .i64 S] 232 (0, 0)) := by
      rw [hw2]
      exact set_heap (set_heap (set_heap hn 0 _) 1 _) 2 _
    have hb : Below w1.heap.size w1 w2 := by
      rw [hw2]
      exact ((((Below.refl _ _).alloc (Nat.le_refl _) _).setCell (Nat.le_refl _) _).setCell (Nat.le_refl _) _).setCell (Nat.le_refl _) _
    have HB := Lib.hid hb
    have k2 : w2.cell? ⟨w1.heap.size, 2, none⟩ = some (.int .i64 S) := cell_heap m 2
    clear m hb hn hw2
    go_wp2_with fail
    go_returns
    exact ⟨rfl, HB.out⟩
set_option maxHeartbeats 1000000 in
theorem parse32_any (d p sg : Int) (hd0 : 1 ≤ d) (hd1 : d ≤ 18446744073709551615) (hp0 : -345 ≤ p) (hp1 : p ≤ 310) :
    ∃ v : Nat, ∃ er : Value, (er = .nilIface ∨ er = .iface 100 (.int .i64 1)) ∧ ∀ w, Tabs w → Calls Tryz.prog 148 #[.int .u64 d, .int .i64 p, .int .u32 sg] w fun e' w' => e' = .returned (.tuple #[.float .f32 v, er]) ∧ Below w.heap.size w w' := by
  have ff := from32
  obtain ⟨b, hb0, hb1, HL⟩ := len64_any d hd0 hd1
  have hlp : ∃ lp, p * 108853 / 32768 = lp ∧ -1147 ≤ lp ∧ lp ≤ 1030 := ⟨_, rfl, by omega, by omega⟩
  obtain ⟨lp, hl, hl0, hl1⟩ := hlp
  have HP := Lib.hid (fun w => log2Pow10_any p w (by omega) (by omega))
  rw [hl] at HP
  replace HL := Lib.hid HL
  obtain ⟨E, hE, hE0, hE1, hE2⟩ : ∃ E, min 149 (24 - b - lp) = E ∧ E ≤ 149 ∧ E ≤ 24 - b - lp ∧ -1080 ≤ E := ⟨_, rfl, by omega, by omega, by omega⟩
  obtain ⟨hi, lo, hh0, hh1, ho0, ho1, HPS⟩ := prescale_any (E - (64 - b)) p lp (by omega) (by omega) (by omega) (by omega) (by omega) (by omega)
  replace HPS := Lib.hid HPS
  obtain ⟨S, hS, hS0⟩ : ∃ S, -(E - (64 - b) + lp + 3) = S ∧ 8 ≤ S := ⟨_, rfl, by omega⟩
  rw [hS] at HPS
  clear hl hS
  rcases Int.lt_or_le S 64 with h2 | h2
  · obtain ⟨U, HU⟩ := uscale_any (IntKind.u64.wrap (d * 2 ^ (64 - b).toNat)) hi lo S (wrap64 _).1 (wrap64 _).2 hh0 hh1 ho0 ho1
    obtain ⟨T, hT, ht0, ht1⟩ : ∃ T, tn (decide (67108862 ≤ U)) = T ∧ 0 ≤ T ∧ T ≤ 1 := ⟨_, rfl, (tn_bound _).1, (tn_bound _).2⟩
    obtain ⟨r, HR⟩ := round_any (bits BinOp.or IntKind.u64 (U / 2 ^ T.toNat) (bits BinOp.and IntKind.u64 U 1))
    obtain ⟨v, er, her, HK⟩ := pack32_any (bits BinOp.or IntKind.u32 sg (IntKind.u32.wrap r)) (-(E - T)) (by omega) (by omega)
    replace HU := Lib.hid HU
    replace HR := Lib.hid HR
    replace HK := Lib.hid HK
    refine ⟨v, er, her, fun w hTb => ?_⟩
    have HT := Lib.hid hTb
    clear hTb her
    go_enter Tryz.func148, Tryz.ntmps148
    go_wp2_with fail
    refine (HL.out _).mono ?_
    rintro e w1 ⟨rfl, rfl⟩
    go_wp2_with fail
    refine (HP.out _).mono ?_
    rintro e w1 ⟨rfl, rfl⟩
    go_wp2_with fail
    have hn := heap_alloc_new w1 (.cells #[.int .u64 0, .int .u64 0, .int .i64 0] 232)
    refine (HPS.out _ _ _ _ _ (HT.out.old ((Below.refl _ _).alloc (Nat.le_refl _) _)) hn (by have := HT.out.size; omega)).mono ?_
    rintro e w2 ⟨rfl, hw2⟩
    have m : w2.heap[w1.heap.size]? = some (.cells #[.int .u64 hi, .int .u64 lo, .int .i64 S] 232 (0, 0)) := by
      rw [hw2]
      exact set_heap (set_heap (set_heap hn 0 _) 1 _) 2 _
    have hb : Below w1.heap.size w1 w2 := by
      rw [hw2]
      exact ((((Below.refl _ _).alloc (Nat.le_refl _) _).setCell (Nat.le_refl _) _).setCell (Nat.le_refl _) _).setCell (Nat.le_refl _) _
    have M := Lib.hid m
    have HB := Lib.hid hb
    have k2 : w2.cell? ⟨w1.heap.size, 2, none⟩ = some (.int .i64 S) := cell_heap m 2
    clear m hb hn hw2
    go_wp2_with fail
    refine (HU.out _ _ M.out).mono ?_
    rintro e w3 ⟨rfl, hb3⟩
    have HB3 := Lib.hid (HB.out.trans (hb3.mono HB.out.size))
    clear hb3 M k2 HB
    go_wp2_with fail
    refine (unmin_24 _).mono ?_
    rintro e w4 ⟨rfl, rfl⟩
    go_wp2_with fail
    refine (bool2_int _ _).mono ?_
    rintro e w5 ⟨rfl, rfl⟩
    go_wp2_with fail
    refine (HR.out _).mono ?_
    rintro e w6 ⟨rfl, rfl⟩
    go_wp2_with fail
    refine (HK.out _).mono ?_
    rintro e w7 ⟨rfl, rfl⟩
    go_wp2_with fail
    go_returns
    exact ⟨rfl, HB3.out⟩
  · refine ⟨(bits BinOp.or IntKind.u32 sg 0).toNat, .nilIface, .inl rfl, fun w hTb => ?_⟩
    have HT := Lib.hid hTb
    clear hTb
    go_enter Tryz.func148, Tryz.ntmps148
    go_wp2_with fail
    refine (HL.out _).mono ?_
    rintro e w1 ⟨rfl, rfl⟩
    go_wp2_with fail
    refine (HP.out _).mono ?_
    rintro e w1 ⟨rfl, rfl⟩
    go_wp2_with fail
    have hn := heap_alloc_new w1 (.cells #[.int .u64 0, .int .u64 0, .int .i64 0] 232)
    refine (HPS.out _ _ _ _ _ (HT.out.old ((Below.refl _ _).alloc (Nat.le_refl _) _)) hn (by have := HT.out.size; omega)).mono ?_
    rintro e w2 ⟨rfl, hw2⟩
    have m : w2.heap[w1.heap.size]? = some (.cells #[.int .u64 hi, .int .u64 lo, .int .i64 S] 232 (0, 0)) := by
      rw [hw2]
      exact set_heap (set_heap (set_heap hn 0 _) 1 _) 2 _
    have hb : Below w1.heap.size w1 w2 := by
      rw [hw2]
      exact ((((Below.refl _ _).alloc (Nat.le_refl _) _).setCell (Nat.le_refl _) _).setCell (Nat.le_refl _) _).setCell (Nat.le_refl _) _
    have HB := Lib.hid hb
    have k2 : w2.cell? ⟨w1.heap.size, 2, none⟩ = some (.int .i64 S) := cell_heap m 2
    clear m hb hn hw2
    go_wp2_with fail
    go_returns
    exact ⟨rfl, HB.out⟩
end Go.Proofs.YtdkhedefcmjjgaaGreatDoor
/- Small functions of internal/strconv, walked: a number of few digits times a small power of ten, by one operation of floats.
Conditions: none. -/
namespace Go.Proofs.YtdkhedefcmjjgaaGreatDoor
open Go.RowKit Sp
set_option linter.unusedSimpArgs false
set_option linter.unusedVariables false
/-- A pattern that is no NaN. -/
def FN (k : FloatKind) (x : Nat) : Prop := (k.format.read x).isNaN = false
theorem word_mod (f : Ieee.Format) (neg : Bool) {r : Nat} (h : r < f.signWeight) : f.word neg r % f.signWeight = r := by
  unfold Ieee.Format.word
  split
  · rw [Nat.add_mod_left, Nat.mod_eq_of_lt h]
  · exact Nat.mod_eq_of_lt h
theorem read_word (f : Ieee.Format) (neg : Bool) {r : Nat} (h : r ≤ f.infRung) : (f.read (f.word neg r)).isNaN = false := by
  have h' : r < f.signWeight := Nat.lt_of_le_of_lt h f.infRung_lt
  unfold Ieee.Format.read
  simp only [word_mod f neg h']
  split
  · rfl
  · split
    · rfl
    · split
      · rfl
      · omega
theorem read_write (f : Ieee.Format) (d : Ieee.Datum) (h : d.isNaN = false) : (f.read (f.write d)).isNaN = false := by
  cases d with
  | number s m e =>
    simp only [Ieee.Format.write, Ieee.Format.nearest]
    split
    · exact read_word f s (Nat.zero_le _)
    · exact read_word f s (Nat.min_le_right _ _)
  | infinity s => exact read_word f s (Nat.le_refl _)
  | nan s t => cases h
theorem FN_write (k : FloatKind) (d : Ieee.Datum) (h : d.isNaN = false) : FN k (k.format.write d) := read_write _ d h
theorem FN_int (k : FloatKind) (n : Int) : FN k (floatOfInt k n) := read_write k.format (.number (decide (n < 0)) n.natAbs 0) rfl
/-- Is it a number that is not nought? -/
def pos (k : FloatKind) (x : Nat) : Bool := match k.format.read x with | .number _ n _ => n != 0 | _ => false
theorem mul_some {k : FloatKind} {x y : Nat} (hx : FN k x) (hy : pos k y = true) : ∃ r, floatBits .mul k x y = some r ∧ FN k r := by
  unfold FN at hx
  unfold pos at hy
  simp only [floatBits, Ieee.Format.mul]
  cases hb : k.format.read y with
  | number t n j =>
    rw [hb] at hy
    have hn : n ≠ 0 := by simpa using hy
    cases ha : k.format.read x with
    | number s m i => exact ⟨k.format.write (.number (s ^^ t) (m * n) (i + j)), rfl, FN_write k _ rfl⟩
    | infinity s =>
      simp only [Ieee.Datum.product, if_neg hn]
      exact ⟨_, rfl, FN_write k _ rfl⟩
    | nan s t => rw [ha] at hx; cases hx
  | infinity t => rw [hb] at hy; cases hy
  | nan s t => rw [hb] at hy; cases hy
theorem div_some {k : FloatKind} {x y : Nat} (hx : FN k x) (hy : pos k y = true) : ∃ r, floatBits .quo k x y = some r ∧ FN k r := by
  unfold FN at hx
  unfold pos at hy
  simp only [floatBits, Ieee.Format.div]
  cases hb : k.format.read y with
  | number t n j =>
    rw [hb] at hy
    have hn : n ≠ 0 := by simpa using hy
    cases ha : k.format.read x with
    | number s m i =>
      simp only [Ieee.Datum.quotient, if_neg hn]
      exact ⟨_, rfl, FN_write k _ rfl⟩
    | infinity s =>
      simp only [Ieee.Datum.quotient]
      exact ⟨_, rfl, FN_write k _ rfl⟩
    | nan s t => rw [ha] at hx; cases hx
  | infinity t => rw [hb] at hy; cases hy
  | nan s t => rw [hb] at hy; cases hy
theorem pow64_pos (i : Nat) (x : Nat) (h : PW64[i]? = some x) : pos .f64 x = true := by
  have hall : (PW64.all fun x => pos .f64 x) = true := by kernel_rfl
  exact List.all_eq_true.1 hall x (List.mem_of_getElem? h)
theorem pow64_at (i : Nat) (hi : i ≤ 22) : ∃ x, PW64[i]? = some x ∧ pos .f64 x = true := by
  have : PW64.length = 22 + 1 := by kernel_rfl
  have h := List.getElem?_eq_getElem (l := PW64) (i := i) (by omega)
  exact ⟨_, h, pow64_pos _ _ h⟩
theorem pow64_cell {w : World} {R o : Nat} (h : ∀ i v, (PW64.map (Value.float .f64))[i]? = some v → w.cell? ⟨R, o + i, none⟩ = some v) {i x : Nat} (hx : PW64[i]? = some x) : w.cell? ⟨R, o + i, none⟩ = some (.float .f64 x) := h i _ (by simp [hx])
set_option maxHeartbeats 2000000 in
theorem exact64_any (d p : Int) (hd0 : 1 ≤ d) (hd1 : d ≤ 18446744073709551615) (hp0 : -345 ≤ p) (hp1 : p ≤ 310) :
    ∃ v : Nat, ∃ ok : Bool, ∀ w, Tabs w → Calls Tryz.prog 153 #[.int .u64 d, .int .i64 p, .bool false] w fun e' w' => e' = .returned (.tuple #[.float .f64 v, .bool ok]) ∧ w' = w := by
  have harith : ∀ (op : BinOp) (x y r : Nat) (w : World), floatBits op .f64 x y = some r → (binOp op 165 (.float .f64 x) (.float .f64 y)).run Tryz.prog w = .ok (.float .f64 r) w := fun op x y r w h => run_float_arith w op 165 .f64 x y r h
  cases hm : (d / 4503599627370496 != 0) with
  | true =>
    refine ⟨0, false, fun w hT => ?_⟩
    have k0 := hT.i64.1
    clear hT harith
    go_enter Tryz.func153, Tryz.ntmps153
    go_wp2_with fail
    go_returns
    exact ⟨rfl, rfl⟩
  | false =>
    have FI := FN_int .f64 d
    rcases Int.lt_or_le 0 p with h1 | h1
    · rcases Int.lt_or_le 37 p with h2 | h2
      · refine ⟨floatOfInt .f64 d, false, fun w hT => ?_⟩
        have k0 := hT.i64.1
        clear hT harith FI
        go_enter Tryz.func153, Tryz.ntmps153
        go_wp2_with fail
        go_returns
        exact ⟨rfl, rfl⟩
      · rcases Int.lt_or_le 22 p with h3 | h3
        · obtain ⟨x, hx, hxp⟩ := pow64_at (p - 22).toNat (by omega)
          obtain ⟨y, hy, hyp⟩ := pow64_at 22 (by omega)
          obtain ⟨r, hr, hrn⟩ := mul_some FI hxp
          obtain ⟨r2, hr2, _⟩ := mul_some hrn hyp
          have A1 := fun w => harith .mul _ _ _ w hr
          have A2 := fun w => harith .mul _ _ _ w hr2
          clear harith hr hr2 hxp hyp FI hrn
          cases ht1 : (FloatKind.f64.format.order r 4831355200913801216 == some .gt) with
          | true =>
            refine ⟨r, false, fun w hT => ?_⟩
            have k0 := hT.i64.1
            obtain ⟨R, o, c, k1, hc, k2⟩ := hT.p64
            have k3 := pow64_cell k2 hx
            have k4 := pow64_cell k2 hy
            replace k1 : w.cell? ⟨17, 0, none⟩ = some (.slice (some ⟨R, o, none⟩) (22 + 1) c) := k1
            clear hT k2 hx hy
            go_enter Tryz.func153, Tryz.ntmps153
            go_wp2_with fail
            go_returns
            exact ⟨rfl, rfl⟩
          | false =>
            cases ht2 : (FloatKind.f64.format.order r 14054727237768577024 == some .lt) with
            | true =>
              refine ⟨r, false, fun w hT => ?_⟩
              have k0 := hT.i64.1
              obtain ⟨R, o, c, k1, hc, k2⟩ := hT.p64
              have k3 := pow64_cell k2 hx
              have k4 := pow64_cell k2 hy
              replace k1 : w.cell? ⟨17, 0, none⟩ = some (.slice (some ⟨R, o, none⟩) (22 + 1) c) := k1
              clear hT k2 hx hy
              go_enter Tryz.func153, Tryz.ntmps153
              go_wp2_with fail
              go_returns
              exact ⟨rfl, rfl⟩
            | false =>
              refine ⟨r2, true, fun w hT => ?_⟩
              have k0 := hT.i64.1
              obtain ⟨R, o, c, k1, hc, k2⟩ := hT.p64
              have k3 := pow64_cell k2 hx
              have k4 := pow64_cell k2 hy
              replace k1 : w.cell? ⟨17, 0, none⟩ = some (.slice (some ⟨R, o, none⟩) (22 + 1) c) := k1
              clear hT k2 hx hy
              go_enter Tryz.func153, Tryz.ntmps153
              go_wp2_with fail
              go_returns
              exact ⟨rfl, rfl⟩
        · obtain ⟨x, hx, hxp⟩ := pow64_at p.toNat (by omega)
          obtain ⟨r2, hr2, _⟩ := mul_some FI hxp
          have A2 := fun w => harith .mul _ _ _ w hr2
          clear harith hr2 hxp FI
          cases ht1 : (FloatKind.f64.format.order (floatOfInt .f64 d) 4831355200913801216 == some .gt) with
          | true =>
            refine ⟨floatOfInt .f64 d, false, fun w hT => ?_⟩
            have k0 := hT.i64.1
            clear hT hx A2
            go_enter Tryz.func153, Tryz.ntmps153
            go_wp2_with fail
            go_returns
            exact ⟨rfl, rfl⟩
          | false =>
            cases ht2 : (FloatKind.f64.format.order (floatOfInt .f64 d) 14054727237768577024 == some .lt) with
            | true =>
              refine ⟨floatOfInt .f64 d, false, fun w hT => ?_⟩
              have k0 := hT.i64.1
              clear hT hx A2
              go_enter Tryz.func153, Tryz.ntmps153
              go_wp2_with fail
              go_returns
              exact ⟨rfl, rfl⟩
            | false =>
              refine ⟨r2, true, fun w hT => ?_⟩
              have k0 := hT.i64.1
              obtain ⟨R, o, c, k1, hc, k2⟩ := hT.p64
              have k3 := pow64_cell k2 hx
              replace k1 : w.cell? ⟨17, 0, none⟩ = some (.slice (some ⟨R, o, none⟩) (22 + 1) c) := k1
              clear hT k2 hx
              go_enter Tryz.func153, Tryz.ntmps153
              go_wp2_with fail
              go_returns
              exact ⟨rfl, rfl⟩
    · rcases Int.lt_or_le p 0 with h2 | h2
      · rcases Int.lt_or_le p (-22) with h3 | h3
        · refine ⟨floatOfInt .f64 d, false, fun w hT => ?_⟩
          have k0 := hT.i64.1
          clear hT harith FI
          go_enter Tryz.func153, Tryz.ntmps153
          go_wp2_with fail
          go_returns
          exact ⟨rfl, rfl⟩
        · obtain ⟨x, hx, hxp⟩ := pow64_at (-p).toNat (by omega)
          obtain ⟨r2, hr2, _⟩ := div_some FI hxp
          have A2 := fun w => harith .quo _ _ _ w hr2
          clear harith hr2 hxp FI
          refine ⟨r2, true, fun w hT => ?_⟩
          have k0 := hT.i64.1
          obtain ⟨R, o, c, k1, hc, k2⟩ := hT.p64
          have k3 := pow64_cell k2 hx
          replace k1 : w.cell? ⟨17, 0, none⟩ = some (.slice (some ⟨R, o, none⟩) (22 + 1) c) := k1
          clear hT k2 hx
          go_enter Tryz.func153, Tryz.ntmps153
          go_wp2_with fail
          go_returns
          exact ⟨rfl, rfl⟩
      · obtain rfl : p = 0 := by omega
        refine ⟨floatOfInt .f64 d, true, fun w hT => ?_⟩
        have k0 := hT.i64.1
        clear hT harith FI
        go_enter Tryz.func153, Tryz.ntmps153
        go_wp2_with fail
        go_returns
        exact ⟨rfl, rfl⟩
def PW32 : List Nat := [1065353216, 1092616192, 1120403456, 1148846080, 1176256512, 1203982336, 1232348160, 1259902592, 1287568416, 1315859240, 1343554297]
theorem pow32_pos (i : Nat) (x : Nat) (h : PW32[i]? = some x) : pos .f32 x = true := by
  have hall : (PW32.all fun x => pos .f32 x) = true := by kernel_rfl
  exact List.all_eq_true.1 hall x (List.mem_of_getElem? h)
theorem pow32_at (i : Nat) (hi : i ≤ 10) : ∃ x, PW32[i]? = some x ∧ pos .f32 x = true := by
  have : PW32.length = 10 + 1 := by kernel_rfl
  have h := List.getElem?_eq_getElem (l := PW32) (i := i) (by omega)
  exact ⟨_, h, pow32_pos _ _ h⟩
theorem pow32_cell {w : World} {R o : Nat} (h : ∀ i v, (PW32.map (Value.float .f32))[i]? = some v → w.cell? ⟨R, o + i, none⟩ = some v) {i x : Nat} (hx : PW32[i]? = some x) : w.cell? ⟨R, o + i, none⟩ = some (.float .f32 x) := h i _ (by simp [hx])
set_option maxHeartbeats 2000000 in
theorem exact32_any (d p : Int) (hd0 : 1 ≤ d) (hd1 : d ≤ 18446744073709551615) (hp0 : -345 ≤ p) (hp1 : p ≤ 310) :
    ∃ v : Nat, ∃ ok : Bool, ∀ w, Tabs w → Calls Tryz.prog 147 #[.int .u64 d, .int .i64 p, .bool false] w fun e' w' => e' = .returned (.tuple #[.float .f32 v, .bool ok]) ∧ w' = w := by
  have harith : ∀ (op : BinOp) (x y r : Nat) (w : World), floatBits op .f32 x y = some r → (binOp op 170 (.float .f32 x) (.float .f32 y)).run Tryz.prog w = .ok (.float .f32 r) w := fun op x y r w h => run_float_arith w op 170 .f32 x y r h
  cases hm : (d / 8388608 != 0) with
  | true =>
    refine ⟨0, false, fun w hT => ?_⟩
    have k0 := hT.i64.1
    clear hT harith
    go_enter Tryz.func147, Tryz.ntmps147
    go_wp2_with fail
    go_returns
    exact ⟨rfl, rfl⟩
  | false =>
    have FI := FN_int .f32 d
    rcases Int.lt_or_le 0 p with h1 | h1
    · rcases Int.lt_or_le 17 p with h2 | h2
      · refine ⟨floatOfInt .f32 d, false, fun w hT => ?_⟩
        have k0 := hT.i64.1
        clear hT harith FI
        go_enter Tryz.func147, Tryz.ntmps147
        go_wp2_with fail
        go_returns
        exact ⟨rfl, rfl⟩
      · rcases Int.lt_or_le 10 p with h3 | h3
        · obtain ⟨x, hx, hxp⟩ := pow32_at (p - 10).toNat (by omega)
          obtain ⟨y, hy, hyp⟩ := pow32_at 10 (by omega)
          obtain ⟨r, hr, hrn⟩ := mul_some FI hxp
          obtain ⟨r2, hr2, _⟩ := mul_some hrn hyp
          have A1 := fun w => harith .mul _ _ _ w hr
          have A2 := fun w => harith .mul _ _ _ w hr2
          clear harith hr hr2 hxp hyp FI hrn
          cases ht1 : (FloatKind.f32.format.order r 1259902592 == some .gt) with
          | true =>
            refine ⟨r, false, fun w hT => ?_⟩
            have k0 := hT.i64.1
            obtain ⟨R, o, c, k1, hc, k2⟩ := hT.p32
            have k3 := pow32_cell k2 hx
            have k4 := pow32_cell k2 hy
            replace k1 : w.cell? ⟨15, 0, none⟩ = some (.slice (some ⟨R, o, none⟩) (10 + 1) c) := k1
            clear hT k2 hx hy
            go_enter Tryz.func147, Tryz.ntmps147
            go_wp2_with fail
            go_returns
            exact ⟨rfl, rfl⟩
          | false =>
            cases ht2 : (FloatKind.f32.format.order r 3407386240 == some .lt) with
            | true =>
              refine ⟨r, false, fun w hT => ?_⟩
              have k0 := hT.i64.1
              obtain ⟨R, o, c, k1, hc, k2⟩ := hT.p32
              have k3 := pow32_cell k2 hx
              have k4 := pow32_cell k2 hy
              replace k1 : w.cell? ⟨15, 0, none⟩ = some (.slice (some ⟨R, o, none⟩) (10 + 1) c) := k1
              clear hT k2 hx hy
              go_enter Tryz.func147, Tryz.ntmps147
              go_wp2_with fail
              go_returns
              exact ⟨rfl, rfl⟩
            | false =>
              refine ⟨r2, true, fun w hT => ?_⟩
              have k0 := hT.i64.1
              obtain ⟨R, o, c, k1, hc, k2⟩ := hT.p32
              have k3 := pow32_cell k2 hx
              have k4 := pow32_cell k2 hy
              replace k1 : w.cell? ⟨15, 0, none⟩ = some (.slice (some ⟨R, o, none⟩) (10 + 1) c) := k1
              clear hT k2 hx hy
              go_enter Tryz.func147, Tryz.ntmps147
              go_wp2_with fail
              go_returns
              exact ⟨rfl, rfl⟩
        · obtain ⟨x, hx, hxp⟩ := pow32_at p.toNat (by omega)
          obtain ⟨r2, hr2, _⟩ := mul_some FI hxp
          have A2 := fun w => harith .mul _ _ _ w hr2
          clear harith hr2 hxp FI
          cases ht1 : (FloatKind.f32.format.order (floatOfInt .f32 d) 1259902592 == some .gt) with
          | true =>
            refine ⟨floatOfInt .f32 d, false, fun w hT => ?_⟩
            have k0 := hT.i64.1
            clear hT hx A2
            go_enter Tryz.func147, Tryz.ntmps147
            go_wp2_with fail
            go_returns
            exact ⟨rfl, rfl⟩
          | false =>
            cases ht2 : (FloatKind.f32.format.order (floatOfInt .f32 d) 3407386240 == some .lt) with
            | true =>
              refine ⟨floatOfInt .f32 d, false, fun w hT => ?_⟩
              have k0 := hT.i64.1
              clear hT hx A2
              go_enter Tryz.func147, Tryz.ntmps147
              go_wp2_with fail
              go_returns
              exact ⟨rfl, rfl⟩
            | false =>
              refine ⟨r2, true, fun w hT => ?_⟩
              have k0 := hT.i64.1
              obtain ⟨R, o, c, k1, hc, k2⟩ := hT.p32
              have k3 := pow32_cell k2 hx
              replace k1 : w.cell? ⟨15, 0, none⟩ = some (.slice (some ⟨R, o, none⟩) (10 + 1) c) := k1
              clear hT k2 hx
              go_enter Tryz.func147, Tryz.ntmps147
              go_wp2_with fail
              go_returns
              exact ⟨rfl, rfl⟩
    · rcases Int.lt_or_le p 0 with h2 | h2
      · rcases Int.lt_or_le p (-10) with h3 | h3
        · refine ⟨floatOfInt .f32 d, false, fun w hT => ?_⟩
          have k0 := hT.i64.1
          clear hT harith FI
          go_enter Tryz.func147, Tryz.ntmps147
          go_wp2_with fail
          go_returns
          exact ⟨rfl, rfl⟩
        · obtain ⟨x, hx, hxp⟩ := pow32_at (-p).toNat (by omega)
          obtain ⟨r2, hr2, _⟩ := div_some FI hxp
          have A2 := fun w => harith .quo _ _ _ w hr2
          clear harith hr2 hxp FI
          refine ⟨r2, true, fun w hT => ?_⟩
          have k0 := hT.i64.1
          obtain ⟨R, o, c, k1, hc, k2⟩ := hT.p32
          have k3 := pow32_cell k2 hx
          replace k1 : w.cell? ⟨15, 0, none⟩ = some (.slice (some ⟨R, o, none⟩) (10 + 1) c) := k1
          clear hT k2 hx
          go_enter Tryz.func147, Tryz.ntmps147
          go_wp2_with fail
          go_returns
          exact ⟨rfl, rfl⟩
      · obtain rfl : p = 0 := by omega
        refine ⟨floatOfInt .f32 d, true, fun w hT => ?_⟩
        have k0 := hT.i64.1
        clear hT harith FI
        go_enter Tryz.func147, Tryz.ntmps147
        go_wp2_with fail
        go_returns
        exact ⟨rfl, rfl⟩
end Go.Proofs.YtdkhedefcmjjgaaGreatDoor
