/- internal/strconv.ParseUint at base 16, walked.
Conditions: the text has 1 to 16 bytes. -/
import Derived.Test.YtdkhedefcmjjgaaGreatDoorMSpec
import Derived.Test.YtdkhedefcmjjgaaGreatDoorMShelf
import Derived.Test.YtdkhedefcmjjgaaGreatDoorMPf
import Derived.Lib.Strings
import Derived.Lib.Walk
import Derived.Lib.ConvBytes
import Derived.Lib.AtoiAllMem
import Derived.Lib.Hide
import Derived.Laws.Strings3
import Derived.BigCall
import Derived.BigGuard
import Derived.Handy
import Derived.Deep.RegionWith
import Derived.Test.YtdkhedefcmjjgaaGreatDoorMDec0
namespace Go.Proofs.YtdkhedefcmjjgaaGreatDoor
open Go.RowKit Sp
set_option linter.unusedSimpArgs false
set_option linter.unusedVariables false
/-- A hexadecimal digit's number. -/
def hexD (c : Nat) : Option Nat :=
  if 48 ≤ c ∧ c ≤ 57 then some (c - 48)
  else if 97 ≤ bits .or .u8 (c : Int) 32 ∧ bits .or .u8 (c : Int) 32 ≤ 122 then (if 16 ≤ bits .or .u8 (c : Int) 32 - 97 + 10 then none else some (bits .or .u8 (c : Int) 32 - 97 + 10).toNat)
  else none
def hexGo : Nat → Bs → Option Nat
  | acc, [] => some acc
  | acc, c :: l => match hexD c.toNat with
    | none => none
    | some d => hexGo (acc * 16 + d) l
def hexT (o : Option Nat) : Value := match o with
  | some n => .tuple #[.int .u64 n, .nilIface]
  | none => .tuple #[.int .u64 0, .iface 100 (.int .i64 2)]
set_option maxHeartbeats 32000000 in
set_option maxRecDepth 100000 in
theorem parseHex_any (t : ByteArray) (hne : t.size ≠ 0) (hmax : t.size ≤ 16) (w : World) :
    Calls Tryz.prog 82 #[.string t, .int .i64 16, .int .i64 64] w fun e w' => e = .returned (hexT (hexGo 0 t.data.toList)) ∧ w' = Lib.bytesWorld w 5 t := by
  have hemp : t.toList.isEmpty = false := by
    rw [← decide_eq_emptyBytes]
    exact decide_eq_false (fun h => hne (by rw [h]; rfl))
  have hcv := Lib.run_convert_string_bytes (P := Tryz.prog) w 9 32 5 t (u := .string) Tryz.underlying9 Tryz.underlying32 Tryz.underlying5
  have hB : ∀ j, j < t.size → (Lib.bytesWorld w 5 t).cell? ⟨w.heap.size, j, none⟩ = some (.int .u8 (t.data.toList.getD j 0).toNat) := fun j hj => Lib.bytesWorld_cell w 5 t j hj
  obtain ⟨W1, hW1⟩ : ∃ W1, W1 = Lib.bytesWorld w 5 t := ⟨_, rfl⟩
  rw [← hW1] at hcv hB ⊢
  clear hW1
  obtain ⟨bs, hL⟩ : ∃ bs, bs = t.data.toList := ⟨_, rfl⟩
  have hLn : bs.length = t.size := by rw [hL, Lib.size_eq]
  rw [← hL] at hB ⊢
  clear hL
  have hmv : IntKind.u64.wrap (IntKind.u64.wrap 18446744073709551616 - 1) = 18446744073709551615 := by
    rw [IntKind.wrap_u64, IntKind.wrap_u64]
    decide
  go_enter Tryz.func82, Tryz.ntmps82
  go_wp2_with fail
  go_loopw [12, 13, 101] (fun vu vn vi wr => ∃ (k acc : Nat) (a : Int), vu = .bool false ∧ vn = .int .u64 a ∧ vi = .int .i64 k ∧ k ≤ t.size ∧ Hid (a = (acc : Int) ∧ acc < 16 ^ k ∧ hexGo 0 bs = hexGo acc (bs.drop k)) ∧ W1 = wr)
    (fun _ _ vi _ => t.size - (intOf vi).toNat)
  case atStart => exact ⟨0, 0, 0, rfl, rfl, rfl, by omega, Lib.hid ⟨rfl, by decide, rfl⟩, rfl⟩
  case round =>
    obtain ⟨k, acc, a, rfl, rfl, rfl, hk, hh, rfl⟩ := hrel
    obtain ⟨ha, hacc, hdec⟩ := hh.out
    clear hh
    by_cases hkn : k < t.size
    · have hp : 16 ^ k ≤ 16 ^ 15 := Nat.pow_le_pow_right (by decide) (by omega)
      have a0 : 0 ≤ a := by omega
      have a1 : a < 1152921504606846976 := by omega
      clear hp
      have hc := hB k hkn
      have hdrop : bs.drop k = bs[k]'(by omega) :: bs.drop (k + 1) := List.drop_eq_getElem_cons (by omega)
      have hget : bs.getD k 0 = bs[k]'(by omega) := by simp [List.getD, List.getElem?_eq_getElem (show k < bs.length by omega)]
      rw [hdrop] at hdec
      rw [hget] at hc
      generalize bs[k]'(by omega) = c at hc hdec
      have hc256 : c.toNat < 256 := c.toNat_lt
      clear hB hdrop hget
      have hstep : ∀ d : Nat, d < 16 → hexD c.toNat = some d → ∀ x : Int, x = a * 16 + d → Hid (x = ((acc * 16 + d : Nat) : Int) ∧ acc * 16 + d < 16 ^ (k + 1) ∧ hexGo 0 bs = hexGo (acc * 16 + d) (bs.drop (k + 1))) := fun d hd he x hx => Lib.hid ⟨by omega, by rw [Nat.pow_succ]; omega, by rw [hdec, hexGo, he]⟩
      have hno : hexD c.toNat = none → hexGo 0 bs = none := fun he => by rw [hdec, hexGo, he]
      have HS := Lib.hid hstep
      have HNO := Lib.hid hno
      clear hstep hno hdec hacc ha
      by_cases hu : c.toNat = 95
      · have HF : Hid (hexGo 0 bs = none) := Lib.hid (HNO.out (by rw [hu]; decide))
        have hcb : ((c.toNat : Int) == 95) = true := by rw [hu]; rfl
        have h127 : bits .or .u8 (c.toNat : Int) 32 = 127 := by rw [hu]; decide
        have hgt : 57 < c.toNat := by omega
        clear hu
        have HLO := Lib.hid (fun w => Tryz.internal_strconv_lower (c.toNat : Int) w)
        rw [h127] at HLO
        clear h127
        go_wp2_with (refine (HLO.out _).mono ?_; rintro e w2 ⟨rfl, rfl⟩)
        go_ret2
        exact ⟨by rw [HF.out]; rfl, rfl⟩
      · have hcb : ((c.toNat : Int) == 95) = false := beq_eq_false_iff_ne.2 (by omega)
        clear hu
        by_cases hdig : 48 ≤ c.toNat ∧ c.toNat ≤ 57
        · obtain ⟨hd0, hd1⟩ := hdig
          have HN := HS.out (c.toNat - 48) (by omega) (by unfold hexD; rw [if_pos ⟨hd0, hd1⟩])
          have HNN := Lib.hid (HN (a * 16 + ((c.toNat : Int) - 48)) (by omega))
          clear HN
          have iov : a * 16 + ((c.toNat : Int) - 48) < 18446744073709551616 := by omega
          go_wp2_with fail
          exact ⟨⟨k + 1, acc * 16 + (c.toNat - 48), a * 16 + ((c.toNat : Int) - 48), rfl, (by first | rfl | (congr 1; omega)), (by first | rfl | (congr 1; omega)), by omega, HNN.out, by first | rfl | trivial⟩, by simp [intOf]; omega⟩
        · have hLb : 0 ≤ bits .or .u8 (c.toNat : Int) 32 ∧ bits .or .u8 (c.toNat : Int) 32 ≤ 255 := ⟨bits_lo_u8 .or (c.toNat : Int) 32, by have := bits_hi_u8 .or (c.toNat : Int) 32; omega⟩
          have HLO := Lib.hid (fun w => Tryz.internal_strconv_lower (c.toNat : Int) w)
          have hexE : hexD c.toNat = if 97 ≤ bits .or .u8 (c.toNat : Int) 32 ∧ bits .or .u8 (c.toNat : Int) 32 ≤ 122 then (if 16 ≤ bits .or .u8 (c.toNat : Int) 32 - 97 + 10 then none else some (bits .or .u8 (c.toNat : Int) 32 - 97 + 10).toNat) else none := by unfold hexD; rw [if_neg hdig]
          generalize bits .or .u8 (c.toNat : Int) 32 = l at hLb HLO hexE
          obtain ⟨hl0, hl1⟩ := hLb
          have HE := Lib.hid hexE
          clear hexE
          have hd2 : c.toNat < 48 ∨ 57 < c.toNat := by omega
          clear hdig
          by_cases hlet : 97 ≤ l ∧ l ≤ 122
          · obtain ⟨hl2, hl3⟩ := hlet
            by_cases h16 : 16 ≤ l - 97 + 10
            · have HF : Hid (hexGo 0 bs = none) := Lib.hid (HNO.out (by rw [HE.out, if_pos ⟨hl2, hl3⟩, if_pos h16]))
              rcases hd2 with hd | hd
              all_goals
                go_wp2_with (refine (HLO.out _).mono ?_; rintro e w2 ⟨rfl, rfl⟩)
                go_ret2
                exact ⟨by rw [HF.out]; rfl, rfl⟩
            · have HN := HS.out (l - 97 + 10).toNat (by omega) (by rw [HE.out, if_pos ⟨hl2, hl3⟩, if_neg h16])
              have HNN := Lib.hid (HN (a * 16 + (l - 97 + 10)) (by omega))
              clear HN
              have iov : a * 16 + (l - 97 + 10) < 18446744073709551616 := by omega
              rcases hd2 with hd | hd
              all_goals
                go_wp2_with (refine (HLO.out _).mono ?_; rintro e w2 ⟨rfl, rfl⟩)
                exact ⟨⟨k + 1, _, a * 16 + (l - 97 + 10), rfl, (by first | rfl | (congr 1; omega)), (by first | rfl | (congr 1; omega)), by omega, HNN.out, by first | rfl | trivial⟩, by simp [intOf]; omega⟩
          · have HF : Hid (hexGo 0 bs = none) := Lib.hid (HNO.out (by rw [HE.out, if_neg hlet]))
            have hl4 : l < 97 ∨ 122 < l := by omega
            clear hlet
            rcases hd2 with hd | hd
            all_goals
              rcases hl4 with hl4 | hl4
            all_goals
              go_wp2_with (refine (HLO.out _).mono ?_; rintro e w2 ⟨rfl, rfl⟩)
              go_ret2
              exact ⟨by rw [HF.out]; rfl, rfl⟩
    · have hkk : k = t.size := by omega
      subst hkk
      have hF : hexGo acc (bs.drop t.size) = some acc := by rw [List.drop_eq_nil_of_le (by omega)]; rfl
      have HF : Hid (hexGo 0 bs = some acc) := Lib.hid (hdec.trans hF)
      subst ha
      clear hF hdec hacc hB
      go_wp2_with fail
      go_ret2
      exact ⟨by rw [HF.out]; rfl, rfl⟩
end Go.Proofs.YtdkhedefcmjjgaaGreatDoor
/- lang.hexed, strings.CutPrefix, walked.
Conditions: ASCII text; the width is 32 or 64. -/
namespace Go.Proofs.YtdkhedefcmjjgaaGreatDoor
open Go.RowKit Sp
set_option linter.unusedSimpArgs false
set_option linter.unusedVariables false
/-- ParseUint's ending at a text that is no number. -/
def UErr (w : World) (e : Ending) (w' : World) : Prop := Below w.heap.size w w' ∧ ∃ N, e = .returned (.tuple #[.int .u64 0, .iface 103 (.pointer (some ⟨N, 0, none⟩))])
theorem below_bytes (w : World) (t : ByteArray) : Below w.heap.size w (Lib.bytesWorld w 5 t) := by
  exact Joins.below_bytesWorld _ w 5 t (Nat.le_refl _)
theorem parse117_some (t : ByteArray) (hne : t.size ≠ 0) (hmax : t.size ≤ 16) (n : Nat) (h : hexGo 0 t.data.toList = some n) (w : World) :
    Calls Tryz.prog 117 #[.string t, .int .i64 16, .int .i64 64] w fun e w' => e = .returned (.tuple #[.int .u64 n, .nilIface]) ∧ Below w.heap.size w w' := by
  have HC := Lib.hid ((parseHex_any t hne hmax w).mono (R' := fun e w' => e = .returned (.tuple #[.int .u64 n, .nilIface]) ∧ w' = Lib.bytesWorld w 5 t) (fun e w' ⟨h1, h2⟩ => ⟨by rw [h1, h]; rfl, h2⟩))
  have HB := Lib.hid (below_bytes w t)
  generalize Lib.bytesWorld w 5 t = W1 at HC HB
  clear h hne
  go_enter Tryz.func117, Tryz.ntmps117
  go_wp2_with fail
  refine HC.out.mono ?_
  rintro e w1 ⟨rfl, rfl⟩
  go_wp2_with fail
  go_returns
  exact ⟨rfl, HB.out⟩
theorem parse117_none (t : ByteArray) (hne : t.size ≠ 0) (hmax : t.size ≤ 16) (h : hexGo 0 t.data.toList = none) (w : World) (hE : Env w) :
    Calls Tryz.prog 117 #[.string t, .int .i64 16, .int .i64 64] w (UErr w) := by
  have HC := Lib.hid ((parseHex_any t hne hmax w).mono (R' := fun e w' => e = .returned (.tuple #[.int .u64 0, .iface 100 (.int .i64 2)]) ∧ w' = Lib.bytesWorld w 5 t) (fun e w' ⟨h1, h2⟩ => ⟨by rw [h1, h]; rfl, h2⟩))
  have HB := Lib.hid (below_bytes w t)
  generalize Lib.bytesWorld w 5 t = W1 at HC HB
  obtain ⟨te, pe, hs⟩ := (hE.old HB.out).syn
  have HS := Lib.hid hs
  clear h hne hs hE
  go_enter Tryz.func117, Tryz.ntmps117
  go_wp2_with fail
  refine HC.out.mono ?_
  rintro e w1 ⟨rfl, rfl⟩
  go_wp2_with fail
  refine (Tryz.strconv_toError_syntax _ t 16 64 (.iface te pe) _ (by omega) HS.out (.inr ⟨_, _, rfl⟩)).mono ?_
  rintro e w2 ⟨N, rfl, hN, hH, hb2⟩
  have HB2 := Lib.hid hb2
  clear hb2 hH hN
  go_wp2_with fail
  go_returns
  exact ⟨HB.out.trans (HB2.out.mono HB.out.size), N, rfl⟩
theorem hexed_32 (t : ByteArray) (hA : ∀ (j : Nat) (b : UInt8), t.data.toList[j]? = some b → b.toNat < 128) (hs : t.size ≤ 100) : ∃ (n : Int) (ok : Bool), ∀ w, Env w →
    Calls Tryz.prog 106 #[.string t, .int .i64 32] w fun e w' => e = .returned (.tuple #[.int .i64 n, .bool ok]) ∧ Below w.heap.size w w' := by
  by_cases hl : t.size = 8
  · have hu := fun w => Tryz.strings_ToUpper_ascii t w (by omega) hA
    obtain ⟨U, hU⟩ : ∃ U : ByteArray, (⟨(Lib.toUpperA t.data.toList).toArray⟩ : ByteArray) = U := ⟨_, rfl⟩
    rw [hU] at hu
    have HU := Lib.hid hu
    clear hu hU hA
    have hne : t.size ≠ 0 := by omega
    have hmax : t.size ≤ 16 := by omega
    have hl1 : ((t.size : Int) != 8) = false := by rw [hl]; rfl
    by_cases he : t = U
    · rw [← he] at HU
      clear he
      have hsn : (t.toList == t.toList) = true := by simp
      cases hg : hexGo 0 t.data.toList with
      | some n =>
        have HP := Lib.hid (parse117_some t hne hmax n hg)
        clear hg hne hl
        apply Exists.intro
        case h =>
          refine ⟨true, fun w hE => ?_⟩
          clear hE
          go_enter Tryz.func106, Tryz.ntmps106
          go_wp2_with fail
          refine (HU.out _).mono ?_
          rintro e w1 ⟨rfl, hb1⟩
          have HB1 := Lib.hid hb1
          clear hb1
          go_wp2_with fail
          refine (HP.out _).mono ?_
          rintro e w2 ⟨rfl, hb2⟩
          have HB2 := Lib.hid (HB1.out.trans (hb2.mono HB1.out.size))
          clear hb2
          go_wp2_with fail
          try
            go_region
            go_wp2_with fail
          go_returns
          exact ⟨rfl, by first | exact HB2.out | exact HB2.out.drew⟩
      | none =>
        have HP := Lib.hid (parse117_none t hne hmax hg)
        clear hg hne hl
        apply Exists.intro
        case h =>
          refine ⟨false, fun w hE => ?_⟩
          have HE := Lib.hid hE
          clear hE
          go_enter Tryz.func106, Tryz.ntmps106
          go_wp2_with fail
          refine (HU.out _).mono ?_
          rintro e w1 ⟨rfl, hb1⟩
          have HB1 := Lib.hid hb1
          clear hb1
          go_wp2_with fail
          refine (HP.out _ (HE.out.old HB1.out)).mono ?_
          rintro e w2 ⟨hb2, N, rfl⟩
          have HB2 := Lib.hid (HB1.out.trans (hb2.mono HB1.out.size))
          clear hb2
          go_wp2_with fail
          try
            go_region
            go_wp2_with fail
          go_returns
          exact ⟨rfl, by first | exact HB2.out | exact HB2.out.drew⟩
    · have hsn : (t.toList == U.toList) = false := by
        rw [beq_eq_false_iff_ne]
        intro h
        exact he (by
          have h1 := congrArg List.toArray h
          rw [ByteArray.toList_eq, ByteArray.toList_eq] at h1
          simp at h1
          cases t; cases U; simp_all)
      clear he hl hne
      refine ⟨0, false, fun w hE => ?_⟩
      clear hE
      go_enter Tryz.func106, Tryz.ntmps106
      go_wp2_with fail
      refine (HU.out _).mono ?_
      rintro e w1 ⟨rfl, hb1⟩
      have HB1 := Lib.hid hb1
      clear hb1
      go_wp2_with fail
      go_returns
      exact ⟨rfl, HB1.out⟩
  · have hl1 : ((t.size : Int) != 8) = true := by simp; omega
    clear hl hA
    refine ⟨0, false, fun w hE => ?_⟩
    clear hE
    go_enter Tryz.func106, Tryz.ntmps106
    go_wp2_with fail
    go_returns
    exact ⟨rfl, Below.refl _ _⟩
theorem hexed_64 (t : ByteArray) (hA : ∀ (j : Nat) (b : UInt8), t.data.toList[j]? = some b → b.toNat < 128) (hs : t.size ≤ 100) : ∃ (n : Int) (ok : Bool), ∀ w, Env w →
    Calls Tryz.prog 106 #[.string t, .int .i64 64] w fun e w' => e = .returned (.tuple #[.int .i64 n, .bool ok]) ∧ Below w.heap.size w w' := by
  by_cases hl : t.size = 16
  · have hu := fun w => Tryz.strings_ToUpper_ascii t w (by omega) hA
    obtain ⟨U, hU⟩ : ∃ U : ByteArray, (⟨(Lib.toUpperA t.data.toList).toArray⟩ : ByteArray) = U := ⟨_, rfl⟩
    rw [hU] at hu
    have HU := Lib.hid hu
    clear hu hU hA
    have hne : t.size ≠ 0 := by omega
    have hmax : t.size ≤ 16 := by omega
    have hl1 : ((t.size : Int) != 16) = false := by rw [hl]; rfl
    by_cases he : t = U
    · rw [← he] at HU
      clear he
      have hsn : (t.toList == t.toList) = true := by simp
      cases hg : hexGo 0 t.data.toList with
      | some n =>
        have HP := Lib.hid (parse117_some t hne hmax n hg)
        clear hg hne hl
        apply Exists.intro
        case h =>
          refine ⟨true, fun w hE => ?_⟩
          clear hE
          go_enter Tryz.func106, Tryz.ntmps106
          go_wp2_with fail
          refine (HU.out _).mono ?_
          rintro e w1 ⟨rfl, hb1⟩
          have HB1 := Lib.hid hb1
          clear hb1
          go_wp2_with fail
          refine (HP.out _).mono ?_
          rintro e w2 ⟨rfl, hb2⟩
          have HB2 := Lib.hid (HB1.out.trans (hb2.mono HB1.out.size))
          clear hb2
          go_wp2_with fail
          try
            go_region
            go_wp2_with fail
          go_returns
          exact ⟨rfl, by first | exact HB2.out | exact HB2.out.drew⟩
      | none =>
        have HP := Lib.hid (parse117_none t hne hmax hg)
        clear hg hne hl
        apply Exists.intro
        case h =>
          refine ⟨false, fun w hE => ?_⟩
          have HE := Lib.hid hE
          clear hE
          go_enter Tryz.func106, Tryz.ntmps106
          go_wp2_with fail
          refine (HU.out _).mono ?_
          rintro e w1 ⟨rfl, hb1⟩
          have HB1 := Lib.hid hb1
          clear hb1
          go_wp2_with fail
          refine (HP.out _ (HE.out.old HB1.out)).mono ?_
          rintro e w2 ⟨hb2, N, rfl⟩
          have HB2 := Lib.hid (HB1.out.trans (hb2.mono HB1.out.size))
          clear hb2
          go_wp2_with fail
          try
            go_region
            go_wp2_with fail
          go_returns
          exact ⟨rfl, by first | exact HB2.out | exact HB2.out.drew⟩
    · have hsn : (t.toList == U.toList) = false := by
        rw [beq_eq_false_iff_ne]
        intro h
        exact he (by
          have h1 := congrArg List.toArray h
          rw [ByteArray.toList_eq, ByteArray.toList_eq] at h1
          simp at h1
          cases t; cases U; simp_all)
      clear he hl hne
      refine ⟨0, false, fun w hE => ?_⟩
      clear hE
      go_enter Tryz.func106, Tryz.ntmps106
      go_wp2_with fail
      refine (HU.out _).mono ?_
      rintro e w1 ⟨rfl, hb1⟩
      have HB1 := Lib.hid hb1
      clear hb1
      go_wp2_with fail
      go_returns
      exact ⟨rfl, HB1.out⟩
  · have hl1 : ((t.size : Int) != 16) = true := by simp; omega
    clear hl hA
    refine ⟨0, false, fun w hE => ?_⟩
    clear hE
    go_enter Tryz.func106, Tryz.ntmps106
    go_wp2_with fail
    go_returns
    exact ⟨rfl, Below.refl _ _⟩
end Go.Proofs.YtdkhedefcmjjgaaGreatDoor
/- lang.number, walked: what it tells hangs on the text and the width alone.
Conditions: ASCII text; the width is 32 or 64. -/
namespace Go.Proofs.YtdkhedefcmjjgaaGreatDoor
open Go.RowKit Sp
set_option linter.unusedSimpArgs false
set_option linter.unusedVariables false
theorem pre122 (s : ByteArray) (hs : s.size ≤ 1000) : ∃ b : Bool, (b = true → 2 ≤ s.size) ∧ ∀ w, Calls Tryz.prog 122 #[.string s, .string ⟨#[48, 120]⟩] w fun e w' => e = .returned (.bool b) ∧ w' = w := by
  by_cases h2 : 2 ≤ s.size
  · cases hq : ((s.extract 0 2).toList == [48, 120]) with
    | true =>
      refine ⟨true, fun _ => h2, fun w => ?_⟩
      go_enter Tryz.func122, Tryz.ntmps122
      go_wp2_with fail
      go_returns
      exact ⟨rfl, rfl⟩
    | false =>
      refine ⟨false, (fun h => by cases h), fun w => ?_⟩
      go_enter Tryz.func122, Tryz.ntmps122
      go_wp2_with fail
      go_returns
      exact ⟨rfl, rfl⟩
  · refine ⟨false, (fun h => by cases h), fun w => ?_⟩
    have h3 : s.size < 2 := by omega
    go_enter Tryz.func122, Tryz.ntmps122
    go_wp2_with fail
    go_returns
    exact ⟨rfl, rfl⟩
theorem cut105 (s : ByteArray) (hs : s.size ≤ 1000) : ∃ (b : Bool) (t : ByteArray), ((b = true ∧ t = s.extract 2 s.size) ∨ (b = false ∧ t = s)) ∧ ∀ w, Calls Tryz.prog 105 #[.string s, .string ⟨#[48, 120]⟩] w fun e w' => e = .returned (.tuple #[.string t, .bool b]) ∧ w' = w := by
  obtain ⟨b, hb, hc⟩ := pre122 s hs
  have HC := Lib.hid hc
  clear hc
  cases b with
  | true =>
    have h2 := hb rfl
    clear hb
    have H115 : Hid (∀ w, Calls Tryz.prog 115 #[.string s, .string ⟨#[48, 120]⟩] w fun e w' => e = .returned (.tuple #[.string (s.extract 2 s.size), .bool true]) ∧ w' = w) := Lib.hid (fun w => by
      go_enter Tryz.func115, Tryz.ntmps115
      go_wp2_with fail
      refine (HC.out _).mono ?_
      rintro e w1 ⟨rfl, rfl⟩
      go_wp2_with fail
      go_returns
      exact ⟨rfl, rfl⟩)
    refine ⟨true, _, .inl ⟨rfl, rfl⟩, fun w => ?_⟩
    go_enter Tryz.func105, Tryz.ntmps105
    go_wp2_with fail
    refine (H115.out _).mono ?_
    rintro e w1 ⟨rfl, rfl⟩
    go_wp2_with fail
    go_returns
    exact ⟨rfl, rfl⟩
  | false =>
    clear hb
    have H115 : Hid (∀ w, Calls Tryz.prog 115 #[.string s, .string ⟨#[48, 120]⟩] w fun e w' => e = .returned (.tuple #[.string s, .bool false]) ∧ w' = w) := Lib.hid (fun w => by
      go_enter Tryz.func115, Tryz.ntmps115
      go_wp2_with fail
      refine (HC.out _).mono ?_
      rintro e w1 ⟨rfl, rfl⟩
      go_wp2_with fail
      go_returns
      exact ⟨rfl, rfl⟩)
    refine ⟨false, _, .inr ⟨rfl, rfl⟩, fun w => ?_⟩
    go_enter Tryz.func105, Tryz.ntmps105
    go_wp2_with fail
    refine (H115.out _).mono ?_
    rintro e w1 ⟨rfl, rfl⟩
    go_wp2_with fail
    go_returns
    exact ⟨rfl, rfl⟩
theorem number_32 (s : ByteArray) (hA : ∀ (j : Nat) (b : UInt8), s.data.toList[j]? = some b → b.toNat < 128) (hs : s.size ≤ 100000) : ∃ (n : Int) (ok : Bool), ∀ w, Env w →
    Calls Tryz.prog 91 #[.string s, .int .i64 32] w fun e w' => e = .returned (.tuple #[.int .i64 n, .bool ok]) ∧ Below w.heap.size w w' := by
  rcases Nat.lt_or_ge 40 s.size with h40 | h40
  · refine ⟨0, false, fun w hE => ?_⟩
    clear hE hA
    have h41 : (40 : Int) < (s.size : Int) := by omega
    go_enter Tryz.func91, Tryz.ntmps91
    go_wp2_with fail
    go_returns
    exact ⟨rfl, Below.refl _ _⟩
  · have h41 : ¬ (40 : Int) < (s.size : Int) := by omega
    obtain ⟨b, t, hbt, hcut⟩ := cut105 s (by omega)
    have HCUT := Lib.hid hcut
    clear hcut
    rcases hbt with ⟨rfl, ht⟩ | ⟨rfl, rfl⟩
    · have htA : ∀ (j : Nat) (b : UInt8), t.data.toList[j]? = some b → b.toNat < 128 := fun j b hb => by
        have hm : b ∈ t.data.toList := List.mem_of_getElem? hb
        rw [ht] at hm
        have : b ∈ s.data.toList := by
          simp [ByteArray.data_extract] at hm
          exact (List.mem_of_mem_drop (List.mem_of_mem_take hm)) <;> skip
        obtain ⟨j', hj'⟩ := List.getElem?_of_mem this
        exact hA j' b hj'
      have htS : t.size ≤ 100 := by rw [ht, ByteArray.size_extract]; omega
      obtain ⟨n, ok, hx⟩ := hexed_32 t htA htS
      have HX := Lib.hid hx
      clear hx htA htS ht hA
      refine ⟨n, ok, fun w hE => ?_⟩
      have HE := Lib.hid hE
      clear hE
      go_enter Tryz.func91, Tryz.ntmps91
      go_wp2_with fail
      refine (HCUT.out _).mono ?_
      rintro e w1 ⟨rfl, rfl⟩
      go_wp2_with fail
      refine (HX.out _ HE.out).mono ?_
      rintro e w2 ⟨rfl, hb2⟩
      have HB2 := Lib.hid hb2
      clear hb2
      go_wp2_with fail
      go_returns
      exact ⟨rfl, HB2.out⟩
    · obtain ⟨d, hF, hdec⟩ := decimal_any t (by omega)
      have HDEC := Lib.hid hdec
      clear hdec hA
      cases d with
      | false =>
        clear hF
        refine ⟨0, false, fun w hE => ?_⟩
        clear hE
        go_enter Tryz.func91, Tryz.ntmps91
        go_wp2_with fail
        refine (HCUT.out _).mono ?_
        rintro e w1 ⟨rfl, rfl⟩
        go_wp2_with fail
        refine (HDEC.out _).mono ?_
        rintro e w2 ⟨rfl, hb2⟩
        have HB2 := Lib.hid hb2
        clear hb2
        go_wp2_with fail
        go_returns
        exact ⟨rfl, HB2.out⟩
      | true =>
        obtain ⟨a, m, F⟩ := hF rfl
        obtain ⟨v, er, hbk, her, hp⟩ := parse119 t a m F (by omega) 32 (by omega)
        obtain ⟨z, hz⟩ := hbk rfl
        have hcv := conv64 v z hz
        obtain ⟨b, hOf⟩ := of32_any z
        have HOF := Lib.hid hOf
        clear hOf hF hbk F
        refine ⟨b, true, fun w hE => ?_⟩
        have HE := Lib.hid hE
        clear hE
        rcases her with rfl | rfl
        · have HP := Lib.hid (parse108_nil t 32 v hp)
          clear hp
          go_enter Tryz.func91, Tryz.ntmps91
          go_wp2_with fail
          refine (HCUT.out _).mono ?_
          rintro e w1 ⟨rfl, rfl⟩
          go_wp2_with fail
          refine (HDEC.out _).mono ?_
          rintro e w2 ⟨rfl, hb2⟩
          have HB2 := Lib.hid hb2
          clear hb2
          go_wp2_with fail
          refine (HP.out _ (HE.out.old HB2.out)).mono ?_
          rintro e w3 ⟨rfl, hb3⟩
          have HB3 := Lib.hid (HB2.out.trans (hb3.mono HB2.out.size))
          clear hb3
          go_wp2_with fail
          refine (HOF.out _).mono ?_
          rintro e w9 ⟨rfl, rfl⟩
          go_wp2_with fail
          go_returns
          exact ⟨rfl, HB3.out⟩
        · have HP := Lib.hid (parse108_range t (by omega) 32 v hp)
          clear hp
          go_enter Tryz.func91, Tryz.ntmps91
          go_wp2_with fail
          refine (HCUT.out _).mono ?_
          rintro e w1 ⟨rfl, rfl⟩
          go_wp2_with fail
          refine (HDEC.out _).mono ?_
          rintro e w2 ⟨rfl, hb2⟩
          have HB2 := Lib.hid hb2
          clear hb2
          go_wp2_with fail
          refine (HP.out _ (HE.out.old HB2.out)).mono ?_
          rintro e w3 ⟨hb3, N, fn, ad, rfl, hH, h5⟩
          have HB3 := Lib.hid (HB2.out.trans (hb3.mono HB2.out.size))
          have HI := Lib.hid (isRange_any N fn t ad w3 hH h5)
          clear hb3 hH h5
          go_wp2_with fail
          refine (HI.out).mono ?_
          rintro e w4 ⟨rfl, hb4⟩
          have HB4 := Lib.hid (HB3.out.trans (hb4.mono HB3.out.size))
          clear hb4
          go_wp2_with fail
          refine (HOF.out _).mono ?_
          rintro e w9 ⟨rfl, rfl⟩
          go_wp2_with fail
          go_returns
          exact ⟨rfl, HB4.out⟩
theorem number_64 (s : ByteArray) (hA : ∀ (j : Nat) (b : UInt8), s.data.toList[j]? = some b → b.toNat < 128) (hs : s.size ≤ 100000) : ∃ (n : Int) (ok : Bool), ∀ w, Env w →
    Calls Tryz.prog 91 #[.string s, .int .i64 64] w fun e w' => e = .returned (.tuple #[.int .i64 n, .bool ok]) ∧ Below w.heap.size w w' := by
  rcases Nat.lt_or_ge 40 s.size with h40 | h40
  · refine ⟨0, false, fun w hE => ?_⟩
    clear hE hA
    have h41 : (40 : Int) < (s.size : Int) := by omega
    go_enter Tryz.func91, Tryz.ntmps91
    go_wp2_with fail
    go_returns
    exact ⟨rfl, Below.refl _ _⟩
  · have h41 : ¬ (40 : Int) < (s.size : Int) := by omega
    obtain ⟨b, t, hbt, hcut⟩ := cut105 s (by omega)
    have HCUT := Lib.hid hcut
    clear hcut
    rcases hbt with ⟨rfl, ht⟩ | ⟨rfl, rfl⟩
    · have htA : ∀ (j : Nat) (b : UInt8), t.data.toList[j]? = some b → b.toNat < 128 := fun j b hb => by
        have hm : b ∈ t.data.toList := List.mem_of_getElem? hb
        rw [ht] at hm
        have : b ∈ s.data.toList := by
          simp [ByteArray.data_extract] at hm
          exact (List.mem_of_mem_drop (List.mem_of_mem_take hm)) <;> skip
        obtain ⟨j', hj'⟩ := List.getElem?_of_mem this
        exact hA j' b hj'
      have htS : t.size ≤ 100 := by rw [ht, ByteArray.size_extract]; omega
      obtain ⟨n, ok, hx⟩ := hexed_64 t htA htS
      have HX := Lib.hid hx
      clear hx htA htS ht hA
      refine ⟨n, ok, fun w hE => ?_⟩
      have HE := Lib.hid hE
      clear hE
      go_enter Tryz.func91, Tryz.ntmps91
      go_wp2_with fail
      refine (HCUT.out _).mono ?_
      rintro e w1 ⟨rfl, rfl⟩
      go_wp2_with fail
      refine (HX.out _ HE.out).mono ?_
      rintro e w2 ⟨rfl, hb2⟩
      have HB2 := Lib.hid hb2
      clear hb2
      go_wp2_with fail
      go_returns
      exact ⟨rfl, HB2.out⟩
    · obtain ⟨d, hF, hdec⟩ := decimal_any t (by omega)
      have HDEC := Lib.hid hdec
      clear hdec hA
      cases d with
      | false =>
        clear hF
        refine ⟨0, false, fun w hE => ?_⟩
        clear hE
        go_enter Tryz.func91, Tryz.ntmps91
        go_wp2_with fail
        refine (HCUT.out _).mono ?_
        rintro e w1 ⟨rfl, rfl⟩
        go_wp2_with fail
        refine (HDEC.out _).mono ?_
        rintro e w2 ⟨rfl, hb2⟩
        have HB2 := Lib.hid hb2
        clear hb2
        go_wp2_with fail
        go_returns
        exact ⟨rfl, HB2.out⟩
      | true =>
        obtain ⟨a, m, F⟩ := hF rfl
        obtain ⟨v, er, hbk, her, hp⟩ := parse119 t a m F (by omega) 64 (by omega)
        obtain ⟨b, hOf⟩ := of64_any v
        have HOF := Lib.hid hOf
        clear hOf hF hbk F
        refine ⟨b, true, fun w hE => ?_⟩
        have HE := Lib.hid hE
        clear hE
        rcases her with rfl | rfl
        · have HP := Lib.hid (parse108_nil t 64 v hp)
          clear hp
          go_enter Tryz.func91, Tryz.ntmps91
          go_wp2_with fail
          refine (HCUT.out _).mono ?_
          rintro e w1 ⟨rfl, rfl⟩
          go_wp2_with fail
          refine (HDEC.out _).mono ?_
          rintro e w2 ⟨rfl, hb2⟩
          have HB2 := Lib.hid hb2
          clear hb2
          go_wp2_with fail
          refine (HP.out _ (HE.out.old HB2.out)).mono ?_
          rintro e w3 ⟨rfl, hb3⟩
          have HB3 := Lib.hid (HB2.out.trans (hb3.mono HB2.out.size))
          clear hb3
          go_wp2_with fail
          refine (HOF.out _).mono ?_
          rintro e w9 ⟨rfl, rfl⟩
          go_wp2_with fail
          go_returns
          exact ⟨rfl, HB3.out⟩
        · have HP := Lib.hid (parse108_range t (by omega) 64 v hp)
          clear hp
          go_enter Tryz.func91, Tryz.ntmps91
          go_wp2_with fail
          refine (HCUT.out _).mono ?_
          rintro e w1 ⟨rfl, rfl⟩
          go_wp2_with fail
          refine (HDEC.out _).mono ?_
          rintro e w2 ⟨rfl, hb2⟩
          have HB2 := Lib.hid hb2
          clear hb2
          go_wp2_with fail
          refine (HP.out _ (HE.out.old HB2.out)).mono ?_
          rintro e w3 ⟨hb3, N, fn, ad, rfl, hH, h5⟩
          have HB3 := Lib.hid (HB2.out.trans (hb3.mono HB2.out.size))
          have HI := Lib.hid (isRange_any N fn t ad w3 hH h5)
          clear hb3 hH h5
          go_wp2_with fail
          refine (HI.out).mono ?_
          rintro e w4 ⟨rfl, hb4⟩
          have HB4 := Lib.hid (HB3.out.trans (hb4.mono HB3.out.size))
          clear hb4
          go_wp2_with fail
          refine (HOF.out _).mono ?_
          rintro e w9 ⟨rfl, rfl⟩
          go_wp2_with fail
          go_returns
          exact ⟨rfl, HB4.out⟩
end Go.Proofs.YtdkhedefcmjjgaaGreatDoor
