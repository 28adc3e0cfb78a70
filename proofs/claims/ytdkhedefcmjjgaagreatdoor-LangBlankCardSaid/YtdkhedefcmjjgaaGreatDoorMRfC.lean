/- readFloat, walked, at a decimal number's text without a point, with an exponent.
Conditions: the text has the form, and at most 40 bytes. -/
import Derived.Test.YtdkhedefcmjjgaaGreatDoorMRf0
import Derived.Deep.RegionWith
import Derived.Handy
import Derived.Deep.DeepCutAuto
import Derived.Tactics2
import Derived.WalkMore
namespace Go.Proofs.YtdkhedefcmjjgaaGreatDoor
open Go.RowKit Sp
set_option linter.unusedSimpArgs false
set_option linter.unusedVariables false
set_option maxRecDepth 100000 in
set_option maxHeartbeats 16000000 in
theorem readFloat_posN (s : ByteArray) (a m : Nat) (F : Form s a m) (hs : s.size ≤ 40) (ev : Int) (q : Nat) (hms2 : m < s.size) (hE0 : Expn s m q false) (hev0 : ev = (exAt s q (s.size - q) : Int)) (ham0 : ¬ a < m) (he0 : -999 ≤ ev) (he1 : ev ≤ 999) (w : World) : Calls Tryz.prog 143 #[.string s] w fun e w' => e = .returned (.tuple #[.int .u64 (rfAt s m).man, .int .i64 (expOf s a m ev), .bool false, .bool (rfAt s m).tr, .bool false, .int .i64 s.size, .bool true]) ∧ Below w.heap.size w w' := by
  have HF := Lib.hid F
  have hE := Lib.hid hE0
  have hev1 := Lib.hid hev0
  have ham := Lib.hid ham0
  clear hE0 hev0 ham0
  have h1s : 1 ≤ s.size := by have := F.a1; have := F.am; have := F.ms; omega
  have hms := F.ms
  have h0d := F.dig 0 (by have := F.a1; have := F.am; omega) (by have := F.a1; omega)
  have hb0 : (s[0]'(by omega)).toNat = bt s 0 := bt_at (by omega)
  rw [← hb0] at h0d
  obtain ⟨h00, h01⟩ := h0d
  have c0 : (48 : Int) ≤ ((s[0]'(by omega)).toNat : Int) := by omega
  have c1 : ((s[0]'(by omega)).toNat : Int) ≤ 57 := by omega
  have HL := Lib.hid (fun c w => Tryz.internal_strconv_lower c w)
  have cb1 : (((s[0]'(by omega)).toNat : Int) == 43) = false := beq_eq_false_iff_ne.2 (by omega)
  have cb2 : (((s[0]'(by omega)).toNat : Int) == 45) = false := beq_eq_false_iff_ne.2 (by omega)
  have HM1 := Lib.hid (And.intro F.a1 F.am)
  clear hb0 h00 h01 F
  have hne : ¬ s = ByteArray.empty := fun e => by rw [e] at h1s; simp at h1s
  have HX : Hid (1 < s.size → (bits .or .u8 (bt s 1 : Int) 32 == 120) = false) := Lib.hid HF.out.second
  go_enter Tryz.func143, Tryz.ntmps143
  go_wp2_with fail
  go_step3
  go_upto_region 12 with fail
  go_cut [27, 54] (fun s27 s54 wx => s54 = .bool false ∧ w = wx)
  case first =>
    by_cases h2 : 2 < s.size
    · have h3 := HX.out (by omega)
      rw [← bt_at (by omega : 1 < s.size)] at h3
      go_wp2_with (first | (refine (HL.out _ _).mono ?_; rintro e w1 ⟨rfl, rfl⟩) | fail)
      all_goals
        go_meet
        exact ⟨rfl, rfl⟩
    · go_wp2_with fail
      go_meet
      exact ⟨rfl, rfl⟩
  case rest =>
    obtain ⟨rfl, rfl⟩ := hcut
    clear cb1 cb2 c0 c1 hne HX
    go_wp2_with fail
    go_step3
    go_wp2_with fail
    go_loopw [2, 5, 7, 9, 13, 14, 15, 16, 17] (fun tM tT tI tU tSD tSG tND tNM tDP wr => ∃ (j nd nm man : Nat) (dp : Int) (tr sd sg : Bool), tI = .int .i64 j ∧ tND = .int .i64 nd ∧ tNM = .int .i64 nm ∧ tM = .int .u64 man ∧ tDP = .int .i64 dp ∧ tT = .bool tr ∧ tSD = .bool sd ∧ tSG = .bool sg ∧ tU = .bool false ∧
      j ≤ m ∧ nd ≤ 40 ∧ nm ≤ 19 ∧ -40 ≤ dp ∧ dp ≤ 40 ∧ Hid (rfAt s j = ⟨nd, nm, dp, man, tr⟩ ∧ sd = decide (a < j) ∧ sg = decide (0 < j) ∧ Below w.heap.size w wr)) (fun tM tT tI tU tSD tSG tND tNM tDP _ => m - (intOf tI).toNat)
    case atStart => exact ⟨0, 0, 0, 0, 0, false, false, false, rfl, rfl, rfl, rfl, rfl, rfl, rfl, rfl, rfl, Nat.zero_le _, by omega, by omega, by omega, by omega, Lib.hid ⟨rfl, rfl, rfl, Below.refl _ _⟩⟩
    case round =>
      obtain ⟨j, nd, nm, man, dp, tr, sd, sg, rfl, rfl, rfl, rfl, rfl, rfl, rfl, rfl, rfl, hjm, hnd, hnm, hdp0, hdp1, hb⟩ := hrel
      have HOK := Lib.hid (rf_ok HF.out j hjm)
      have HB := Lib.hid hb.out.2.2.2
      rcases Nat.lt_or_ge j m with hj | hj
      · have hjs : j < s.size := by omega
        have HNX : Hid (RFOk (rfAt s (j + 1)) (j + 1)) := Lib.hid (rf_ok HF.out (j + 1) hj)
        have hstep : Hid (rfAt s (j + 1) = rfStep ⟨nd, nm, dp, man, tr⟩ (bt s j)) := Lib.hid (by rw [← hb.out.1]; rfl)
        by_cases hja : j = a
        · subst hja
          have hd := (HF.out.dot (by omega)).1
          have hN : Hid (rfAt s (j + 1) = ⟨nd, nm, nd, man, tr⟩) := Lib.hid (by rw [hstep.out, hd]; rfl)
          rw [← bt_at hjs] at hd
          have hc1 : (((s[j]).toNat : Int) == 95) = false := by rw [hd]; rfl
          have hc2 : (((s[j]).toNat : Int) == 46) = true := by rw [hd]; rfl
          have hsd : sd = false := by rw [hb.out.2.1, decide_eq_false_iff_not]; omega
          have hsg : Hid (sg = true) := Lib.hid (by rw [hb.out.2.2.1, decide_eq_true_eq]; have := HM1.out; omega)
          subst hsd
          clear hd
          go_wp2_with fail
          exact ⟨⟨j + 1, nd, nm, man, nd, tr, true, sg, iv (by omega), rfl, rfl, rfl, rfl, rfl, rfl, rfl, rfl, by omega, hnd, hnm, by omega, by omega, Lib.hid ⟨hN.out, by simp, by rw [hsg.out]; simp, HB.out⟩⟩, by simp [intOf]; omega⟩
        · have hd := HF.out.dig j hj hja
          have hbt := Lib.hid (bt_at hjs)
          rw [← bt_at hjs] at hd
          have hc1 : (((s[j]).toNat : Int) == 95) = false := beq_eq_false_iff_ne.2 (by omega)
          have hc2 : (((s[j]).toNat : Int) == 46) = false := beq_eq_false_iff_ne.2 (by omega)
          have hc3 : (48 : Int) ≤ ((s[j]).toNat : Int) := by omega
          have hc4 : ((s[j]).toNat : Int) ≤ 57 := by omega
          have hsd : Hid (sd = decide (a < j + 1)) := Lib.hid (by rw [hb.out.2.1]; congr 1; rw [eq_iff_iff]; omega)
          clear hd
          by_cases hzz : (s[j]).toNat = 48 ∧ nd = 0
          · obtain ⟨hz1, hz2⟩ := hzz
            have hN : Hid (rfAt s (j + 1) = ⟨nd, nm, dp - 1, man, tr⟩) := Lib.hid (by rw [hstep.out, ← hbt.out]; unfold rfStep; rw [if_neg (by omega), if_pos ⟨hz1, hz2⟩])
            have hc5 : (((s[j]).toNat : Int) == 48) = true := by rw [hz1]; rfl
            have hc6 : ((nd : Int) == 0) = true := by rw [hz2]; rfl
            have hbd : Hid (-40 ≤ dp - 1) := Lib.hid (by have := HNX.out.dp0; rw [hN.out] at this; simp only at this; omega)
            clear hz1 hz2
            go_wp2_with fail
            exact ⟨⟨j + 1, nd, nm, man, dp - 1, tr, sd, true, iv (by omega), rfl, rfl, rfl, rfl, rfl, rfl, rfl, rfl, by omega, hnd, hnm, hbd.out, by omega, Lib.hid ⟨hN.out, hsd.out, by simp, HB.out⟩⟩, by simp [intOf]; omega⟩
          · have hnd1 : nd + 1 ≤ 40 := by
              have := HNX.out.nd
              have e : (rfAt s (j + 1)).nd = nd + 1 := by
                rw [hstep.out, ← hbt.out]
                unfold rfStep
                rw [if_neg (by omega), if_neg hzz]
                split <;> rfl
              omega
            rcases Nat.lt_or_ge nm 19 with h19 | h19
            · have hN : Hid (rfAt s (j + 1) = ⟨nd + 1, nm + 1, dp, man * 10 + ((s[j]).toNat - 48), tr⟩) := Lib.hid (by
                rw [hstep.out, ← hbt.out]; unfold rfStep; rw [if_neg (by omega), if_neg hzz, if_pos h19])
              have hman : (man : Int) ≤ 999999999999999999 := by
                have h1 := HOK.out.man
                rw [hb.out.1] at h1
                simp only at h1
                have h2 : 10 ^ nm ≤ 10 ^ 18 := Nat.pow_le_pow_right (by decide) (by omega)
                omega
              have h19' : (nm : Int) < 19 := by omega
              by_cases h48 : (s[j]).toNat = 48
              · have hc5 : (((s[j]).toNat : Int) == 48) = true := by rw [h48]; rfl
                have hc6 : ((nd : Int) == 0) = false := beq_eq_false_iff_ne.2 (by omega)
                clear h48 hzz
                go_wp2_with fail
                exact ⟨⟨j + 1, nd + 1, nm + 1, man * 10 + ((s[j]).toNat - 48), dp, tr, sd, true, iv (by omega), iv (by omega), iv (by omega), iv (by omega), rfl, rfl, rfl, rfl, rfl, by omega, hnd1, by omega, by omega, by omega, Lib.hid ⟨hN.out, hsd.out, by simp, HB.out⟩⟩, by simp [intOf]; omega⟩
              · have hc5 : (((s[j]).toNat : Int) == 48) = false := beq_eq_false_iff_ne.2 (by omega)
                clear h48 hzz
                go_wp2_with fail
                exact ⟨⟨j + 1, nd + 1, nm + 1, man * 10 + ((s[j]).toNat - 48), dp, tr, sd, true, iv (by omega), iv (by omega), iv (by omega), iv (by omega), rfl, rfl, rfl, rfl, rfl, by omega, hnd1, by omega, by omega, by omega, Lib.hid ⟨hN.out, hsd.out, by simp, HB.out⟩⟩, by simp [intOf]; omega⟩
            · have hN48 : Hid ((s[j]).toNat = 48 → rfAt s (j + 1) = ⟨nd + 1, nm, dp, man, tr⟩) := Lib.hid (fun h => by
                rw [hstep.out, ← hbt.out]; unfold rfStep; rw [if_neg (by omega), if_neg hzz, if_neg (show ¬ nm < 19 by omega), h]; cases tr <;> rfl)
              have hN49 : Hid ((s[j]).toNat ≠ 48 → rfAt s (j + 1) = ⟨nd + 1, nm, dp, man, true⟩) := Lib.hid (fun h => by
                rw [hstep.out, ← hbt.out]; unfold rfStep; rw [if_neg (by omega), if_neg hzz, if_neg (show ¬ nm < 19 by omega)]; simp [h])
              have h19' : ¬ (nm : Int) < 19 := by omega
              by_cases h48 : (s[j]).toNat = 48
              · have hc5 : (((s[j]).toNat : Int) == 48) = true := by rw [h48]; rfl
                have hc7 : (((s[j]).toNat : Int) != 48) = false := by rw [h48]; rfl
                have hc6 : ((nd : Int) == 0) = false := beq_eq_false_iff_ne.2 (by omega)
                have hN := Lib.hid (hN48.out h48)
                clear h48 hzz
                go_wp2_with fail
                exact ⟨⟨j + 1, nd + 1, nm, man, dp, tr, sd, true, iv (by omega), iv (by omega), rfl, rfl, rfl, rfl, rfl, rfl, rfl, by omega, hnd1, hnm, by omega, by omega, Lib.hid ⟨hN.out, hsd.out, by simp, HB.out⟩⟩, by simp [intOf]; omega⟩
              · have hc5 : (((s[j]).toNat : Int) == 48) = false := beq_eq_false_iff_ne.2 (by omega)
                have hc7 : (((s[j]).toNat : Int) != 48) = true := by simp; omega
                have hN := Lib.hid (hN49.out h48)
                clear h48 hzz
                go_wp2_with fail
                exact ⟨⟨j + 1, nd + 1, nm, man, dp, true, sd, true, iv (by omega), iv (by omega), rfl, rfl, rfl, rfl, rfl, rfl, rfl, by omega, hnd1, hnm, by omega, by omega, Lib.hid ⟨hN.out, hsd.out, by simp, HB.out⟩⟩, by simp [intOf]; omega⟩
      · obtain rfl : m = j := by omega
        have hsg : sg = true := by rw [hb.out.2.2.1, decide_eq_true_eq]; have := HM1.out; omega
        subst hsg
        have hsm := hE.out.e
        rw [← bt_at hms2] at hsm
        have f1 : (((s[m]).toNat : Int) == 95) = false := by rw [hsm]; rfl
        have f2 : (((s[m]).toNat : Int) == 46) = false := by rw [hsm]; rfl
        have f3 : (48 : Int) ≤ ((s[m]).toNat : Int) := by rw [hsm]; decide
        have f4 : ¬ ((s[m]).toNat : Int) ≤ 57 := by rw [hsm]; decide
        have f5 : (bits .or .u8 ((s[m]).toNat : Int) 32 == 101) = true := by rw [hsm]; decide
        clear hsm
        have hq := hE.out.pos rfl
        have hev := hev1
        subst hq
        clear hev1
        have hqs := hE.out.qs
        have hp1 : m + 1 < s.size := by omega
        have hp1' : (m : Int) + 1 < (s.size : Int) := by omega
        have hd := hE.out.all (m + 1) (Nat.le_refl _) (by omega)
        rw [← bt_at hp1] at hd
        have g1 : (((s[m + 1]).toNat : Int) == 43) = false := beq_eq_false_iff_ne.2 (by omega)
        have g2 : (((s[m + 1]).toNat : Int) == 45) = false := beq_eq_false_iff_ne.2 (by omega)
        have g3 : (48 : Int) ≤ ((s[m + 1]).toNat : Int) := by omega
        have g4 : ((s[m + 1]).toNat : Int) ≤ 57 := by omega
        clear hd
        have hsd : sd = false := by rw [hb.out.2.1, decide_eq_false_iff_not]; exact ham.out
        subst hsd
        go_wp2_with (first | (refine (HL.out _ _).mono ?_; rintro e w1 ⟨rfl, rfl⟩) | fail)
        go_loopw [7, 9, 20] (fun tI tU tE wr => ∃ i e : Nat, tI = .int .i64 i ∧ tE = .int .i64 e ∧ tU = .bool false ∧ (m + 1) ≤ i ∧ i ≤ s.size ∧ e ≤ 999 ∧ Hid (e = exAt s (m + 1) (i - (m + 1)) ∧ Below w.heap.size w wr)) (fun tI tU tE _ => s.size - (intOf tI).toNat)
        case atStart => exact ⟨(m + 1), 0, iv (by omega), rfl, rfl, Nat.le_refl _, by omega, by omega, Lib.hid ⟨by rw [Nat.sub_self]; rfl, HB.out⟩⟩
        case round =>
          clear HB
          obtain ⟨i, e, rfl, rfl, rfl, hqi, his, he9, hbe⟩ := hrel
          have HB := Lib.hid hbe.out.2
          rcases Nat.lt_or_ge i s.size with hi | hi
          · have hd := hE.out.all i hqi hi
            rw [← bt_at hi] at hd
            have hd1 : (48 : Int) ≤ ((s[i]).toNat : Int) := by omega
            have hd2 : ((s[i]).toNat : Int) ≤ 57 := by omega
            have hd3 : (((s[i]).toNat : Int) == 95) = false := beq_eq_false_iff_ne.2 (by omega)
            have hN : Hid (e * 10 + ((s[i]).toNat - 48) = exAt s (m + 1) (i + 1 - (m + 1))) := Lib.hid (by
              rw [show i + 1 - (m + 1) = (i - (m + 1)) + 1 by omega]
              unfold exAt
              rw [← hbe.out.1, show (m + 1) + (i - (m + 1)) = i by omega, bt_at hi])
            have h999 : Hid (e * 10 + ((s[i]).toNat - 48) ≤ 999) := Lib.hid (by rw [hN.out]; exact ex_999 hE.out _ (by omega))
            clear hd
            go_wp2_with fail
            exact ⟨⟨i + 1, e * 10 + ((s[i]).toNat - 48), iv (by omega), iv (by omega), rfl, by omega, by omega, h999.out, Lib.hid ⟨hN.out, HB.out⟩⟩, by simp [intOf]; omega⟩
          · have hEV : Hid (ev = (e : Int)) := Lib.hid (by rw [hev.out, hbe.out.1, show i - (m + 1) = s.size - (m + 1) by omega])
            by_cases hm0 : man = 0
            · have hmb : ((man : Int) != 0) = false := by rw [hm0]; rfl
              have hEX : Hid (expOf s a m ev = 0) := Lib.hid (by unfold expOf; rw [hb.out.1]; simp only; rw [if_pos hm0])
              clear hm0
              go_wp2_with fail
              rw [Exit.noGoto_ret]
              change bodyPost Tryz.prog Tryz.f143 _ Exit.ret _ _
              go_returns
              exact ⟨ret_rf (by rw [hb.out.1]) hEX.out.symm (by rw [hb.out.1]) (by omega), HB.out⟩
            · have hmb : ((man : Int) != 0) = true := by simp; omega
              have hEX : Hid (expOf s a m ev = nd + ev - nm) := Lib.hid (by unfold expOf; rw [hb.out.1]; simp only; rw [if_neg hm0, if_neg ham.out])
              clear hm0
              go_wp2_with fail
              rw [Exit.noGoto_ret]
              change bodyPost Tryz.prog Tryz.f143 _ Exit.ret _ _
              go_returns
              exact ⟨ret_rf (by rw [hb.out.1]) (by rw [hEX.out]; have := hEV.out; omega) (by rw [hb.out.1]) (by omega), HB.out⟩
end Go.Proofs.YtdkhedefcmjjgaaGreatDoor
/- readFloat, walked, at a decimal number's text with a point and an exponent below nought.
Conditions: the text has the form, and at most 40 bytes. -/
namespace Go.Proofs.YtdkhedefcmjjgaaGreatDoor
open Go.RowKit Sp
set_option linter.unusedSimpArgs false
set_option linter.unusedVariables false
set_option maxRecDepth 100000 in
set_option maxHeartbeats 16000000 in
theorem readFloat_negD (s : ByteArray) (a m : Nat) (F : Form s a m) (hs : s.size ≤ 40) (ev : Int) (q : Nat) (hms2 : m < s.size) (hE0 : Expn s m q true) (hev0 : ev = -(exAt s q (s.size - q) : Int)) (ham0 : a < m) (he0 : -999 ≤ ev) (he1 : ev ≤ 999) (w : World) : Calls Tryz.prog 143 #[.string s] w fun e w' => e = .returned (.tuple #[.int .u64 (rfAt s m).man, .int .i64 (expOf s a m ev), .bool false, .bool (rfAt s m).tr, .bool false, .int .i64 s.size, .bool true]) ∧ Below w.heap.size w w' := by
  have HF := Lib.hid F
  have hE := Lib.hid hE0
  have hev1 := Lib.hid hev0
  have ham := Lib.hid ham0
  clear hE0 hev0 ham0
  have h1s : 1 ≤ s.size := by have := F.a1; have := F.am; have := F.ms; omega
  have hms := F.ms
  have h0d := F.dig 0 (by have := F.a1; have := F.am; omega) (by have := F.a1; omega)
  have hb0 : (s[0]'(by omega)).toNat = bt s 0 := bt_at (by omega)
  rw [← hb0] at h0d
  obtain ⟨h00, h01⟩ := h0d
  have c0 : (48 : Int) ≤ ((s[0]'(by omega)).toNat : Int) := by omega
  have c1 : ((s[0]'(by omega)).toNat : Int) ≤ 57 := by omega
  have HL := Lib.hid (fun c w => Tryz.internal_strconv_lower c w)
  have cb1 : (((s[0]'(by omega)).toNat : Int) == 43) = false := beq_eq_false_iff_ne.2 (by omega)
  have cb2 : (((s[0]'(by omega)).toNat : Int) == 45) = false := beq_eq_false_iff_ne.2 (by omega)
  have HM1 := Lib.hid (And.intro F.a1 F.am)
  clear hb0 h00 h01 F
  have hne : ¬ s = ByteArray.empty := fun e => by rw [e] at h1s; simp at h1s
  have HX : Hid (1 < s.size → (bits .or .u8 (bt s 1 : Int) 32 == 120) = false) := Lib.hid HF.out.second
  go_enter Tryz.func143, Tryz.ntmps143
  go_wp2_with fail
  go_step3
  go_upto_region 12 with fail
  go_cut [27, 54] (fun s27 s54 wx => s54 = .bool false ∧ w = wx)
  case first =>
    by_cases h2 : 2 < s.size
    · have h3 := HX.out (by omega)
      rw [← bt_at (by omega : 1 < s.size)] at h3
      go_wp2_with (first | (refine (HL.out _ _).mono ?_; rintro e w1 ⟨rfl, rfl⟩) | fail)
      all_goals
        go_meet
        exact ⟨rfl, rfl⟩
    · go_wp2_with fail
      go_meet
      exact ⟨rfl, rfl⟩
  case rest =>
    obtain ⟨rfl, rfl⟩ := hcut
    clear cb1 cb2 c0 c1 hne HX
    go_wp2_with fail
    go_step3
    go_wp2_with fail
    go_loopw [2, 5, 7, 9, 13, 14, 15, 16, 17] (fun tM tT tI tU tSD tSG tND tNM tDP wr => ∃ (j nd nm man : Nat) (dp : Int) (tr sd sg : Bool), tI = .int .i64 j ∧ tND = .int .i64 nd ∧ tNM = .int .i64 nm ∧ tM = .int .u64 man ∧ tDP = .int .i64 dp ∧ tT = .bool tr ∧ tSD = .bool sd ∧ tSG = .bool sg ∧ tU = .bool false ∧
      j ≤ m ∧ nd ≤ 40 ∧ nm ≤ 19 ∧ -40 ≤ dp ∧ dp ≤ 40 ∧ Hid (rfAt s j = ⟨nd, nm, dp, man, tr⟩ ∧ sd = decide (a < j) ∧ sg = decide (0 < j) ∧ Below w.heap.size w wr)) (fun tM tT tI tU tSD tSG tND tNM tDP _ => m - (intOf tI).toNat)
    case atStart => exact ⟨0, 0, 0, 0, 0, false, false, false, rfl, rfl, rfl, rfl, rfl, rfl, rfl, rfl, rfl, Nat.zero_le _, by omega, by omega, by omega, by omega, Lib.hid ⟨rfl, rfl, rfl, Below.refl _ _⟩⟩
    case round =>
      obtain ⟨j, nd, nm, man, dp, tr, sd, sg, rfl, rfl, rfl, rfl, rfl, rfl, rfl, rfl, rfl, hjm, hnd, hnm, hdp0, hdp1, hb⟩ := hrel
      have HOK := Lib.hid (rf_ok HF.out j hjm)
      have HB := Lib.hid hb.out.2.2.2
      rcases Nat.lt_or_ge j m with hj | hj
      · have hjs : j < s.size := by omega
        have HNX : Hid (RFOk (rfAt s (j + 1)) (j + 1)) := Lib.hid (rf_ok HF.out (j + 1) hj)
        have hstep : Hid (rfAt s (j + 1) = rfStep ⟨nd, nm, dp, man, tr⟩ (bt s j)) := Lib.hid (by rw [← hb.out.1]; rfl)
        by_cases hja : j = a
        · subst hja
          have hd := (HF.out.dot (by omega)).1
          have hN : Hid (rfAt s (j + 1) = ⟨nd, nm, nd, man, tr⟩) := Lib.hid (by rw [hstep.out, hd]; rfl)
          rw [← bt_at hjs] at hd
          have hc1 : (((s[j]).toNat : Int) == 95) = false := by rw [hd]; rfl
          have hc2 : (((s[j]).toNat : Int) == 46) = true := by rw [hd]; rfl
          have hsd : sd = false := by rw [hb.out.2.1, decide_eq_false_iff_not]; omega
          have hsg : Hid (sg = true) := Lib.hid (by rw [hb.out.2.2.1, decide_eq_true_eq]; have := HM1.out; omega)
          subst hsd
          clear hd
          go_wp2_with fail
          exact ⟨⟨j + 1, nd, nm, man, nd, tr, true, sg, iv (by omega), rfl, rfl, rfl, rfl, rfl, rfl, rfl, rfl, by omega, hnd, hnm, by omega, by omega, Lib.hid ⟨hN.out, by simp, by rw [hsg.out]; simp, HB.out⟩⟩, by simp [intOf]; omega⟩
        · have hd := HF.out.dig j hj hja
          have hbt := Lib.hid (bt_at hjs)
          rw [← bt_at hjs] at hd
          have hc1 : (((s[j]).toNat : Int) == 95) = false := beq_eq_false_iff_ne.2 (by omega)
          have hc2 : (((s[j]).toNat : Int) == 46) = false := beq_eq_false_iff_ne.2 (by omega)
          have hc3 : (48 : Int) ≤ ((s[j]).toNat : Int) := by omega
          have hc4 : ((s[j]).toNat : Int) ≤ 57 := by omega
          have hsd : Hid (sd = decide (a < j + 1)) := Lib.hid (by rw [hb.out.2.1]; congr 1; rw [eq_iff_iff]; omega)
          clear hd
          by_cases hzz : (s[j]).toNat = 48 ∧ nd = 0
          · obtain ⟨hz1, hz2⟩ := hzz
            have hN : Hid (rfAt s (j + 1) = ⟨nd, nm, dp - 1, man, tr⟩) := Lib.hid (by rw [hstep.out, ← hbt.out]; unfold rfStep; rw [if_neg (by omega), if_pos ⟨hz1, hz2⟩])
            have hc5 : (((s[j]).toNat : Int) == 48) = true := by rw [hz1]; rfl
            have hc6 : ((nd : Int) == 0) = true := by rw [hz2]; rfl
            have hbd : Hid (-40 ≤ dp - 1) := Lib.hid (by have := HNX.out.dp0; rw [hN.out] at this; simp only at this; omega)
            clear hz1 hz2
            go_wp2_with fail
            exact ⟨⟨j + 1, nd, nm, man, dp - 1, tr, sd, true, iv (by omega), rfl, rfl, rfl, rfl, rfl, rfl, rfl, rfl, by omega, hnd, hnm, hbd.out, by omega, Lib.hid ⟨hN.out, hsd.out, by simp, HB.out⟩⟩, by simp [intOf]; omega⟩
          · have hnd1 : nd + 1 ≤ 40 := by
              have := HNX.out.nd
              have e : (rfAt s (j + 1)).nd = nd + 1 := by
                rw [hstep.out, ← hbt.out]
                unfold rfStep
                rw [if_neg (by omega), if_neg hzz]
                split <;> rfl
              omega
            rcases Nat.lt_or_ge nm 19 with h19 | h19
            · have hN : Hid (rfAt s (j + 1) = ⟨nd + 1, nm + 1, dp, man * 10 + ((s[j]).toNat - 48), tr⟩) := Lib.hid (by
                rw [hstep.out, ← hbt.out]; unfold rfStep; rw [if_neg (by omega), if_neg hzz, if_pos h19])
              have hman : (man : Int) ≤ 999999999999999999 := by
                have h1 := HOK.out.man
                rw [hb.out.1] at h1
                simp only at h1
                have h2 : 10 ^ nm ≤ 10 ^ 18 := Nat.pow_le_pow_right (by decide) (by omega)
                omega
              have h19' : (nm : Int) < 19 := by omega
              by_cases h48 : (s[j]).toNat = 48
              · have hc5 : (((s[j]).toNat : Int) == 48) = true := by rw [h48]; rfl
                have hc6 : ((nd : Int) == 0) = false := beq_eq_false_iff_ne.2 (by omega)
                clear h48 hzz
                go_wp2_with fail
                exact ⟨⟨j + 1, nd + 1, nm + 1, man * 10 + ((s[j]).toNat - 48), dp, tr, sd, true, iv (by omega), iv (by omega), iv (by omega), iv (by omega), rfl, rfl, rfl, rfl, rfl, by omega, hnd1, by omega, by omega, by omega, Lib.hid ⟨hN.out, hsd.out, by simp, HB.out⟩⟩, by simp [intOf]; omega⟩
              · have hc5 : (((s[j]).toNat : Int) == 48) = false := beq_eq_false_iff_ne.2 (by omega)
                clear h48 hzz
                go_wp2_with fail
                exact ⟨⟨j + 1, nd + 1, nm + 1, man * 10 + ((s[j]).toNat - 48), dp, tr, sd, true, iv (by omega), iv (by omega), iv (by omega), iv (by omega), rfl, rfl, rfl, rfl, rfl, by omega, hnd1, by omega, by omega, by omega, Lib.hid ⟨hN.out, hsd.out, by simp, HB.out⟩⟩, by simp [intOf]; omega⟩
            · have hN48 : Hid ((s[j]).toNat = 48 → rfAt s (j + 1) = ⟨nd + 1, nm, dp, man, tr⟩) := Lib.hid (fun h => by
                rw [hstep.out, ← hbt.out]; unfold rfStep; rw [if_neg (by omega), if_neg hzz, if_neg (show ¬ nm < 19 by omega), h]; cases tr <;> rfl)
              have hN49 : Hid ((s[j]).toNat ≠ 48 → rfAt s (j + 1) = ⟨nd + 1, nm, dp, man, true⟩) := Lib.hid (fun h => by
                rw [hstep.out, ← hbt.out]; unfold rfStep; rw [if_neg (by omega), if_neg hzz, if_neg (show ¬ nm < 19 by omega)]; simp [h])
              have h19' : ¬ (nm : Int) < 19 := by omega
              by_cases h48 : (s[j]).toNat = 48
              · have hc5 : (((s[j]).toNat : Int) == 48) = true := by rw [h48]; rfl
                have hc7 : (((s[j]).toNat : Int) != 48) = false := by rw [h48]; rfl
                have hc6 : ((nd : Int) == 0) = false := beq_eq_false_iff_ne.2 (by omega)
                have hN := Lib.hid (hN48.out h48)
                clear h48 hzz
                go_wp2_with fail
                exact ⟨⟨j + 1, nd + 1, nm, man, dp, tr, sd, true, iv (by omega), iv (by omega), rfl, rfl, rfl, rfl, rfl, rfl, rfl, by omega, hnd1, hnm, by omega, by omega, Lib.hid ⟨hN.out, hsd.out, by simp, HB.out⟩⟩, by simp [intOf]; omega⟩
              · have hc5 : (((s[j]).toNat : Int) == 48) = false := beq_eq_false_iff_ne.2 (by omega)
                have hc7 : (((s[j]).toNat : Int) != 48) = true := by simp; omega
                have hN := Lib.hid (hN49.out h48)
                clear h48 hzz
                go_wp2_with fail
                exact ⟨⟨j + 1, nd + 1, nm, man, dp, true, sd, true, iv (by omega), iv (by omega), rfl, rfl, rfl, rfl, rfl, rfl, rfl, by omega, hnd1, hnm, by omega, by omega, Lib.hid ⟨hN.out, hsd.out, by simp, HB.out⟩⟩, by simp [intOf]; omega⟩
      · obtain rfl : m = j := by omega
        have hsg : sg = true := by rw [hb.out.2.2.1, decide_eq_true_eq]; have := HM1.out; omega
        subst hsg
        have hsm := hE.out.e
        rw [← bt_at hms2] at hsm
        have f1 : (((s[m]).toNat : Int) == 95) = false := by rw [hsm]; rfl
        have f2 : (((s[m]).toNat : Int) == 46) = false := by rw [hsm]; rfl
        have f3 : (48 : Int) ≤ ((s[m]).toNat : Int) := by rw [hsm]; decide
        have f4 : ¬ ((s[m]).toNat : Int) ≤ 57 := by rw [hsm]; decide
        have f5 : (bits .or .u8 ((s[m]).toNat : Int) 32 == 101) = true := by rw [hsm]; decide
        clear hsm
        obtain ⟨hq, hm45⟩ := hE.out.minus rfl
        have hev := hev1
        subst hq
        clear hev1
        have hqs := hE.out.qs
        have hp1 : m + 1 < s.size := by omega
        have hp1' : (m : Int) + 1 < (s.size : Int) := by omega
        have hp2 : m + 1 + 1 < s.size := by omega
        have hp2' : (m : Int) + 1 + 1 < (s.size : Int) := by omega
        rw [← bt_at hp1] at hm45
        have g1 : (((s[m + 1]).toNat : Int) == 43) = false := by rw [hm45]; rfl
        have g2 : (((s[m + 1]).toNat : Int) == 45) = true := by rw [hm45]; rfl
        have hd := hE.out.all (m + 2) (Nat.le_refl _) (by omega)
        rw [← bt_at hp2] at hd
        have g3 : (48 : Int) ≤ ((s[m + 1 + 1]).toNat : Int) := by omega
        have g4 : ((s[m + 1 + 1]).toNat : Int) ≤ 57 := by omega
        clear hd hm45
        have hsd : sd = true := by rw [hb.out.2.1, decide_eq_true_eq]; exact ham.out
        subst hsd
        go_wp2_with (first | (refine (HL.out _ _).mono ?_; rintro e w1 ⟨rfl, rfl⟩) | fail)
        go_loopw [7, 9, 20] (fun tI tU tE wr => ∃ i e : Nat, tI = .int .i64 i ∧ tE = .int .i64 e ∧ tU = .bool false ∧ (m + 2) ≤ i ∧ i ≤ s.size ∧ e ≤ 999 ∧ Hid (e = exAt s (m + 2) (i - (m + 2)) ∧ Below w.heap.size w wr)) (fun tI tU tE _ => s.size - (intOf tI).toNat)
        case atStart => exact ⟨(m + 2), 0, iv (by omega), rfl, rfl, Nat.le_refl _, by omega, by omega, Lib.hid ⟨by rw [Nat.sub_self]; rfl, HB.out⟩⟩
        case round =>
          clear HB
          obtain ⟨i, e, rfl, rfl, rfl, hqi, his, he9, hbe⟩ := hrel
          have HB := Lib.hid hbe.out.2
          rcases Nat.lt_or_ge i s.size with hi | hi
          · have hd := hE.out.all i hqi hi
            rw [← bt_at hi] at hd
            have hd1 : (48 : Int) ≤ ((s[i]).toNat : Int) := by omega
            have hd2 : ((s[i]).toNat : Int) ≤ 57 := by omega
            have hd3 : (((s[i]).toNat : Int) == 95) = false := beq_eq_false_iff_ne.2 (by omega)
            have hN : Hid (e * 10 + ((s[i]).toNat - 48) = exAt s (m + 2) (i + 1 - (m + 2))) := Lib.hid (by
              rw [show i + 1 - (m + 2) = (i - (m + 2)) + 1 by omega]
              unfold exAt
              rw [← hbe.out.1, show (m + 2) + (i - (m + 2)) = i by omega, bt_at hi])
            have h999 : Hid (e * 10 + ((s[i]).toNat - 48) ≤ 999) := Lib.hid (by rw [hN.out]; exact ex_999 hE.out _ (by omega))
            clear hd
            go_wp2_with fail
            exact ⟨⟨i + 1, e * 10 + ((s[i]).toNat - 48), iv (by omega), iv (by omega), rfl, by omega, by omega, h999.out, Lib.hid ⟨hN.out, HB.out⟩⟩, by simp [intOf]; omega⟩
          · have hEV : Hid (ev = -(e : Int)) := Lib.hid (by rw [hev.out, hbe.out.1, show i - (m + 2) = s.size - (m + 2) by omega])
            by_cases hm0 : man = 0
            · have hmb : ((man : Int) != 0) = false := by rw [hm0]; rfl
              have hEX : Hid (expOf s a m ev = 0) := Lib.hid (by unfold expOf; rw [hb.out.1]; simp only; rw [if_pos hm0])
              clear hm0
              go_wp2_with fail
              rw [Exit.noGoto_ret]
              change bodyPost Tryz.prog Tryz.f143 _ Exit.ret _ _
              go_returns
              exact ⟨ret_rf (by rw [hb.out.1]) hEX.out.symm (by rw [hb.out.1]) (by omega), HB.out⟩
            · have hmb : ((man : Int) != 0) = true := by simp; omega
              have hEX : Hid (expOf s a m ev = dp + ev - nm) := Lib.hid (by unfold expOf; rw [hb.out.1]; simp only; rw [if_neg hm0, if_pos ham.out])
              clear hm0
              go_wp2_with fail
              rw [Exit.noGoto_ret]
              change bodyPost Tryz.prog Tryz.f143 _ Exit.ret _ _
              go_returns
              exact ⟨ret_rf (by rw [hb.out.1]) (by rw [hEX.out]; have := hEV.out; omega) (by rw [hb.out.1]) (by omega), HB.out⟩
end Go.Proofs.YtdkhedefcmjjgaaGreatDoor
