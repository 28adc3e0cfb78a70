/- Words for decimal.set's walk.
Conditions: none. -/
import Derived.Test.YtdkhedefcmjjgaaGreatDoorMRf0
import Derived.Deep.RegionWith
import Derived.Handy
namespace Go.Proofs.YtdkhedefcmjjgaaGreatDoor
open Go.RowKit Sp
set_option linter.unusedSimpArgs false
set_option linter.unusedVariables false
theorem Ds.set_ng (S : Ds) : S.cells.setIfInBounds 802 (.bool false) = S.cells := by
  have hs := S.size
  refine Ds.ext_cells (by simp [hs]) (Ds.size _) (fun j hj => ?_) ?_ ?_ ?_ ?_
  · rw [Array.getElem?_setIfInBounds_ne (by omega)]
  · rw [Array.getElem?_setIfInBounds_ne (by omega)]
  · rw [Array.getElem?_setIfInBounds_ne (by omega)]
  · rw [Ds.c802]; simp [hs]
  · rw [Array.getElem?_setIfInBounds_ne (by omega)]
theorem DecAt.setNg {w : World} {D : Nat} {S : Ds} (h : DecAt w D S) : DecAt (w.setCell ⟨D, 802, none⟩ (.bool false)) D S := by
  unfold DecAt
  rw [← S.set_ng]
  exact set_heap h _ _
theorem DecAt.setDp' {w : World} {D : Nat} {S : Ds} {x y : Int} (h : DecAt w D S) (e : x = y) : DecAt (w.setCell ⟨D, 801, none⟩ (.int .i64 x)) D { S with dp := y } := by subst e; exact h.setDp x
theorem DecAt.setNd' {w : World} {D : Nat} {S : Ds} {x : Int} {y : Nat} (h : DecAt w D S) (e : x = y) : DecAt (w.setCell ⟨D, 800, none⟩ (.int .i64 x)) D { S with nd := y } := by subst e; exact h.setNd y
/-- What set leaves. -/
def setS (s : ByteArray) (a m : Nat) (ev : Int) : Ds := { dsAt s m with dp := (if a < m then (dsAt s m).dp else (dsAt s m).nd) + ev }
def dpS (a m nd : Nat) (dp : Int) : Int := if a < m then dp else nd
end Go.Proofs.YtdkhedefcmjjgaaGreatDoor
/- decimal.set, walked, at a decimal number's text without an exponent.
Conditions: the text has the form, and at most 40 bytes; the decimal is nought. -/
namespace Go.Proofs.YtdkhedefcmjjgaaGreatDoor
open Go.RowKit Sp
set_option linter.unusedSimpArgs false
set_option linter.unusedVariables false
set_option maxRecDepth 100000 in
set_option maxHeartbeats 16000000 in
theorem set_none (s : ByteArray) (a m : Nat) (F : Form s a m) (hs : s.size ≤ 40) (ev : Int) (hT : m = s.size ∧ ev = 0) (he0 : -999 ≤ ev) (he1 : ev ≤ 999) (w : World) (D : Nat) (h : DecAt w D ⟨fun _ => 0, 0, 0, false⟩) :
    Calls Tryz.prog 149 #[.pointer (some ⟨D, 0, none⟩), .string s] w fun e w' => e = .returned (.bool true) ∧ DecAt w' D (setS s a m ev) ∧ w.grownBy w' (some D) := by
  have HF := Lib.hid F
  have hsz := Lib.hid hT
  clear hT
  have h1s : 1 ≤ s.size := by have := F.a1; have := F.am; have := F.ms; omega
  have hms := F.ms
  have h0d := F.dig 0 (by have := F.a1; have := F.am; omega) (by have := F.a1; omega)
  have hb0 : (s[0]'(by omega)).toNat = bt s 0 := bt_at (by omega)
  rw [← hb0] at h0d
  obtain ⟨h00, h01⟩ := h0d
  have HL := Lib.hid (fun c w => Tryz.internal_strconv_lower c w)
  have cb1 : (((s[0]'(by omega)).toNat : Int) == 43) = false := beq_eq_false_iff_ne.2 (by omega)
  have cb2 : (((s[0]'(by omega)).toNat : Int) == 45) = false := beq_eq_false_iff_ne.2 (by omega)
  have HM1 := Lib.hid (And.intro F.a1 F.am)
  clear hb0 h00 h01 F
  have hne : ¬ s = ByteArray.empty := fun e => by rw [e] at h1s; simp at h1s
  have q2 : w.cell? ⟨D, 802, none⟩ = some (.bool false) := h.ng
  have q3 : w.cell? ⟨D, 803, none⟩ = some (.bool false) := h.tr
  have g2 := h.free 802
  have g3 := h.free 803
  have HD0 : Hid (DecAt ((w.setCell ⟨D, 802, none⟩ (.bool false)).setCell ⟨D, 803, none⟩ (.bool false)) D ⟨fun _ => 0, 0, 0, false⟩ ∧ w.grownBy ((w.setCell ⟨D, 802, none⟩ (.bool false)).setCell ⟨D, 803, none⟩ (.bool false)) (some D)) := Lib.hid ⟨h.setNg.setTr false, gr_put (gr_set _ _) _ _⟩
  clear h
  go_enter Tryz.func149, Tryz.ntmps149
  go_wp2_with fail
  go_loopw [5, 6, 7] (fun tI tSD tSG wr => ∃ (j : Nat) (sd sg : Bool), tI = .int .i64 j ∧ tSD = .bool sd ∧ tSG = .bool sg ∧ j ≤ m ∧ Hid (DecAt wr D (dsAt s j) ∧ sd = decide (a < j) ∧ sg = decide (0 < j) ∧ w.grownBy wr (some D))) (fun tI tSD tSG _ => m - (intOf tI).toNat)
  case atStart => exact ⟨0, false, false, rfl, rfl, rfl, Nat.zero_le _, Lib.hid ⟨HD0.out.1, rfl, rfl, HD0.out.2⟩⟩
  case round =>
    clear HD0 q2 q3 g2 g3 cb1 cb2 hne
    obtain ⟨j, sd, sg, rfl, rfl, rfl, hjm, hb⟩ := hrel
    have hOK := ds_ok HF.out j hjm
    obtain ⟨f, nd, dp, tr, hS⟩ : ∃ f nd dp tr, dsAt s j = ⟨f, nd, dp, tr⟩ := ⟨_, _, _, _, rfl⟩
    rw [hS] at hOK hb
    have HS := Lib.hid hS
    have hnd : nd ≤ 40 := by have := hOK.nd; simp only at this; omega
    have hdp0 : -40 ≤ dp := by have := hOK.dp0; simp only at this; omega
    have hdp1 : dp ≤ 40 := by have := hOK.dp1; simp only at this; omega
    have HDA := Lib.hid hb.out.1
    have HB := Lib.hid hb.out.2.2.2
    have k8 : wr.cell? ⟨D, 800, none⟩ = some (.int .i64 nd) := HDA.out.nd
    have k9 : wr.cell? ⟨D, 801, none⟩ = some (.int .i64 dp) := HDA.out.dp
    have f8 := HDA.out.free 800
    have f9 := HDA.out.free 801
    clear hS hOK
    rcases Nat.lt_or_ge j m with hj | hj
    · have hjs : j < s.size := by omega
      have hstep : Hid (dsAt s (j + 1) = dsStep ⟨f, nd, dp, tr⟩ (bt s j)) := Lib.hid (by rw [← HS.out]; rfl)
      by_cases hja : j = a
      · subst hja
        have hd := (HF.out.dot (by omega)).1
        have hN : Hid (dsAt s (j + 1) = ⟨f, nd, nd, tr⟩) := Lib.hid (by rw [hstep.out, hd]; rfl)
        rw [← bt_at hjs] at hd
        have hc1 : (((s[j]).toNat : Int) == 95) = false := by rw [hd]; rfl
        have hc2 : (((s[j]).toNat : Int) == 46) = true := by rw [hd]; rfl
        have hsd : sd = false := by rw [hb.out.2.1, decide_eq_false_iff_not]; omega
        have hsg : Hid (sg = true) := Lib.hid (by rw [hb.out.2.2.1, decide_eq_true_eq]; have := HM1.out; omega)
        subst hsd
        clear hd
        go_wp2_with fail
        exact ⟨⟨j + 1, true, sg, iv (by omega), rfl, rfl, by omega, Lib.hid ⟨by rw [hN.out]; exact HDA.out.setDp nd, by simp, by rw [hsg.out]; simp, gr_put HB.out _ _⟩⟩, by simp [intOf]; omega⟩
      · have hd := HF.out.dig j hj hja
        have hbt := Lib.hid (bt_at hjs)
        rw [← bt_at hjs] at hd
        have hc1 : (((s[j]).toNat : Int) == 95) = false := beq_eq_false_iff_ne.2 (by omega)
        have hc2 : (((s[j]).toNat : Int) == 46) = false := beq_eq_false_iff_ne.2 (by omega)
        have hc3 : (48 : Int) ≤ ((s[j]).toNat : Int) := by omega
        have hc4 : ((s[j]).toNat : Int) ≤ 57 := by omega
        have hsd : Hid (sd = decide (a < j + 1)) := Lib.hid (by rw [hb.out.2.1]; congr 1; rw [eq_iff_iff]; omega)
        clear hd
        by_cases hzz : (s[j]).toNat = 48 ∧ nd = 0
        · obtain ⟨hz1, hz2⟩ := hzz
          have hN : Hid (dsAt s (j + 1) = ⟨f, nd, dp - 1, tr⟩) := Lib.hid (by rw [hstep.out, ← hbt.out]; unfold dsStep; rw [if_neg (by omega), if_pos ⟨hz1, hz2⟩])
          have hc5 : (((s[j]).toNat : Int) == 48) = true := by rw [hz1]; rfl
          have hc6 : ((nd : Int) == 0) = true := by rw [hz2]; rfl
          clear hz1 hz2
          go_wp2_with fail
          exact ⟨⟨j + 1, sd, true, iv (by omega), rfl, rfl, by omega, Lib.hid ⟨by rw [hN.out]; exact HDA.out.setDp' rfl, hsd.out, by simp, gr_put HB.out _ _⟩⟩, by simp [intOf]; omega⟩
        · have hN : Hid (dsAt s (j + 1) = ⟨upd f nd (s[j]).toNat, nd + 1, dp, tr⟩) := Lib.hid (by rw [hstep.out, ← hbt.out]; unfold dsStep; rw [if_neg (by omega), if_neg hzz])
          have kd : wr.cell? ⟨D, nd, none⟩ = some (.int .u8 (f nd)) := HDA.out.dig (i := nd) (by omega)
          have fd := HDA.out.free nd
          have HP : Hid (DecAt ((wr.setCell ⟨D, nd, none⟩ (.int .u8 (s[j]).toNat)).setCell ⟨D, 800, none⟩ (.int .i64 ((nd : Int) + 1))) D ⟨upd f nd (s[j]).toNat, nd + 1, dp, tr⟩) := Lib.hid ((HDA.out.setDig (i := nd) (by omega) (s[j]).toNat).setNd' (by omega))
          have hne8 : ¬ nd = 800 := by omega
          have hlt8 : (nd : Int) < 800 := by omega
          by_cases h48 : (s[j]).toNat = 48
          · have hc5 : (((s[j]).toNat : Int) == 48) = true := by rw [h48]; rfl
            have hc6 : ((nd : Int) == 0) = false := beq_eq_false_iff_ne.2 (by omega)
            clear h48 hzz
            go_wp2_with fail
            go_region
            go_wp2_with fail
            exact ⟨⟨j + 1, sd, true, iv (by omega), rfl, rfl, by omega, Lib.hid ⟨by rw [hN.out]; exact HP.out, hsd.out, by simp, gr_put (gr_drew (gr_put HB.out _ _)) _ _⟩⟩, by simp [intOf]; omega⟩
          · have hc5 : (((s[j]).toNat : Int) == 48) = false := beq_eq_false_iff_ne.2 (by omega)
            clear h48 hzz
            go_wp2_with fail
            go_region
            go_wp2_with fail
            exact ⟨⟨j + 1, sd, true, iv (by omega), rfl, rfl, by omega, Lib.hid ⟨by rw [hN.out]; exact HP.out, hsd.out, by simp, gr_put (gr_drew (gr_put HB.out _ _)) _ _⟩⟩, by simp [intOf]; omega⟩
    · obtain rfl : m = j := by omega
      have hsg : sg = true := by rw [hb.out.2.2.1, decide_eq_true_eq]; have := HM1.out; omega
      subst hsg
      have hOut : ∀ (W : World) (x : Int), x = dpS a m nd dp + ev → DecAt W D ⟨f, nd, x, tr⟩ → DecAt W D (setS s a m ev) := fun W x hx hd => by
        have e : setS s a m ev = ⟨f, nd, x, tr⟩ := by unfold setS; rw [HS.out, hx]; rfl
        rw [e]; exact hd
      have HOUT := Lib.hid hOut
      clear hOut
      have hnl : ¬ m < s.size := by have := hsz.out.1; omega
      by_cases ham0 : a < m
      · have ham := Lib.hid ham0
        have hsd : sd = true := by rw [hb.out.2.1, decide_eq_true_eq]; exact ham.out
        subst hsd
        have hdpS : Hid (dpS a m nd dp = dp) := Lib.hid (if_pos ham.out)
        go_wp2_with fail
        go_returns
        exact ⟨rfl, HOUT.out _ _ (by have h1 := hdpS.out; have h2 := hsz.out.2; omega) HDA.out, HB.out⟩
      · have ham := Lib.hid ham0
        have hsd : sd = false := by rw [hb.out.2.1, decide_eq_false_iff_not]; exact ham.out
        subst hsd
        have hdpS : Hid (dpS a m nd dp = nd) := Lib.hid (if_neg ham.out)
        go_wp2_with fail
        go_returns
        exact ⟨rfl, HOUT.out _ _ (by have h1 := hdpS.out; have h2 := hsz.out.2; omega) (HDA.out.setDp nd), (gr_put HB.out _ _)⟩
end Go.Proofs.YtdkhedefcmjjgaaGreatDoor
/- decimal.set, walked, at a decimal number's text with a point and an exponent.
Conditions: the text has the form, and at most 40 bytes; the decimal is nought. -/
namespace Go.Proofs.YtdkhedefcmjjgaaGreatDoor
open Go.RowKit Sp
set_option linter.unusedSimpArgs false
set_option linter.unusedVariables false
set_option maxRecDepth 100000 in
set_option maxHeartbeats 16000000 in
theorem set_posD (s : ByteArray) (a m : Nat) (F : Form s a m) (hs : s.size ≤ 40) (ev : Int) (q : Nat) (hms2 : m < s.size) (hE0 : Expn s m q false) (hev0 : ev = (exAt s q (s.size - q) : Int)) (ham0 : a < m) (he0 : -999 ≤ ev) (he1 : ev ≤ 999) (w : World) (D : Nat) (h : DecAt w D ⟨fun _ => 0, 0, 0, false⟩) :
    Calls Tryz.prog 149 #[.pointer (some ⟨D, 0, none⟩), .string s] w fun e w' => e = .returned (.bool true) ∧ DecAt w' D (setS s a m ev) ∧ w.grownBy w' (some D) := by
  have HF := Lib.hid F
  have hE := Lib.hid hE0
  have hev1 := Lib.hid hev0
  have ham := Lib.hid ham0
  clear hE0 hev0 ham0
  have h1s : 1 ≤ s.size := by have := F.a1; have := F.am; have := F.ms; omega
  have hms := F.ms
  have h0d := F.dig 0 (by have := F.a1; have := F.am; omega) (by have := F.a1; omega)
  have hb0 : (s[0]'(by omega)).toNat = bt s 0 := bt_at (by omega)
  rw [← hb0] at h0d
  obtain ⟨h00, h01⟩ := h0d
  have HL := Lib.hid (fun c w => Tryz.internal_strconv_lower c w)
  have cb1 : (((s[0]'(by omega)).toNat : Int) == 43) = false := beq_eq_false_iff_ne.2 (by omega)
  have cb2 : (((s[0]'(by omega)).toNat : Int) == 45) = false := beq_eq_false_iff_ne.2 (by omega)
  have HM1 := Lib.hid (And.intro F.a1 F.am)
  clear hb0 h00 h01 F
  have hne : ¬ s = ByteArray.empty := fun e => by rw [e] at h1s; simp at h1s
  have q2 : w.cell? ⟨D, 802, none⟩ = some (.bool false) := h.ng
  have q3 : w.cell? ⟨D, 803, none⟩ = some (.bool false) := h.tr
  have g2 := h.free 802
  have g3 := h.free 803
  have HD0 : Hid (DecAt ((w.setCell ⟨D, 802, none⟩ (.bool false)).setCell ⟨D, 803, none⟩ (.bool false)) D ⟨fun _ => 0, 0, 0, false⟩ ∧ w.grownBy ((w.setCell ⟨D, 802, none⟩ (.bool false)).setCell ⟨D, 803, none⟩ (.bool false)) (some D)) := Lib.hid ⟨h.setNg.setTr false, gr_put (gr_set _ _) _ _⟩
  clear h
  go_enter Tryz.func149, Tryz.ntmps149
  go_wp2_with fail
  go_loopw [5, 6, 7] (fun tI tSD tSG wr => ∃ (j : Nat) (sd sg : Bool), tI = .int .i64 j ∧ tSD = .bool sd ∧ tSG = .bool sg ∧ j ≤ m ∧ Hid (DecAt wr D (dsAt s j) ∧ sd = decide (a < j) ∧ sg = decide (0 < j) ∧ w.grownBy wr (some D))) (fun tI tSD tSG _ => m - (intOf tI).toNat)
  case atStart => exact ⟨0, false, false, rfl, rfl, rfl, Nat.zero_le _, Lib.hid ⟨HD0.out.1, rfl, rfl, HD0.out.2⟩⟩
  case round =>
    clear HD0 q2 q3 g2 g3 cb1 cb2 hne
    obtain ⟨j, sd, sg, rfl, rfl, rfl, hjm, hb⟩ := hrel
    have hOK := ds_ok HF.out j hjm
    obtain ⟨f, nd, dp, tr, hS⟩ : ∃ f nd dp tr, dsAt s j = ⟨f, nd, dp, tr⟩ := ⟨_, _, _, _, rfl⟩
    rw [hS] at hOK hb
    have HS := Lib.hid hS
    have hnd : nd ≤ 40 := by have := hOK.nd; simp only at this; omega
    have hdp0 : -40 ≤ dp := by have := hOK.dp0; simp only at this; omega
    have hdp1 : dp ≤ 40 := by have := hOK.dp1; simp only at this; omega
    have HDA := Lib.hid hb.out.1
    have HB := Lib.hid hb.out.2.2.2
    have k8 : wr.cell? ⟨D, 800, none⟩ = some (.int .i64 nd) := HDA.out.nd
    have k9 : wr.cell? ⟨D, 801, none⟩ = some (.int .i64 dp) := HDA.out.dp
    have f8 := HDA.out.free 800
    have f9 := HDA.out.free 801
    clear hS hOK
    rcases Nat.lt_or_ge j m with hj | hj
    · have hjs : j < s.size := by omega
      have hstep : Hid (dsAt s (j + 1) = dsStep ⟨f, nd, dp, tr⟩ (bt s j)) := Lib.hid (by rw [← HS.out]; rfl)
      by_cases hja : j = a
      · subst hja
        have hd := (HF.out.dot (by omega)).1
        have hN : Hid (dsAt s (j + 1) = ⟨f, nd, nd, tr⟩) := Lib.hid (by rw [hstep.out, hd]; rfl)
        rw [← bt_at hjs] at hd
        have hc1 : (((s[j]).toNat : Int) == 95) = false := by rw [hd]; rfl
        have hc2 : (((s[j]).toNat : Int) == 46) = true := by rw [hd]; rfl
        have hsd : sd = false := by rw [hb.out.2.1, decide_eq_false_iff_not]; omega
        have hsg : Hid (sg = true) := Lib.hid (by rw [hb.out.2.2.1, decide_eq_true_eq]; have := HM1.out; omega)
        subst hsd
        clear hd
        go_wp2_with fail
        exact ⟨⟨j + 1, true, sg, iv (by omega), rfl, rfl, by omega, Lib.hid ⟨by rw [hN.out]; exact HDA.out.setDp nd, by simp, by rw [hsg.out]; simp, gr_put HB.out _ _⟩⟩, by simp [intOf]; omega⟩
      · have hd := HF.out.dig j hj hja
        have hbt := Lib.hid (bt_at hjs)
        rw [← bt_at hjs] at hd
        have hc1 : (((s[j]).toNat : Int) == 95) = false := beq_eq_false_iff_ne.2 (by omega)
        have hc2 : (((s[j]).toNat : Int) == 46) = false := beq_eq_false_iff_ne.2 (by omega)
        have hc3 : (48 : Int) ≤ ((s[j]).toNat : Int) := by omega
        have hc4 : ((s[j]).toNat : Int) ≤ 57 := by omega
        have hsd : Hid (sd = decide (a < j + 1)) := Lib.hid (by rw [hb.out.2.1]; congr 1; rw [eq_iff_iff]; omega)
        clear hd
        by_cases hzz : (s[j]).toNat = 48 ∧ nd = 0
        · obtain ⟨hz1, hz2⟩ := hzz
          have hN : Hid (dsAt s (j + 1) = ⟨f, nd, dp - 1, tr⟩) := Lib.hid (by rw [hstep.out, ← hbt.out]; unfold dsStep; rw [if_neg (by omega), if_pos ⟨hz1, hz2⟩])
          have hc5 : (((s[j]).toNat : Int) == 48) = true := by rw [hz1]; rfl
          have hc6 : ((nd : Int) == 0) = true := by rw [hz2]; rfl
          clear hz1 hz2
          go_wp2_with fail
          exact ⟨⟨j + 1, sd, true, iv (by omega), rfl, rfl, by omega, Lib.hid ⟨by rw [hN.out]; exact HDA.out.setDp' rfl, hsd.out, by simp, gr_put HB.out _ _⟩⟩, by simp [intOf]; omega⟩
        · have hN : Hid (dsAt s (j + 1) = ⟨upd f nd (s[j]).toNat, nd + 1, dp, tr⟩) := Lib.hid (by rw [hstep.out, ← hbt.out]; unfold dsStep; rw [if_neg (by omega), if_neg hzz])
          have kd : wr.cell? ⟨D, nd, none⟩ = some (.int .u8 (f nd)) := HDA.out.dig (i := nd) (by omega)
          have fd := HDA.out.free nd
          have HP : Hid (DecAt ((wr.setCell ⟨D, nd, none⟩ (.int .u8 (s[j]).toNat)).setCell ⟨D, 800, none⟩ (.int .i64 ((nd : Int) + 1))) D ⟨upd f nd (s[j]).toNat, nd + 1, dp, tr⟩) := Lib.hid ((HDA.out.setDig (i := nd) (by omega) (s[j]).toNat).setNd' (by omega))
          have hne8 : ¬ nd = 800 := by omega
          have hlt8 : (nd : Int) < 800 := by omega
          by_cases h48 : (s[j]).toNat = 48
          · have hc5 : (((s[j]).toNat : Int) == 48) = true := by rw [h48]; rfl
            have hc6 : ((nd : Int) == 0) = false := beq_eq_false_iff_ne.2 (by omega)
            clear h48 hzz
            go_wp2_with fail
            go_region
            go_wp2_with fail
            exact ⟨⟨j + 1, sd, true, iv (by omega), rfl, rfl, by omega, Lib.hid ⟨by rw [hN.out]; exact HP.out, hsd.out, by simp, gr_put (gr_drew (gr_put HB.out _ _)) _ _⟩⟩, by simp [intOf]; omega⟩
          · have hc5 : (((s[j]).toNat : Int) == 48) = false := beq_eq_false_iff_ne.2 (by omega)
            clear h48 hzz
            go_wp2_with fail
            go_region
            go_wp2_with fail
            exact ⟨⟨j + 1, sd, true, iv (by omega), rfl, rfl, by omega, Lib.hid ⟨by rw [hN.out]; exact HP.out, hsd.out, by simp, gr_put (gr_drew (gr_put HB.out _ _)) _ _⟩⟩, by simp [intOf]; omega⟩
    · obtain rfl : m = j := by omega
      have hsg : sg = true := by rw [hb.out.2.2.1, decide_eq_true_eq]; have := HM1.out; omega
      subst hsg
      have hOut : ∀ (W : World) (x : Int), x = dpS a m nd dp + ev → DecAt W D ⟨f, nd, x, tr⟩ → DecAt W D (setS s a m ev) := fun W x hx hd => by
        have e : setS s a m ev = ⟨f, nd, x, tr⟩ := by unfold setS; rw [HS.out, hx]; rfl
        rw [e]; exact hd
      have HOUT := Lib.hid hOut
      clear hOut
      have hsm := hE.out.e
      rw [← bt_at hms2] at hsm
      have f1 : (((s[m]).toNat : Int) == 95) = false := by rw [hsm]; rfl
      have f2 : (((s[m]).toNat : Int) == 46) = false := by rw [hsm]; rfl
      have f3 : (48 : Int) ≤ ((s[m]).toNat : Int) := by rw [hsm]; decide
      have f4 : ¬ ((s[m]).toNat : Int) ≤ 57 := by rw [hsm]; decide
      have f5 : (bits .or .u8 ((s[m]).toNat : Int) 32 == 101) = true := by rw [hsm]; decide
      clear hsm
      have hq := hE.out.pos rfl
      subst hq
      have hev := hev1
      clear hev1
      have hqs := hE.out.qs
      have hp1 : m + 1 < s.size := by omega
      have hp1' : (m : Int) + 1 < (s.size : Int) := by omega
      have hd := hE.out.all (m + 1) (Nat.le_refl _) (by omega)
      rw [← bt_at hp1] at hd
      have g1 : (((s[m + 1]).toNat : Int) == 43) = false := beq_eq_false_iff_ne.2 (by omega)
      have g2 : (((s[m + 1]).toNat : Int) == 45) = false := beq_eq_false_iff_ne.2 (by omega)
      have g3 : (48 : Int) ≤ ((s[m + 1]).toNat : Int) := by omega
      have g4 : ((s[m + 1]).toNat : Int) ≤ 57 := by omega
      clear hd
      have hsd : sd = true := by rw [hb.out.2.1, decide_eq_true_eq]; exact ham.out
      subst hsd
      have hdpS : Hid (dpS a m nd dp = dp) := Lib.hid (if_pos ham.out)
      go_wp2_with (first | (refine (HL.out _ _).mono ?_; rintro e w1 ⟨rfl, rfl⟩) | fail)
      go_loopw [5, 9] (fun tI tE wr => ∃ i e : Nat, tI = .int .i64 i ∧ tE = .int .i64 e ∧ (m + 1) ≤ i ∧ i ≤ s.size ∧ e ≤ 999 ∧ Hid (e = exAt s (m + 1) (i - (m + 1)) ∧ DecAt wr D ⟨f, nd, dp, tr⟩ ∧ w.grownBy wr (some D))) (fun tI tE _ => s.size - (intOf tI).toNat)
      case atStart => exact ⟨(m + 1), 0, iv (by omega), rfl, Nat.le_refl _, by omega, by omega, Lib.hid ⟨by rw [Nat.sub_self]; rfl, HDA.out, HB.out⟩⟩
      case round =>
        clear HB HDA k8 k9 f8 f9
        obtain ⟨i, e, rfl, rfl, hqi, his, he9, hbe⟩ := hrel
        rcases Nat.lt_or_ge i s.size with hi | hi
        · have hd := hE.out.all i hqi hi
          rw [← bt_at hi] at hd
          have hd1 : (48 : Int) ≤ ((s[i]).toNat : Int) := by omega
          have hd2 : ((s[i]).toNat : Int) ≤ 57 := by omega
          have hd3 : (((s[i]).toNat : Int) == 95) = false := beq_eq_false_iff_ne.2 (by omega)
          have hN : Hid (e * 10 + ((s[i]).toNat - 48) = exAt s (m + 1) (i + 1 - (m + 1))) := Lib.hid (by
            rw [show i + 1 - (m + 1) = (i - (m + 1)) + 1 by omega]
            unfold exAt
            rw [← hbe.out.1, show (m + 1) + (i - (m + 1)) = i by omega, bt_at hi])
          have h999 : Hid (e * 10 + ((s[i]).toNat - 48) ≤ 999) := Lib.hid (by rw [hN.out]; exact ex_999 hE.out _ (by omega))
          clear hd
          go_wp2_with fail
          exact ⟨⟨i + 1, e * 10 + ((s[i]).toNat - 48), iv (by omega), iv (by omega), by omega, by omega, h999.out, Lib.hid ⟨hN.out, hbe.out.2⟩⟩, by simp [intOf]; omega⟩
        · have hEV : Hid (ev = (e : Int)) := Lib.hid (by rw [hev.out, hbe.out.1, show i - (m + 1) = s.size - (m + 1) by omega])
          have k9 : wr.cell? ⟨D, 801, none⟩ = some (.int .i64 dp) := hbe.out.2.1.dp
          have f9 := hbe.out.2.1.free 801
          go_wp2_with fail
          try
            go_region
            go_wp2_with fail
          go_returns
          exact ⟨rfl, HOUT.out _ _ (by have h1 := hdpS.out; have h2 := hEV.out; omega) (hbe.out.2.1.setDp' rfl), by first | exact gr_put hbe.out.2.2 _ _ | exact gr_drew (gr_put hbe.out.2.2 _ _)⟩
end Go.Proofs.YtdkhedefcmjjgaaGreatDoor
