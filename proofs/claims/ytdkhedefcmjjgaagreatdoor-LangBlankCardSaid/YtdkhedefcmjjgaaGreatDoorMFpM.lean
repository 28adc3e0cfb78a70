/- floatBits, walked: of a decimal that is not nought.
Conditions: its point lies from -330 to 310. -/
import Derived.Test.YtdkhedefcmjjgaaGreatDoorMFpK
import Derived.WalkMore
import Derived.Deep.RegionWith
import Derived.ScopeJumps
namespace Go.Proofs.YtdkhedefcmjjgaaGreatDoor
open Go.RowKit Sp
set_option linter.unusedSimpArgs false
set_option linter.unusedVariables false
def asm64 (m x : Int) : Int := bits .or .u64 (bits .and .u64 m 4503599627370495) (IntKind.u64.wrap (IntKind.u64.wrap (bits .and .i64 x 2047) * 4503599627370496))
/-- What is told of the exponent E and the rounded number v. -/
def fb64 (E v : Int) : Int × Bool :=
  if 2047 ≤ E + 1023 then (asm64 0 2047, true)
  else if v = 9007199254740992 then (if 2047 ≤ E + 1 + 1023 then (asm64 0 2047, true) else if (bits .and .u64 (v / 2) 4503599627370496 == 0) = true then (asm64 (v / 2) 0, false) else (asm64 (v / 2) (E + 1 + 1023), false))
  else if (bits .and .u64 v 4503599627370496 == 0) = true then (asm64 v 0, false) else (asm64 v (E + 1023), false)
theorem fb64_inf {E v : Int} (h : 2047 ≤ E + 1023) : fb64 E v = (asm64 0 2047, true) := by unfold fb64; rw [if_pos h]
theorem fb64_inf2 {E v : Int} (h : ¬ 2047 ≤ E + 1023) (hv : v = 9007199254740992) (h2 : 2047 ≤ E + 1 + 1023) : fb64 E v = (asm64 0 2047, true) := by unfold fb64; rw [if_neg h, if_pos hv, if_pos h2]
theorem fb64_sub2 {E v : Int} (h : ¬ 2047 ≤ E + 1023) (hv : v = 9007199254740992) (h2 : ¬ 2047 ≤ E + 1 + 1023) (h3 : (bits .and .u64 (v / 2) 4503599627370496 == 0) = true) : fb64 E v = (asm64 (v / 2) 0, false) := by unfold fb64; rw [if_neg h, if_pos hv, if_neg h2, if_pos h3]
theorem fb64_nor2 {E v : Int} (h : ¬ 2047 ≤ E + 1023) (hv : v = 9007199254740992) (h2 : ¬ 2047 ≤ E + 1 + 1023) (h3 : (bits .and .u64 (v / 2) 4503599627370496 == 0) = false) : fb64 E v = (asm64 (v / 2) (E + 1 + 1023), false) := by unfold fb64; rw [if_neg h, if_pos hv, if_neg h2, if_neg (by rw [h3]; decide)]
theorem fb64_sub {E v : Int} (h : ¬ 2047 ≤ E + 1023) (hv : ¬ v = 9007199254740992) (h3 : (bits .and .u64 v 4503599627370496 == 0) = true) : fb64 E v = (asm64 v 0, false) := by unfold fb64; rw [if_neg h, if_neg hv, if_pos h3]
theorem fb64_nor {E v : Int} (h : ¬ 2047 ≤ E + 1023) (hv : ¬ v = 9007199254740992) (h3 : (bits .and .u64 v 4503599627370496 == 0) = false) : fb64 E v = (asm64 v (E + 1023), false) := by unfold fb64; rw [if_neg h, if_neg hv, if_neg (by rw [h3]; decide)]
/-- The decimal that is rounded, its exponent. -/
theorem pre64 {U1 : Ds} {E2 : Int} (gU : Good U1) (u10 : 0 ≤ U1.dp) (u11 : U1.dp ≤ 20) (e20 : -162000 ≤ E2) (e21 : E2 ≤ 108000) :
    ∃ V E, ((E2 < -1021 → V = shRS U1 (-1021 - E2).toNat ∧ E = -1022) ∧ (-1021 ≤ E2 → V = U1 ∧ E = E2 - 1)) ∧ Good V ∧ -1000000 ≤ V.dp ∧ V.dp ≤ 20 := by
  rcases Int.lt_or_le E2 (-1021) with h | h
  · have hg := shR_good 10000 gU (k := (-1021 - E2).toNat) (by omega) (by omega)
    rw [shRS_eq] at hg
    exact ⟨_, _, ⟨fun _ => ⟨rfl, rfl⟩, fun h' => by omega⟩, hg.1, by have := hg.2.2.1; omega, by have := hg.2.1; omega⟩
  · exact ⟨_, _, ⟨fun h' => by omega, fun _ => ⟨rfl, rfl⟩⟩, gU, by omega, by omega⟩

set_option maxRecDepth 20000 in
set_option maxHeartbeats 8000000 in
theorem floatBits_64 (S : Ds) (hS : Good S) (hp0 : -330 ≤ S.dp) (hp1 : S.dp ≤ 310) : ∃ (b : Int) (ovf : Bool), (∃ E v, fb64 E v = (b, ovf)) ∧ ∀ (w : World) (D : Nat), Apart w D → DecAt w D S →
    Calls Tryz.prog 150 #[.pointer (some ⟨D, 0, none⟩), .pointer (some ⟨14, 0, none⟩)] w fun e w' => e = .returned (.tuple #[.int .u64 b, .bool ovf]) ∧ w.grownBy w' (some D) := by
  obtain ⟨T1, E1, hTE, gT1, t10, t11, e10, e11⟩ := f1_end hS hp0 hp1
  obtain ⟨U1, E2, hUE, gU1, u10, u11, u12, e20, e21⟩ := f2_end gT1 t10 t11 e10 e11
  obtain ⟨V, E, hVF, gV, v10, v11⟩ := pre64 gU1 u10 u11 e20 e21
  have hgX := shLS_good gV (k := 53) (by omega) (by omega)
  obtain ⟨v, hv⟩ := rounded_any (shLS V 53) hgX.1.1 (by have := hgX.2.1; omega)
  obtain ⟨b, ovf, hF⟩ : ∃ b ovf, fb64 E v = (b, ovf) := ⟨_, _, rfl⟩
  refine ⟨b, ovf, ⟨E, v, hF⟩, fun w D hA h => ?_⟩
  have HF := Lib.hid hF
  have HTE := Lib.hid hTE
  have HUE := Lib.hid hUE
  have HVF := Lib.hid hVF
  have HR := Lib.hid hv
  have GV := Lib.hid gV
  have GT1 := Lib.hid gT1
  have hm0 : mF1 S ≤ 4000 := by have := hS.first; unfold mF1; omega
  have hm1 : mF2 T1 ≤ 6000 := by have := gT1.first; unfold mF2; split <;> omega
  have HM := Lib.hid (And.intro hm0 hm1)
  clear hF hTE hUE hVF hv gV gU1 u10 u11 u12 gT1 hgX hm0 hm1
  have H := Lib.hid h
  have HS := Lib.hid hS
  have HA := Lib.hid hA
  have k8 : w.cell? ⟨D, 800, none⟩ = some (.int .i64 S.nd) := h.nd
  have k9 : w.cell? ⟨D, 801, none⟩ = some (.int .i64 S.dp) := h.dp
  have hz : ((S.nd : Int) == 0) = false := by have := hS.2.1; simp; omega
  clear h hS hA
  go_enter Tryz.func150, Tryz.ntmps150
  go_wp2_with fail
  apply wp_scope_land
  go_wp2_with fail
  go_loopw [6] (fun t6 wr => ∃ (e : Int) (fu : Nat) (T : Ds), t6 = .int .i64 e ∧ 0 ≤ e ∧ e ≤ 27 * (4000 - fu : Int) ∧ Hid (Good T ∧ runs stepF1 fu (T, e) = runs stepF1 4000 (S, 0) ∧ mF1 T ≤ fu ∧ T.dp ≤ 310 ∧ -500 ≤ T.dp ∧ DecAt wr D T ∧ w.grownBy wr (some D))) (fun _ wr => mW1 wr D)
  case atStart => exact ⟨0, 4000, S, rfl, Int.le_refl _, by omega, Lib.hid ⟨HS.out, rfl, HM.out.1, hp1, by omega, H.out, gr_refl _ _⟩⟩
  case round =>
    obtain ⟨e, fu, T, rfl, he0, he1, hb⟩ := hrel
    have hD := Lib.hid hb.out.2.2.2.2.2.1
    have k8 : wr.cell? ⟨D, 800, none⟩ = some (.int .i64 T.nd) := hD.out.nd
    have k9 : wr.cell? ⟨D, 801, none⟩ = some (.int .i64 T.dp) := hD.out.dp
    have hTb := (HA.out.grown hb.out.2.2.2.2.2.2).tabs
    obtain ⟨R, o, c, kp, hc, kq⟩ := hTb.ptab
    replace kp : wr.cell? ⟨16, 0, none⟩ = some (.slice (some ⟨R, o, none⟩) 9 c) := kp
    rcases Int.lt_or_le 0 T.dp with h0 | h0
    · rcases Int.lt_or_le T.dp 9 with h9 | h9
      · have kn := kq T.dp.toNat _ (nOf_cell T.dp.toNat (by omega))
        have hn := nOf_bound T.dp.toNat
        have hst : stepF1 (T, e) = some (shRS T (nOf T.dp.toNat), e + nOf T.dp.toNat) := by simp only [stepF1]; rw [if_pos h0]
        have hgd := stepF1_good hb.out.1 hst
        have hru : Hid (runs stepF1 (fu - 1) (shRS T (nOf T.dp.toNat), e + nOf T.dp.toNat) = runs stepF1 4000 (S, 0) ∧ 1 ≤ fu) := Lib.hid (by
          have h1 := hb.out.2.1
          have h2 := hb.out.2.2.1
          have h3 := hgd.2.1
          obtain ⟨x, rfl⟩ : ∃ x, fu = x + 1 := ⟨fu - 1, by omega⟩
          rw [runs_some hst] at h1
          exact ⟨h1, by omega⟩)
        have HG := Lib.hid hgd
        have HC := Lib.hid (fun (w' : World) (hA' : Apart w' D) (hD' : DecAt w' D T) => shiftR_any T hb.out.1 (by have := hb.out.2.2.2.2.1; omega) (by have := hb.out.2.2.2.1; omega) (nOf T.dp.toNat) hn.1 (by omega) w' D hA' hD')
        have HA2 := Lib.hid ((HA.out.grown hb.out.2.2.2.2.2.2).drew.drew)
        clear hTb kq hst hgd
        go_wp2_with fail
        go_region
        go_wp2_with fail
        go_region
        go_wp2_with fail
        refine (HC.out _ HA2.out hD.out).mono ?_
        rintro e2 w2 ⟨rfl, hd2, hg2⟩
        have HB2 : Hid (DecAt w2 D (shRS T (nOf T.dp.toNat)) ∧ w.grownBy w2 (some D)) := Lib.hid ⟨hd2, gr_trans (gr_drew (gr_drew hb.out.2.2.2.2.2.2)) hg2⟩
        clear hd2 hg2
        go_wp2_with fail
        refine ⟨⟨e + nOf T.dp.toNat, fu - 1, shRS T (nOf T.dp.toNat), rfl, by omega, by have := hru.out.2; omega, Lib.hid ⟨HG.out.1, hru.out.1, ?_, ?_, ?_, HB2.out⟩⟩, ?_⟩
        · have := HG.out.2.1
          have := hb.out.2.2.1
          omega
        · have := HG.out.2.2.1
          have := hb.out.2.2.2.1
          omega
        · have := HG.out.2.2.2.1
          omega
        · rw [HB2.out.1.mW1, hD.out.mW1]
          exact HG.out.2.1
      · have hn27 : nOf T.dp.toNat = 27 := by unfold nOf; rw [if_pos (by omega)]
        have hn := nOf_bound T.dp.toNat
        have hst : stepF1 (T, e) = some (shRS T (nOf T.dp.toNat), e + nOf T.dp.toNat) := by simp only [stepF1]; rw [if_pos h0]
        have hgd := stepF1_good hb.out.1 hst
        have hru : Hid (runs stepF1 (fu - 1) (shRS T (nOf T.dp.toNat), e + nOf T.dp.toNat) = runs stepF1 4000 (S, 0) ∧ 1 ≤ fu) := Lib.hid (by
          have h1 := hb.out.2.1
          have h2 := hb.out.2.2.1
          have h3 := hgd.2.1
          obtain ⟨x, rfl⟩ : ∃ x, fu = x + 1 := ⟨fu - 1, by omega⟩
          rw [runs_some hst] at h1
          exact ⟨h1, by omega⟩)
        have HG := Lib.hid hgd
        have HC := Lib.hid (fun (w' : World) (hA' : Apart w' D) (hD' : DecAt w' D T) => shiftR_any T hb.out.1 (by have := hb.out.2.2.2.2.1; omega) (by have := hb.out.2.2.2.1; omega) (nOf T.dp.toNat) hn.1 (by omega) w' D hA' hD')
        have HA2 := Lib.hid ((HA.out.grown hb.out.2.2.2.2.2.2).drew)
        rw [hn27] at hru HG HC
        clear hTb kq hst hgd
        go_wp2_with fail
        go_region
        go_wp2_with fail
        refine (HC.out _ HA2.out hD.out).mono ?_
        rintro e2 w2 ⟨rfl, hd2, hg2⟩
        have HB2 : Hid (DecAt w2 D (shRS T (27)) ∧ w.grownBy w2 (some D)) := Lib.hid ⟨hd2, gr_trans (gr_drew hb.out.2.2.2.2.2.2) hg2⟩
        clear hd2 hg2
        go_wp2_with fail
        refine ⟨⟨e + 27, fu - 1, shRS T (27), rfl, by omega, by have := hru.out.2; omega, Lib.hid ⟨HG.out.1, hru.out.1, ?_, ?_, ?_, HB2.out⟩⟩, ?_⟩
        · have := HG.out.2.1
          have := hb.out.2.2.1
          omega
        · have := HG.out.2.2.1
          have := hb.out.2.2.2.1
          omega
        · have := HG.out.2.2.2.1
          omega
        · rw [HB2.out.1.mW1, hD.out.mW1]
          exact HG.out.2.1
    · have he : (T, e) = (T1, E1) := by
        rw [← HTE.out, ← hb.out.2.1]
        exact (runs_none (by simp only [stepF1]; rw [if_neg (by omega)]) _).symm
      obtain ⟨rfl, rfl⟩ := Prod.mk.inj he
      have HT := Lib.hid (And.intro hD.out hb.out.2.2.2.2.2.2)
      clear hTb kq kp he hb he1
      go_wp2_with fail
      go_loopw [6] (fun t6 wr => ∃ (e2 : Int) (fu : Nat) (U : Ds), t6 = .int .i64 e2 ∧ e2 ≤ e ∧ -27 * (6000 - fu : Int) ≤ e2 ∧ Hid (Good U ∧ runs stepF2 fu (U, e2) = runs stepF2 6000 (T, e) ∧ mF2 U ≤ fu ∧ U.dp ≤ 20 ∧ -500 ≤ U.dp ∧ DecAt wr D U ∧ w.grownBy wr (some D))) (fun _ wr => mW2 wr D)
      case atStart => exact ⟨e, 6000, T, rfl, Int.le_refl _, by omega, Lib.hid ⟨GT1.out, rfl, HM.out.2, by omega, t10, HT.out.1, HT.out.2⟩⟩
      case round =>
        clear HT hD k8 k9
        obtain ⟨e2, fu, U, rfl, he0, he1, hb⟩ := hrel
        have hD := Lib.hid hb.out.2.2.2.2.2.1
        have k8 : wr.cell? ⟨D, 800, none⟩ = some (.int .i64 U.nd) := hD.out.nd
        have k9 : wr.cell? ⟨D, 801, none⟩ = some (.int .i64 U.dp) := hD.out.dp
        have kd : wr.cell? ⟨D, 0, none⟩ = some (.int .u8 (U.f 0)) := hD.out.dig (i := 0) (by omega)
        have hTb := (HA.out.grown hb.out.2.2.2.2.2.2).tabs
        have i0 := hTb.i64.1
        have i1 := hTb.i64.2.1
        have i2 := hTb.i64.2.2
        obtain ⟨R, o, c, kp, hc, kq⟩ := hTb.ptab
        replace kp : wr.cell? ⟨16, 0, none⟩ = some (.slice (some ⟨R, o, none⟩) 9 c) := kp
        rcases Int.lt_or_le U.dp 0 with h0 | h0
        · rcases Int.lt_or_le (-U.dp) 9 with h9 | h9
          · have kn := kq (-U.dp).toNat _ (nOf_cell (-U.dp).toNat (by omega))
            have hn := nOf_bound (-U.dp).toNat
            have hst : stepF2 (U, e2) = some (shLS U (nOf (-U.dp).toNat), e2 - nOf (-U.dp).toNat) := by simp only [stepF2]; rw [if_pos (by omega)]
            have hgd := stepF2_good hb.out.1 hst
            have hru : Hid (runs stepF2 (fu - 1) (shLS U (nOf (-U.dp).toNat), e2 - nOf (-U.dp).toNat) = runs stepF2 6000 (T, e) ∧ 1 ≤ fu) := Lib.hid (by
              have h1 := hb.out.2.1
              have h2 := hb.out.2.2.1
              have h3 := hgd.2.1
              obtain ⟨x, rfl⟩ : ∃ x, fu = x + 1 := ⟨fu - 1, by omega⟩
              rw [runs_some hst] at h1
              exact ⟨h1, by omega⟩)
            have HG := Lib.hid hgd
            have HC := Lib.hid (fun (w' : World) (hA' : Apart w' D) (hD' : DecAt w' D U) => shiftL_any U hb.out.1 (by have := hb.out.2.2.2.2.1; omega) (by have := hb.out.2.2.2.1; omega) (nOf (-U.dp).toNat) hn.1 (by omega) w' D hA' hD')
            clear hTb kq hst hgd
            have HA2 := Lib.hid ((HA.out.grown hb.out.2.2.2.2.2.2).drew.drew)
            have HGR : Hid (w.grownBy wr.drew.drew (some D)) := Lib.hid (gr_drew (gr_drew hb.out.2.2.2.2.2.2))
            clear i0 i1 i2
            go_wp2_with fail
            go_region
            go_wp2_with fail
            go_region
            go_wp2_with fail
            refine (HC.out _ HA2.out hD.out).mono ?_
            rintro e3 w2 ⟨rfl, hd2, hg2⟩
            have HB2 : Hid (DecAt w2 D (shLS U (nOf (-U.dp).toNat)) ∧ w.grownBy w2 (some D)) := Lib.hid ⟨hd2, gr_trans HGR.out hg2⟩
            clear hd2 hg2
            go_wp2_with fail
            refine ⟨⟨e2 - nOf (-U.dp).toNat, fu - 1, shLS U (nOf (-U.dp).toNat), rfl, by omega, by have := hru.out.2; omega, Lib.hid ⟨HG.out.1, hru.out.1, ?_, ?_, ?_, HB2.out⟩⟩, ?_⟩
            · have := HG.out.2.1
              have := hb.out.2.2.1
              omega
            · have := HG.out.2.2.2.1
              omega
            · have := HG.out.2.2.1
              have := hb.out.2.2.2.2.1
              omega
            · rw [HB2.out.1.mW2, hD.out.mW2]
              exact HG.out.2.1
          · have hn := nOf_bound (-U.dp).toNat
            have h9b : U.dp ≤ -9 := by omega
            have h9c : -500 ≤ U.dp := hb.out.2.2.2.2.1
            have hnN : nOf (-U.dp).toNat = 27 := by unfold nOf; rw [if_pos (by omega)]
            have hst : stepF2 (U, e2) = some (shLS U (nOf (-U.dp).toNat), e2 - nOf (-U.dp).toNat) := by simp only [stepF2]; rw [if_pos (by omega)]
            have hgd := stepF2_good hb.out.1 hst
            have hru : Hid (runs stepF2 (fu - 1) (shLS U (nOf (-U.dp).toNat), e2 - nOf (-U.dp).toNat) = runs stepF2 6000 (T, e) ∧ 1 ≤ fu) := Lib.hid (by
              have h1 := hb.out.2.1
              have h2 := hb.out.2.2.1
              have h3 := hgd.2.1
              obtain ⟨x, rfl⟩ : ∃ x, fu = x + 1 := ⟨fu - 1, by omega⟩
              rw [runs_some hst] at h1
              exact ⟨h1, by omega⟩)
            have HG := Lib.hid hgd
            have HC := Lib.hid (fun (w' : World) (hA' : Apart w' D) (hD' : DecAt w' D U) => shiftL_any U hb.out.1 (by have := hb.out.2.2.2.2.1; omega) (by have := hb.out.2.2.2.1; omega) (nOf (-U.dp).toNat) hn.1 (by omega) w' D hA' hD')
            rw [hnN] at hru HG HC
            clear hnN
            clear hTb kq hst hgd
            have HA2 := Lib.hid ((HA.out.grown hb.out.2.2.2.2.2.2).drew)
            have HGR : Hid (w.grownBy wr.drew (some D)) := Lib.hid (gr_drew hb.out.2.2.2.2.2.2)
            clear i0 i1 i2
            go_wp2_with fail
            go_region
            go_wp2_with fail
            refine (HC.out _ HA2.out hD.out).mono ?_
            rintro e3 w2 ⟨rfl, hd2, hg2⟩
            have HB2 : Hid (DecAt w2 D (shLS U (27)) ∧ w.grownBy w2 (some D)) := Lib.hid ⟨hd2, gr_trans HGR.out hg2⟩
            clear hd2 hg2
            go_wp2_with fail
            refine ⟨⟨e2 - 27, fu - 1, shLS U (27), rfl, by omega, by have := hru.out.2; omega, Lib.hid ⟨HG.out.1, hru.out.1, ?_, ?_, ?_, HB2.out⟩⟩, ?_⟩
            · have := HG.out.2.1
              have := hb.out.2.2.1
              omega
            · have := HG.out.2.2.2.1
              omega
            · have := HG.out.2.2.1
              have := hb.out.2.2.2.2.1
              omega
            · rw [HB2.out.1.mW2, hD.out.mW2]
              exact HG.out.2.1
        · rcases Int.lt_or_le 0 U.dp with h1 | h1
          · have he : (U, e2) = (U1, E2) := by
              rw [← HUE.out, ← hb.out.2.1]
              exact (runs_none (by simp only [stepF2]; rw [if_neg (by omega)]) _).symm
            obtain ⟨rfl, rfl⟩ := Prod.mk.inj he
            clear he he1
            rcases Int.lt_or_le e2 (-1021) with hlo | hlo
            · have hVE : V = shRS U (-1021 - e2).toNat ∧ E = -1022 := HVF.out.1 hlo
              obtain ⟨hV1, rfl⟩ := hVE
              have HC1 := Lib.hid (fun (x : Int) (hx : x = -(((-1021 - e2).toNat : Nat) : Int)) (w' : World) (hA' : Apart w' D) (hD' : DecAt w' D U) => by
                have := shiftR_any U hb.out.1 (by omega) (by have := hb.out.2.2.2.1; omega) (-1021 - e2).toNat (by omega) (by omega) w' D hA' hD'
                rw [← hV1, ← hx] at this
                exact this)
              have HC := Lib.hid (fun (w' : World) (hA' : Apart w' D) (hD' : DecAt w' D V) => shiftL_any V GV.out (by omega) (by omega) 53 (by omega) (by omega) w' D hA' hD')
              have HA1 := Lib.hid (HA.out.grown hb.out.2.2.2.2.2.2)
              have hsum : e2 - 1 + (-1022 - (e2 - 1)) = -1022 := by omega
              clear hTb kq hc hV1
              go_wp2_with fail
              refine (HC1.out _ (by omega) _ HA1.out hD.out).mono ?_
              rintro e2' w1 ⟨rfl, hd1, hg1⟩
              have HB1 : Hid (DecAt w1 D V ∧ w.grownBy w1 (some D)) := Lib.hid ⟨hd1, gr_trans hb.out.2.2.2.2.2.2 hg1⟩
              clear hd1 hg1 i0 i1 i2 k8 k9 kd kp
              have hTb := (HA.out.grown HB1.out.2).tabs
              have i0 := hTb.i64.1
              have i1 := hTb.i64.2.1
              have i2 := hTb.i64.2.2
              clear hTb
              go_wp2_with fail
              go_region
              go_wp2_with fail
              refine (HC.out _ (HA.out.grown HB1.out.2).drew HB1.out.1).mono ?_
              rintro e2' w2 ⟨rfl, hd2, hg2⟩
              have HB2 : Hid (DecAt w2 D (shLS V 53) ∧ w.grownBy w2 (some D)) := Lib.hid ⟨hd2, gr_trans (gr_drew HB1.out.2) hg2⟩
              clear hd2 hg2 i0 i1 i2 HB1
              go_wp2_with fail
              refine (HR.out _ _ HB2.out.1).mono ?_
              rintro e2' w3 ⟨rfl, hb3⟩
              have HB3 : Hid (DecAt w3 D (shLS V 53) ∧ w.grownBy w3 (some D)) := Lib.hid ⟨(hb3.block _ (heap_lt HB2.out.1)).trans HB2.out.1, gr_trans HB2.out.2 (gr_below hb3 _)⟩
              clear hb3 HB2
              have hTb := (HA.out.grown HB3.out.2).tabs
              have i0 := hTb.i64.1
              have i1 := hTb.i64.2.1
              have i2 := hTb.i64.2.2
              have kn := HB3.out.1.ng
              clear hTb
              cases hv1 : (v == 9007199254740992) with
              | true =>
                have hv2 : v = 9007199254740992 := by simpa using hv1
                have HV2 := Lib.hid hv2
                clear hv2
                cases hv3 : (bits .and .u64 (v / 2) 4503599627370496 == 0) with
                | true =>
                  have HR2 : Hid (fb64 (-1022) v = (asm64 (v / 2) 0, false)) := Lib.hid (fb64_sub2 (by omega) HV2.out (by omega) hv3)
                  go_wp2_with fail
                  try
                    go_region
                    go_wp2_with fail
                  try
                    go_region
                    go_wp2_with fail
                  go_step3
                  refine ⟨_, rfl, ?_⟩
                  go_wp2_with fail
                  go_region
                  go_wp2_with fail
                  try
                    go_step3
                    go_wp2_with fail
                    go_region
                    go_wp2_with fail
                  rw [Exit.noGoto_ret]
                  go_returns
                  exact ⟨ret_fb HR2.out HF.out, by first | exact gr_drew HB3.out.2 | exact gr_drew (gr_drew HB3.out.2) | exact gr_drew (gr_drew (gr_drew HB3.out.2)) | exact gr_drew (gr_drew (gr_drew (gr_drew HB3.out.2)))⟩
                | false =>
                  have HR2 : Hid (fb64 (-1022) v = (asm64 (v / 2) ((-1022 + 1) + 1023), false)) := Lib.hid (by
                    have := fb64_nor2 (E := (-1022)) (by omega) HV2.out (by omega) hv3
                    rw [show ((-1022) : Int) + 1 = (-1022 + 1) by omega] at this
                    exact this)
                  go_wp2_with fail
                  try
                    go_region
                    go_wp2_with fail
                  try
                    go_region
                    go_wp2_with fail
                  go_step3
                  refine ⟨_, rfl, ?_⟩
                  go_wp2_with fail
                  go_region
                  go_wp2_with fail
                  try
                    go_step3
                    go_wp2_with fail
                    go_region
                    go_wp2_with fail
                  rw [Exit.noGoto_ret]
                  go_returns
                  exact ⟨ret_fb HR2.out HF.out, by first | exact gr_drew HB3.out.2 | exact gr_drew (gr_drew HB3.out.2) | exact gr_drew (gr_drew (gr_drew HB3.out.2)) | exact gr_drew (gr_drew (gr_drew (gr_drew HB3.out.2)))⟩
              | false =>
                have hv2 : ¬ v = 9007199254740992 := by simpa using hv1
                have HV2 := Lib.hid hv2
                clear hv2
                cases hv3 : (bits .and .u64 v 4503599627370496 == 0) with
                | true =>
                  have HR2 : Hid (fb64 (-1022) v = (asm64 v 0, false)) := Lib.hid (fb64_sub (by omega) HV2.out hv3)
                  go_wp2_with fail
                  try
                    go_region
                    go_wp2_with fail
                  try
                    go_region
                    go_wp2_with fail
                  go_step3
                  refine ⟨_, rfl, ?_⟩
                  go_wp2_with fail
                  go_region
                  go_wp2_with fail
                  try
                    go_step3
                    go_wp2_with fail
                    go_region
                    go_wp2_with fail
                  rw [Exit.noGoto_ret]
                  go_returns
                  exact ⟨ret_fb HR2.out HF.out, by first | exact gr_drew HB3.out.2 | exact gr_drew (gr_drew HB3.out.2) | exact gr_drew (gr_drew (gr_drew HB3.out.2)) | exact gr_drew (gr_drew (gr_drew (gr_drew HB3.out.2)))⟩
                | false =>
                  have HR2 : Hid (fb64 (-1022) v = (asm64 v ((-1022) + 1023), false)) := Lib.hid (fb64_nor (by omega) HV2.out hv3)
                  go_wp2_with fail
                  try
                    go_region
                    go_wp2_with fail
                  try
                    go_region
                    go_wp2_with fail
                  go_step3
                  refine ⟨_, rfl, ?_⟩
                  go_wp2_with fail
                  go_region
                  go_wp2_with fail
                  try
                    go_step3
                    go_wp2_with fail
                    go_region
                    go_wp2_with fail
                  rw [Exit.noGoto_ret]
                  go_returns
                  exact ⟨ret_fb HR2.out HF.out, by first | exact gr_drew HB3.out.2 | exact gr_drew (gr_drew HB3.out.2) | exact gr_drew (gr_drew (gr_drew HB3.out.2)) | exact gr_drew (gr_drew (gr_drew (gr_drew HB3.out.2)))⟩
            · have hVE : V = U ∧ E = e2 - 1 := HVF.out.2 hlo
              obtain ⟨rfl, rfl⟩ := hVE
              rcases Int.lt_or_le e2 (1025) with hup | hup
              · have HC := Lib.hid (fun (w' : World) (hA' : Apart w' D) (hD' : DecAt w' D V) => shiftL_any V GV.out (by omega) (by omega) 53 (by omega) (by omega) w' D hA' hD')
                have HA2 := Lib.hid ((HA.out.grown hb.out.2.2.2.2.2.2).drew)
                clear hTb kq hc
                go_wp2_with fail
                go_region
                go_wp2_with fail
                refine (HC.out _ HA2.out hD.out).mono ?_
                rintro e2' w2 ⟨rfl, hd2, hg2⟩
                have HB2 : Hid (DecAt w2 D (shLS V 53) ∧ w.grownBy w2 (some D)) := Lib.hid ⟨hd2, gr_trans (gr_drew hb.out.2.2.2.2.2.2) hg2⟩
                clear hd2 hg2 i0 i1 i2 k8 k9 kd kp
                go_wp2_with fail
                refine (HR.out _ _ HB2.out.1).mono ?_
                rintro e2' w3 ⟨rfl, hb3⟩
                have HB3 : Hid (DecAt w3 D (shLS V 53) ∧ w.grownBy w3 (some D)) := Lib.hid ⟨(hb3.block _ (heap_lt HB2.out.1)).trans HB2.out.1, gr_trans HB2.out.2 (gr_below hb3 _)⟩
                clear hb3 HB2
                have hTb := (HA.out.grown HB3.out.2).tabs
                have i0 := hTb.i64.1
                have i1 := hTb.i64.2.1
                have i2 := hTb.i64.2.2
                have kn := HB3.out.1.ng
                clear hTb
                cases hv1 : (v == 9007199254740992) with
                | true =>
                  have hv2 : v = 9007199254740992 := by simpa using hv1
                  have HV2 := Lib.hid hv2
                  clear hv2
                  rcases Int.lt_or_le (e2 - 1) (2047 - 1023 - 1) with hq | hq
                  · cases hv3 : (bits .and .u64 (v / 2) 4503599627370496 == 0) with
                    | true =>
                      have HR2 : Hid (fb64 (e2 - 1) v = (asm64 (v / 2) 0, false)) := Lib.hid (fb64_sub2 (by omega) HV2.out (by omega) hv3)
                      go_wp2_with fail
                      try
                        go_region
                        go_wp2_with fail
                      try
                        go_region
                        go_wp2_with fail
                      go_step3
                      refine ⟨_, rfl, ?_⟩
                      go_wp2_with fail
                      go_region
                      go_wp2_with fail
                      try
                        go_step3
                        go_wp2_with fail
                        go_region
                        go_wp2_with fail
                      rw [Exit.noGoto_ret]
                      go_returns
                      exact ⟨ret_fb HR2.out HF.out, by first | exact gr_drew HB3.out.2 | exact gr_drew (gr_drew HB3.out.2) | exact gr_drew (gr_drew (gr_drew HB3.out.2)) | exact gr_drew (gr_drew (gr_drew (gr_drew HB3.out.2)))⟩
                    | false =>
                      have HR2 : Hid (fb64 (e2 - 1) v = (asm64 (v / 2) (e2 + 1023), false)) := Lib.hid (by
                        have := fb64_nor2 (E := (e2 - 1)) (by omega) HV2.out (by omega) hv3
                        rw [show ((e2 - 1) : Int) + 1 = e2 by omega] at this
                        exact this)
                      go_wp2_with fail
                      try
                        go_region
                        go_wp2_with fail
                      try
                        go_region
                        go_wp2_with fail
                      go_step3
                      refine ⟨_, rfl, ?_⟩
                      go_wp2_with fail
                      go_region
                      go_wp2_with fail
                      try
                        go_step3
                        go_wp2_with fail
                        go_region
                        go_wp2_with fail
                      rw [Exit.noGoto_ret]
                      go_returns
                      exact ⟨ret_fb HR2.out HF.out, by first | exact gr_drew HB3.out.2 | exact gr_drew (gr_drew HB3.out.2) | exact gr_drew (gr_drew (gr_drew HB3.out.2)) | exact gr_drew (gr_drew (gr_drew (gr_drew HB3.out.2)))⟩
                  · have HR2 : Hid (fb64 (e2 - 1) v = (asm64 0 2047, true)) := Lib.hid (fb64_inf2 (by omega) HV2.out (by omega))
                    go_wp2_with fail
                    try
                      go_region
                      go_wp2_with fail
                    try
                      go_region
                      go_wp2_with fail
                    go_step3
                    refine ⟨_, rfl, ?_⟩
                    go_wp2_with fail
                    go_region
                    go_wp2_with fail
                    try
                      go_step3
                      go_wp2_with fail
                      go_region
                      go_wp2_with fail
                    rw [Exit.noGoto_ret]
                    go_returns
                    exact ⟨ret_fb HR2.out HF.out, by first | exact gr_drew HB3.out.2 | exact gr_drew (gr_drew HB3.out.2) | exact gr_drew (gr_drew (gr_drew HB3.out.2)) | exact gr_drew (gr_drew (gr_drew (gr_drew HB3.out.2)))⟩
                | false =>
                  have hv2 : ¬ v = 9007199254740992 := by simpa using hv1
                  have HV2 := Lib.hid hv2
                  clear hv2
                  cases hv3 : (bits .and .u64 v 4503599627370496 == 0) with
                  | true =>
                    have HR2 : Hid (fb64 (e2 - 1) v = (asm64 v 0, false)) := Lib.hid (fb64_sub (by omega) HV2.out hv3)
                    go_wp2_with fail
                    try
                      go_region
                      go_wp2_with fail
                    try
                      go_region
                      go_wp2_with fail
                    go_step3
                    refine ⟨_, rfl, ?_⟩
                    go_wp2_with fail
                    go_region
                    go_wp2_with fail
                    try
                      go_step3
                      go_wp2_with fail
                      go_region
                      go_wp2_with fail
                    rw [Exit.noGoto_ret]
                    go_returns
                    exact ⟨ret_fb HR2.out HF.out, by first | exact gr_drew HB3.out.2 | exact gr_drew (gr_drew HB3.out.2) | exact gr_drew (gr_drew (gr_drew HB3.out.2)) | exact gr_drew (gr_drew (gr_drew (gr_drew HB3.out.2)))⟩
                  | false =>
                    have HR2 : Hid (fb64 (e2 - 1) v = (asm64 v ((e2 - 1) + 1023), false)) := Lib.hid (fb64_nor (by omega) HV2.out hv3)
                    go_wp2_with fail
                    try
                      go_region
                      go_wp2_with fail
                    try
                      go_region
                      go_wp2_with fail
                    go_step3
                    refine ⟨_, rfl, ?_⟩
                    go_wp2_with fail
                    go_region
                    go_wp2_with fail
                    try
                      go_step3
                      go_wp2_with fail
                      go_region
                      go_wp2_with fail
                    rw [Exit.noGoto_ret]
                    go_returns
                    exact ⟨ret_fb HR2.out HF.out, by first | exact gr_drew HB3.out.2 | exact gr_drew (gr_drew HB3.out.2) | exact gr_drew (gr_drew (gr_drew HB3.out.2)) | exact gr_drew (gr_drew (gr_drew (gr_drew HB3.out.2)))⟩
              · have kn := hD.out.ng
                have HR2 : Hid (fb64 (e2 - 1) v = (asm64 0 2047, true)) := Lib.hid (fb64_inf (by omega))
                clear hTb kq hc
                go_wp2_with fail
                go_region
                go_wp2_with fail
                go_step3
                refine ⟨_, rfl, ?_⟩
                go_wp2_with fail
                go_region
                go_wp2_with fail
                go_step3
                go_wp2_with fail
                go_region
                go_wp2_with fail
                rw [Exit.noGoto_ret]
                go_returns
                exact ⟨ret_fb HR2.out HF.out, by first | exact gr_drew (gr_drew (gr_drew hb.out.2.2.2.2.2.2)) | exact gr_drew (gr_drew (gr_drew (gr_drew hb.out.2.2.2.2.2.2)))⟩
          · have h2 : U.dp = 0 := by omega
            rcases Nat.lt_or_ge (U.f 0) 53 with h5 | h5
            · have kn : wr.cell? ⟨R, o, none⟩ = some (.int .i64 1) := kq 0 _ rfl
              have hn := nOf_bound (-U.dp).toNat
              have hnN : nOf (-U.dp).toNat = 1 := by rw [h2]; rfl
              have hst : stepF2 (U, e2) = some (shLS U (nOf (-U.dp).toNat), e2 - nOf (-U.dp).toNat) := by simp only [stepF2]; rw [if_pos (by omega)]
              have hgd := stepF2_good hb.out.1 hst
              have hru : Hid (runs stepF2 (fu - 1) (shLS U (nOf (-U.dp).toNat), e2 - nOf (-U.dp).toNat) = runs stepF2 6000 (T, e) ∧ 1 ≤ fu) := Lib.hid (by
                have h1 := hb.out.2.1
                have h2 := hb.out.2.2.1
                have h3 := hgd.2.1
                obtain ⟨x, rfl⟩ : ∃ x, fu = x + 1 := ⟨fu - 1, by omega⟩
                rw [runs_some hst] at h1
                exact ⟨h1, by omega⟩)
              have HG := Lib.hid hgd
              have HC := Lib.hid (fun (w' : World) (hA' : Apart w' D) (hD' : DecAt w' D U) => shiftL_any U hb.out.1 (by have := hb.out.2.2.2.2.1; omega) (by have := hb.out.2.2.2.1; omega) (nOf (-U.dp).toNat) hn.1 (by omega) w' D hA' hD')
              rw [hnN] at hru HG HC
              clear hnN
              clear hTb kq hst hgd
              have HA2 := Lib.hid ((HA.out.grown hb.out.2.2.2.2.2.2).drew.drew)
              have HGR : Hid (w.grownBy wr.drew.drew (some D)) := Lib.hid (gr_drew (gr_drew hb.out.2.2.2.2.2.2))
              clear i0 i1 i2
              go_wp2_with fail
              go_region
              go_wp2_with fail
              go_region
              go_wp2_with fail
              refine (HC.out _ HA2.out hD.out).mono ?_
              rintro e3 w2 ⟨rfl, hd2, hg2⟩
              have HB2 : Hid (DecAt w2 D (shLS U (1)) ∧ w.grownBy w2 (some D)) := Lib.hid ⟨hd2, gr_trans HGR.out hg2⟩
              clear hd2 hg2
              go_wp2_with fail
              refine ⟨⟨e2 - 1, fu - 1, shLS U (1), rfl, by omega, by have := hru.out.2; omega, Lib.hid ⟨HG.out.1, hru.out.1, ?_, ?_, ?_, HB2.out⟩⟩, ?_⟩
              · have := HG.out.2.1
                have := hb.out.2.2.1
                omega
              · have := HG.out.2.2.2.1
                omega
              · have := HG.out.2.2.1
                have := hb.out.2.2.2.2.1
                omega
              · rw [HB2.out.1.mW2, hD.out.mW2]
                exact HG.out.2.1
            · have he : (U, e2) = (U1, E2) := by
                rw [← HUE.out, ← hb.out.2.1]
                exact (runs_none (by simp only [stepF2]; rw [if_neg (by omega)]) _).symm
              obtain ⟨rfl, rfl⟩ := Prod.mk.inj he
              clear he he1
              rcases Int.lt_or_le e2 (-1021) with hlo | hlo
              · have hVE : V = shRS U (-1021 - e2).toNat ∧ E = -1022 := HVF.out.1 hlo
                obtain ⟨hV1, rfl⟩ := hVE
                have HC1 := Lib.hid (fun (x : Int) (hx : x = -(((-1021 - e2).toNat : Nat) : Int)) (w' : World) (hA' : Apart w' D) (hD' : DecAt w' D U) => by
                  have := shiftR_any U hb.out.1 (by omega) (by have := hb.out.2.2.2.1; omega) (-1021 - e2).toNat (by omega) (by omega) w' D hA' hD'
                  rw [← hV1, ← hx] at this
                  exact this)
                have HC := Lib.hid (fun (w' : World) (hA' : Apart w' D) (hD' : DecAt w' D V) => shiftL_any V GV.out (by omega) (by omega) 53 (by omega) (by omega) w' D hA' hD')
                have HA1 := Lib.hid (HA.out.grown hb.out.2.2.2.2.2.2)
                have hsum : e2 - 1 + (-1022 - (e2 - 1)) = -1022 := by omega
                clear hTb kq hc hV1
                go_wp2_with fail
                refine (HC1.out _ (by omega) _ HA1.out hD.out).mono ?_
                rintro e2' w1 ⟨rfl, hd1, hg1⟩
                have HB1 : Hid (DecAt w1 D V ∧ w.grownBy w1 (some D)) := Lib.hid ⟨hd1, gr_trans hb.out.2.2.2.2.2.2 hg1⟩
                clear hd1 hg1 i0 i1 i2 k8 k9 kd kp
                have hTb := (HA.out.grown HB1.out.2).tabs
                have i0 := hTb.i64.1
                have i1 := hTb.i64.2.1
                have i2 := hTb.i64.2.2
                clear hTb
                go_wp2_with fail
                go_region
                go_wp2_with fail
                refine (HC.out _ (HA.out.grown HB1.out.2).drew HB1.out.1).mono ?_
                rintro e2' w2 ⟨rfl, hd2, hg2⟩
                have HB2 : Hid (DecAt w2 D (shLS V 53) ∧ w.grownBy w2 (some D)) := Lib.hid ⟨hd2, gr_trans (gr_drew HB1.out.2) hg2⟩
                clear hd2 hg2 i0 i1 i2 HB1
                go_wp2_with fail
                refine (HR.out _ _ HB2.out.1).mono ?_
                rintro e2' w3 ⟨rfl, hb3⟩
                have HB3 : Hid (DecAt w3 D (shLS V 53) ∧ w.grownBy w3 (some D)) := Lib.hid ⟨(hb3.block _ (heap_lt HB2.out.1)).trans HB2.out.1, gr_trans HB2.out.2 (gr_below hb3 _)⟩
                clear hb3 HB2
                have hTb := (HA.out.grown HB3.out.2).tabs
                have i0 := hTb.i64.1
                have i1 := hTb.i64.2.1
                have i2 := hTb.i64.2.2
                have kn := HB3.out.1.ng
                clear hTb
                cases hv1 : (v == 9007199254740992) with
                | true =>
                  have hv2 : v = 9007199254740992 := by simpa using hv1
                  have HV2 := Lib.hid hv2
                  clear hv2
                  cases hv3 : (bits .and .u64 (v / 2) 4503599627370496 == 0) with
                  | true =>
                    have HR2 : Hid (fb64 (-1022) v = (asm64 (v / 2) 0, false)) := Lib.hid (fb64_sub2 (by omega) HV2.out (by omega) hv3)
                    go_wp2_with fail
                    try
                      go_region
                      go_wp2_with fail
                    try
                      go_region
                      go_wp2_with fail
                    go_step3
                    refine ⟨_, rfl, ?_⟩
                    go_wp2_with fail
                    go_region
                    go_wp2_with fail
                    try
                      go_step3
                      go_wp2_with fail
                      go_region
                      go_wp2_with fail
                    rw [Exit.noGoto_ret]
                    go_returns
                    exact ⟨ret_fb HR2.out HF.out, by first | exact gr_drew HB3.out.2 | exact gr_drew (gr_drew HB3.out.2) | exact gr_drew (gr_drew (gr_drew HB3.out.2)) | exact gr_drew (gr_drew (gr_drew (gr_drew HB3.out.2)))⟩
                  | false =>
                    have HR2 : Hid (fb64 (-1022) v = (asm64 (v / 2) ((-1022 + 1) + 1023), false)) := Lib.hid (by
                      have := fb64_nor2 (E := (-1022)) (by omega) HV2.out (by omega) hv3
                      rw [show ((-1022) : Int) + 1 = (-1022 + 1) by omega] at this
                      exact this)
                    go_wp2_with fail
                    try
                      go_region
                      go_wp2_with fail
                    try
                      go_region
                      go_wp2_with fail
                    go_step3
                    refine ⟨_, rfl, ?_⟩
                    go_wp2_with fail
                    go_region
                    go_wp2_with fail
                    try
                      go_step3
                      go_wp2_with fail
                      go_region
                      go_wp2_with fail
                    rw [Exit.noGoto_ret]
                    go_returns
                    exact ⟨ret_fb HR2.out HF.out, by first | exact gr_drew HB3.out.2 | exact gr_drew (gr_drew HB3.out.2) | exact gr_drew (gr_drew (gr_drew HB3.out.2)) | exact gr_drew (gr_drew (gr_drew (gr_drew HB3.out.2)))⟩
                | false =>
                  have hv2 : ¬ v = 9007199254740992 := by simpa using hv1
                  have HV2 := Lib.hid hv2
                  clear hv2
                  cases hv3 : (bits .and .u64 v 4503599627370496 == 0) with
                  | true =>
                    have HR2 : Hid (fb64 (-1022) v = (asm64 v 0, false)) := Lib.hid (fb64_sub (by omega) HV2.out hv3)
                    go_wp2_with fail
                    try
                      go_region
                      go_wp2_with fail
                    try
                      go_region
                      go_wp2_with fail
                    go_step3
                    refine ⟨_, rfl, ?_⟩
                    go_wp2_with fail
                    go_region
                    go_wp2_with fail
                    try
                      go_step3
                      go_wp2_with fail
                      go_region
                      go_wp2_with fail
                    rw [Exit.noGoto_ret]
                    go_returns
                    exact ⟨ret_fb HR2.out HF.out, by first | exact gr_drew HB3.out.2 | exact gr_drew (gr_drew HB3.out.2) | exact gr_drew (gr_drew (gr_drew HB3.out.2)) | exact gr_drew (gr_drew (gr_drew (gr_drew HB3.out.2)))⟩
                  | false =>
                    have HR2 : Hid (fb64 (-1022) v = (asm64 v ((-1022) + 1023), false)) := Lib.hid (fb64_nor (by omega) HV2.out hv3)
                    go_wp2_with fail
                    try
                      go_region
                      go_wp2_with fail
                    try
                      go_region
                      go_wp2_with fail
                    go_step3
                    refine ⟨_, rfl, ?_⟩
                    go_wp2_with fail
                    go_region
                    go_wp2_with fail
                    try
                      go_step3
                      go_wp2_with fail
                      go_region
                      go_wp2_with fail
                    rw [Exit.noGoto_ret]
                    go_returns
                    exact ⟨ret_fb HR2.out HF.out, by first | exact gr_drew HB3.out.2 | exact gr_drew (gr_drew HB3.out.2) | exact gr_drew (gr_drew (gr_drew HB3.out.2)) | exact gr_drew (gr_drew (gr_drew (gr_drew HB3.out.2)))⟩
              · have hVE : V = U ∧ E = e2 - 1 := HVF.out.2 hlo
                obtain ⟨rfl, rfl⟩ := hVE
                rcases Int.lt_or_le e2 (1025) with hup | hup
                · have HC := Lib.hid (fun (w' : World) (hA' : Apart w' D) (hD' : DecAt w' D V) => shiftL_any V GV.out (by omega) (by omega) 53 (by omega) (by omega) w' D hA' hD')
                  have HA2 := Lib.hid ((HA.out.grown hb.out.2.2.2.2.2.2).drew)
                  clear hTb kq hc
                  go_wp2_with fail
                  go_region
                  go_wp2_with fail
                  refine (HC.out _ HA2.out hD.out).mono ?_
                  rintro e2' w2 ⟨rfl, hd2, hg2⟩
                  have HB2 : Hid (DecAt w2 D (shLS V 53) ∧ w.grownBy w2 (some D)) := Lib.hid ⟨hd2, gr_trans (gr_drew hb.out.2.2.2.2.2.2) hg2⟩
                  clear hd2 hg2 i0 i1 i2 k8 k9 kd kp
                  go_wp2_with fail
                  refine (HR.out _ _ HB2.out.1).mono ?_
                  rintro e2' w3 ⟨rfl, hb3⟩
                  have HB3 : Hid (DecAt w3 D (shLS V 53) ∧ w.grownBy w3 (some D)) := Lib.hid ⟨(hb3.block _ (heap_lt HB2.out.1)).trans HB2.out.1, gr_trans HB2.out.2 (gr_below hb3 _)⟩
                  clear hb3 HB2
                  have hTb := (HA.out.grown HB3.out.2).tabs
                  have i0 := hTb.i64.1
                  have i1 := hTb.i64.2.1
                  have i2 := hTb.i64.2.2
                  have kn := HB3.out.1.ng
                  clear hTb
                  cases hv1 : (v == 9007199254740992) with
                  | true =>
                    have hv2 : v = 9007199254740992 := by simpa using hv1
                    have HV2 := Lib.hid hv2
                    clear hv2
                    rcases Int.lt_or_le (e2 - 1) (2047 - 1023 - 1) with hq | hq
                    · cases hv3 : (bits .and .u64 (v / 2) 4503599627370496 == 0) with
                      | true =>
                        have HR2 : Hid (fb64 (e2 - 1) v = (asm64 (v / 2) 0, false)) := Lib.hid (fb64_sub2 (by omega) HV2.out (by omega) hv3)
                        go_wp2_with fail
                        try
                          go_region
                          go_wp2_with fail
                        try
                          go_region
                          go_wp2_with fail
                        go_step3
                        refine ⟨_, rfl, ?_⟩
                        go_wp2_with fail
                        go_region
                        go_wp2_with fail
                        try
                          go_step3
                          go_wp2_with fail
                          go_region
                          go_wp2_with fail
                        rw [Exit.noGoto_ret]
                        go_returns
                        exact ⟨ret_fb HR2.out HF.out, by first | exact gr_drew HB3.out.2 | exact gr_drew (gr_drew HB3.out.2) | exact gr_drew (gr_drew (gr_drew HB3.out.2)) | exact gr_drew (gr_drew (gr_drew (gr_drew HB3.out.2)))⟩
                      | false =>
                        have HR2 : Hid (fb64 (e2 - 1) v = (asm64 (v / 2) (e2 + 1023), false)) := Lib.hid (by
                          have := fb64_nor2 (E := (e2 - 1)) (by omega) HV2.out (by omega) hv3
                          rw [show ((e2 - 1) : Int) + 1 = e2 by omega] at this
                          exact this)
                        go_wp2_with fail
                        try
                          go_region
                          go_wp2_with fail
                        try
                          go_region
                          go_wp2_with fail
                        go_step3
                        refine ⟨_, rfl, ?_⟩
                        go_wp2_with fail
                        go_region
                        go_wp2_with fail
                        try
                          go_step3
                          go_wp2_with fail
                          go_region
                          go_wp2_with fail
                        rw [Exit.noGoto_ret]
                        go_returns
                        exact ⟨ret_fb HR2.out HF.out, by first | exact gr_drew HB3.out.2 | exact gr_drew (gr_drew HB3.out.2) | exact gr_drew (gr_drew (gr_drew HB3.out.2)) | exact gr_drew (gr_drew (gr_drew (gr_drew HB3.out.2)))⟩
                    · have HR2 : Hid (fb64 (e2 - 1) v = (asm64 0 2047, true)) := Lib.hid (fb64_inf2 (by omega) HV2.out (by omega))
                      go_wp2_with fail
                      try
                        go_region
                        go_wp2_with fail
                      try
                        go_region
                        go_wp2_with fail
                      go_step3
                      refine ⟨_, rfl, ?_⟩
                      go_wp2_with fail
                      go_region
                      go_wp2_with fail
                      try
                        go_step3
                        go_wp2_with fail
                        go_region
                        go_wp2_with fail
                      rw [Exit.noGoto_ret]
                      go_returns
                      exact ⟨ret_fb HR2.out HF.out, by first | exact gr_drew HB3.out.2 | exact gr_drew (gr_drew HB3.out.2) | exact gr_drew (gr_drew (gr_drew HB3.out.2)) | exact gr_drew (gr_drew (gr_drew (gr_drew HB3.out.2)))⟩
                  | false =>
                    have hv2 : ¬ v = 9007199254740992 := by simpa using hv1
                    have HV2 := Lib.hid hv2
                    clear hv2
                    cases hv3 : (bits .and .u64 v 4503599627370496 == 0) with
                    | true =>
                      have HR2 : Hid (fb64 (e2 - 1) v = (asm64 v 0, false)) := Lib.hid (fb64_sub (by omega) HV2.out hv3)
                      go_wp2_with fail
                      try
                        go_region
                        go_wp2_with fail
                      try
                        go_region
                        go_wp2_with fail
                      go_step3
                      refine ⟨_, rfl, ?_⟩
                      go_wp2_with fail
                      go_region
                      go_wp2_with fail
                      try
                        go_step3
                        go_wp2_with fail
                        go_region
                        go_wp2_with fail
                      rw [Exit.noGoto_ret]
                      go_returns
                      exact ⟨ret_fb HR2.out HF.out, by first | exact gr_drew HB3.out.2 | exact gr_drew (gr_drew HB3.out.2) | exact gr_drew (gr_drew (gr_drew HB3.out.2)) | exact gr_drew (gr_drew (gr_drew (gr_drew HB3.out.2)))⟩
                    | false =>
                      have HR2 : Hid (fb64 (e2 - 1) v = (asm64 v ((e2 - 1) + 1023), false)) := Lib.hid (fb64_nor (by omega) HV2.out hv3)
                      go_wp2_with fail
                      try
                        go_region
                        go_wp2_with fail
                      try
                        go_region
                        go_wp2_with fail
                      go_step3
                      refine ⟨_, rfl, ?_⟩
                      go_wp2_with fail
                      go_region
                      go_wp2_with fail
                      try
                        go_step3
                        go_wp2_with fail
                        go_region
                        go_wp2_with fail
                      rw [Exit.noGoto_ret]
                      go_returns
                      exact ⟨ret_fb HR2.out HF.out, by first | exact gr_drew HB3.out.2 | exact gr_drew (gr_drew HB3.out.2) | exact gr_drew (gr_drew (gr_drew HB3.out.2)) | exact gr_drew (gr_drew (gr_drew (gr_drew HB3.out.2)))⟩
                · have kn := hD.out.ng
                  have HR2 : Hid (fb64 (e2 - 1) v = (asm64 0 2047, true)) := Lib.hid (fb64_inf (by omega))
                  clear hTb kq hc
                  go_wp2_with fail
                  go_region
                  go_wp2_with fail
                  go_step3
                  refine ⟨_, rfl, ?_⟩
                  go_wp2_with fail
                  go_region
                  go_wp2_with fail
                  go_step3
                  go_wp2_with fail
                  go_region
                  go_wp2_with fail
                  rw [Exit.noGoto_ret]
                  go_returns
                  exact ⟨ret_fb HR2.out HF.out, by first | exact gr_drew (gr_drew (gr_drew hb.out.2.2.2.2.2.2)) | exact gr_drew (gr_drew (gr_drew (gr_drew hb.out.2.2.2.2.2.2)))⟩
end Go.Proofs.YtdkhedefcmjjgaaGreatDoor
