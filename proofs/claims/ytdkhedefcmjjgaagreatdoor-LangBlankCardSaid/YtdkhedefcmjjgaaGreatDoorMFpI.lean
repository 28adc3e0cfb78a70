/- leftShift, walked.
Conditions: a decimal that is not nought; a shift by 1 to 60. -/
import Derived.Test.YtdkhedefcmjjgaaGreatDoorMFpE
import Derived.Deep.RegionWith
namespace Go.Proofs.YtdkhedefcmjjgaaGreatDoor
open Go.RowKit Sp
set_option linter.unusedSimpArgs false
set_option linter.unusedVariables false
theorem meet1 {A : Type} {F G : A → Prop} {P : Prop} (h1 : (∀ x, F x → G x) → P) (h2 : ∀ x, F x → G x) : P := h1 h2
theorem slice215 (D nd : Nat) (h : nd ≤ 800) (w : World) : (Instr.sliceAt 215 (.pointer (some ⟨D, 0, none⟩)) (some (.int .i64 0)) (some (.int .i64 nd)) none).run Tryz.prog w = .ok (.slice (some ⟨D, 0, none⟩) nd 800) w := by
  have hal : Tryz.prog.arrayLen 215 = 800 := by kernel_rfl
  have hel : Tryz.prog.elem 215 = 5 := by kernel_rfl
  rw [run_sliceAt_array_lh w 215 _ (by rw [hal, hel]; exact Tryz.underlying215) .i64 .i64 0 nd (by omega) (by omega) (by rw [hal]; omega), hel, Tryz.sizeOf5]
  simp [slicedAt, hal, Result.andThen, Addr.add]
set_option maxRecDepth 20000 in
set_option maxHeartbeats 4000000 in
theorem left_any (f : Nat → Nat) (nd : Nat) (dp : Int) (tr : Bool) (hS : Digs ⟨f, nd, dp, tr⟩) (hp0 : -1000000000 ≤ dp) (hp1 : dp ≤ 1000000000) (k : Nat) (hk0 : 1 ≤ k) (hk1 : k ≤ 60) (h0 : f 0 ≠ 48) (hn : 1 ≤ nd) (w : World) (D : Nat) (hT : Tabs w) (hR : ∀ R o c, w.cell? ⟨19, 0, none⟩ = some (.slice (some ⟨R, o, none⟩) 61 c) → R ≠ D) (h : DecAt w D ⟨f, nd, dp, tr⟩) :
    Calls Tryz.prog 171 #[.pointer (some ⟨D, 0, none⟩), .int .u64 k] w fun e w' => e = .returned (.tuple #[]) ∧ DecAt w' D (leftS ⟨f, nd, dp, tr⟩ k) ∧ w.grownBy w' (some D) := by
  obtain ⟨hnd, hdig⟩ := hS
  replace hnd : nd ≤ 800 := hnd
  replace hdig : ∀ i, i < nd → 48 ≤ f i ∧ f i ≤ 57 := hdig
  obtain ⟨d, c, hx, _, _, _, _, hd1, hd20, hcl, _, _⟩ := row_at hk0 hk1
  obtain ⟨R, o, cp, kl, hcp, hrow⟩ := hT.cheats
  have kd0 := (hrow k _ hx).1
  have kd1 := (hrow k _ hx).2
  rw [Nat.mul_comm] at kd0 kd1
  have hRD := hR _ _ _ kl
  have eD : Hid (dlt f nd k = if preL f nd c 0 then d - 1 else d) := Lib.hid (by simp [dlt, hx])
  have HB := Lib.hid (dlt_ok hdig h0 hn hk0 hk1)
  have H := Lib.hid h
  have HL := Lib.hid (heap_lt h)
  have HD := Lib.hid hdig
  have H0 := Lib.hid h0
  have k8 : w.cell? ⟨D, 800, none⟩ = some (.int .i64 nd) := h.nd
  have HP := Lib.hid (fun w' (h' : DecAt w' D ⟨f, nd, dp, tr⟩) => prefix_any ⟨f, nd, dp, tr⟩ hnd c (by omega) w' D h')
  clear hx hrow hT hR h hdig h0
  have hN := two_le hk0 hk1
  have hsl := slice215 D nd hnd
  cases hpre : preL f nd c 0 with
  | true =>
    rw [hpre] at eD
    obtain ⟨dl, hdl, hdl20, edl⟩ : ∃ dl : Nat, (d : Int) - 1 = (dl : Int) ∧ dl ≤ 20 ∧ Hid (dlt f nd k = dl) := ⟨d - 1, by omega, by omega, Lib.hid (by rw [eD.out]; rfl)⟩
    clear eD
    go_enter Tryz.func171, Tryz.ntmps171
    go_wp2_with fail
    apply meet1 (F := fun w2 => Below w.heap.size w w2)
    · intro key
      go_region_with (first | (go_at_call 174; refine (HP.out w.drew H.out).mono ?_; rintro e w2 ⟨rfl, hb2⟩; have HB2 := Lib.hid (((Below.refl w.heap.size w).drew).trans hb2); clear hb2) | fail)
      all_goals exact key _ HB2.out
    intro w2 hb2
    have HB2 := Lib.hid hb2
    clear hb2
    have HA := Lib.hid (show DecAt w2 D ⟨f, nd, dp, tr⟩ from (HB2.out.block _ HL.out).trans H.out)
    have k82 : w2.cell? ⟨D, 800, none⟩ = some (.int .i64 nd) := HA.out.nd
    clear k8 kl kd0 kd1 HP H hsl
    go_wp2_with fail
    go_loopw [5, 6, 7] (fun t5 t6 t7 wr => ∃ (c v n fu : Nat) (g : Nat → Nat) (tr' : Bool), t5 = .int .i64 ((c : Int) - 1) ∧ t6 = .int .i64 v ∧ t7 = .int .u64 n ∧ Hid (PL1 f nd dl k (c, v, n, g, tr') ∧ runs (stepL1 k) fu (c, v, n, g, tr') = left1 f nd k tr ∧ c ≤ fu ∧ DecAt wr D ⟨g, nd, dp, tr'⟩ ∧ w.grownBy wr (some D))) (fun t5 _ _ _ => (intOf t5 + 1).toNat)
    case atStart =>
      refine ⟨nd, nd + dl, 0, nd, f, tr, rfl, by simp, rfl, Lib.hid ⟨?_, ?_, Nat.le_refl _, HA.out, gr_below HB2.out _⟩⟩
      · have := left1_start (f := f) (nd := nd) (k := k) (tr := tr) hn
        rw [edl.out] at this
        exact this
      · unfold left1
        rw [edl.out]
    case round =>
      clear HA HB2 k82
      obtain ⟨c, v, n, fu, g, tr', rfl, rfl, rfl, hb⟩ := hrel
      have HA := Lib.hid hb.out.2.2.2.1
      have k8 : wr.cell? ⟨D, 800, none⟩ = some (.int .i64 nd) := HA.out.nd
      have k9 : wr.cell? ⟨D, 801, none⟩ = some (.int .i64 dp) := HA.out.dp
      have k11 : wr.cell? ⟨D, 803, none⟩ = some (.bool tr') := HA.out.tr
      have f8 := HA.out.free 800
      have f9 := HA.out.free 801
      have f11 := HA.out.free 803
      have hbd := hb.out.1
      have hcn : c ≤ nd := hbd.1
      have hvc : v = c + dl := hbd.2.1
      have hnb : n < 1152921504606846976 := by have := hbd.2.2.1; simp only at this; have := hN.2; omega
      clear hbd
      rcases Nat.eq_zero_or_pos c with hc0 | hc0
      · subst hc0
        have hs2 : Hid (PL2 f nd dl (v, n, g, tr')) := Lib.hid (by
          have := left2_start HD.out H0.out hn hk0 hk1 (v := v) (n := n) (f := g) (tr := tr') (by rw [edl.out]; exact hb.out.1)
          rw [edl.out] at this
          exact this)
        have hr2 : Hid (runs stepL2 20 (v, n, g, tr') = left2 f nd k tr) := Lib.hid (by
          have e : left1 f nd k tr = (0, v, n, g, tr') := by
            rw [← hb.out.2.1]
            exact runs_none (by simp [stepL1]) _
          unfold left2
          rw [e])
        clear k8 k9 k11 f8 f9 f11
        go_wp2_with fail
        go_loopw [6, 7] (fun t6 t7 wr => ∃ (v n fu : Nat) (g : Nat → Nat) (tr' : Bool), t6 = .int .i64 v ∧ t7 = .int .u64 n ∧ n < 1152921504606846976 ∧ Hid (PL2 f nd dl (v, n, g, tr') ∧ runs stepL2 fu (v, n, g, tr') = left2 f nd k tr ∧ v ≤ fu ∧ DecAt wr D ⟨g, nd, dp, tr'⟩ ∧ w.grownBy wr (some D))) (fun t6 _ _ => (intOf t6).toNat)
        case atStart => exact ⟨v, n, 20, g, tr', rfl, rfl, hnb, Lib.hid ⟨hs2.out, hr2.out, by omega, HA.out, hb.out.2.2.2.2⟩⟩
        case round =>
          clear hb HA hs2 hr2 hnb hvc
          obtain ⟨v, n, fu, g, tr', rfl, rfl, hnb, hb⟩ := hrel
          have HA := Lib.hid hb.out.2.2.2.1
          have k8 : wr.cell? ⟨D, 800, none⟩ = some (.int .i64 nd) := HA.out.nd
          have k9 : wr.cell? ⟨D, 801, none⟩ = some (.int .i64 dp) := HA.out.dp
          have f8 := HA.out.free 800
          have f9 := HA.out.free 801
          rcases Nat.eq_zero_or_pos n with hn0 | hn0
          · subst hn0
            have he : Hid (left2 f nd k tr = (v, 0, g, tr')) := Lib.hid (by
              rw [← hb.out.2.1]
              exact runs_none (by simp [stepL2]) _)
            have hS : Hid (leftS ⟨f, nd, dp, tr⟩ k = trimS ⟨g, min (nd + dl) 800, dp + dl, tr'⟩) := Lib.hid (by
              unfold leftS
              simp only
              rw [he.out, edl.out])
            rcases Nat.lt_or_ge (nd + dl) 800 with h8 | h8
            · have hm : min (nd + dl) 800 = nd + dl := by omega
              rw [hm] at hS
              have hset : Hid (DecAt ((wr.setCell ⟨D, 800, none⟩ (.int .i64 ((nd : Int) + (dl : Int)))).setCell ⟨D, 801, none⟩ (.int .i64 (dp + dl))) D ⟨g, nd + dl, dp + dl, tr'⟩) := Lib.hid (by
                have := (HA.out.setNd (nd + dl)).setDp (dp + dl)
                rw [show ((nd + dl : Nat) : Int) = (nd : Int) + (dl : Int) by simp] at this
                exact this)
              have hgr := Lib.hid (gr_put (gr_put hb.out.2.2.2.2 800 (.int .i64 ((nd : Int) + (dl : Int)))) 801 (.int .i64 (dp + dl)))
              have h8' : (nd : Int) + (dl : Int) < 800 := by omega
              clear hm
              go_wp2_with fail
              refine (trim_any ⟨g, nd + dl, dp + dl, tr'⟩ (by simp only; omega) _ _ hset.out).mono ?_
              rintro e w3 ⟨rfl, hd3, hg3⟩
              have HF : Hid (DecAt w3 D (leftS ⟨f, nd, dp, tr⟩ k) ∧ w.grownBy w3 (some D)) := Lib.hid ⟨by rw [hS.out]; exact hd3, gr_trans hgr.out hg3⟩
              clear hd3 hg3 k8 k9 f8 f9
              go_wp2_with fail
              go_returns
              exact ⟨rfl, HF.out⟩
            · have hm : min (nd + dl) 800 = 800 := by omega
              rw [hm] at hS
              have hset : Hid (DecAt (((wr.setCell ⟨D, 800, none⟩ (.int .i64 ((nd : Int) + (dl : Int)))).setCell ⟨D, 800, none⟩ (.int .i64 800)).setCell ⟨D, 801, none⟩ (.int .i64 (dp + dl))) D ⟨g, 800, dp + dl, tr'⟩) := Lib.hid (by
                have := ((HA.out.setNd (nd + dl)).setNd 800).setDp (dp + dl)
                rw [show ((nd + dl : Nat) : Int) = (nd : Int) + (dl : Int) by simp] at this
                exact this)
              have hgr := Lib.hid (gr_put (gr_put (gr_put hb.out.2.2.2.2 800 (.int .i64 ((nd : Int) + (dl : Int)))) 800 (.int .i64 800)) 801 (.int .i64 (dp + dl)))
              have h8' : 800 ≤ (nd : Int) + (dl : Int) := by omega
              clear hm
              go_wp2_with fail
              refine (trim_any ⟨g, 800, dp + dl, tr'⟩ (Nat.le_refl _) _ _ hset.out).mono ?_
              rintro e w3 ⟨rfl, hd3, hg3⟩
              have HF : Hid (DecAt w3 D (leftS ⟨f, nd, dp, tr⟩ k) ∧ w.grownBy w3 (some D)) := Lib.hid ⟨by rw [hS.out]; exact hd3, gr_trans hgr.out hg3⟩
              clear hd3 hg3 k8 k9 f8 f9
              go_wp2_with fail
              go_returns
              exact ⟨rfl, HF.out⟩
          · have hst := Lib.hid (hb.out.1.step hdl20 (show n ≠ 0 by omega))
            obtain ⟨u, rfl⟩ : ∃ u, v = u + 1 := ⟨v - 1, by have := hst.out.1; omega⟩
            have hu : u < 20 := by have := hst.out.2.1; omega
            have hru : Hid (runs stepL2 (fu - 1) (u, n / 10, upd g u (n % 10 + 48), tr') = left2 f nd k tr ∧ 1 ≤ fu) := Lib.hid (by
              have h1 := hb.out.2.1
              have h2 := hb.out.2.2.1
              obtain ⟨x, rfl⟩ : ∃ x, fu = x + 1 := ⟨fu - 1, by omega⟩
              rw [runs_some (s' := (u, n / 10, upd g u (n % 10 + 48), tr')) (by simp only [stepL2, Nat.add_sub_cancel]; rw [if_neg (by omega)])] at h1
              exact ⟨h1, by omega⟩)
            have kv : wr.cell? ⟨D, u, none⟩ = some (.int .u8 (g u)) := HA.out.dig (by omega)
            have fv := HA.out.free u
            have hset : Hid (DecAt (wr.setCell ⟨D, u, none⟩ (.int .u8 ((n : Int) - 10 * ((n : Int) / 10) + 48))) D ⟨upd g u (n % 10 + 48), nd, dp, tr'⟩) := Lib.hid (by
              rw [show (n : Int) - 10 * ((n : Int) / 10) + 48 = ((n % 10 + 48 : Nat) : Int) by omega]
              exact HA.out.setDig (by omega) _)
            have hlt : (0 : Int) < (n : Int) := by omega
            go_wp2_with fail
            exact ⟨⟨u, n / 10, fu - 1, upd g u (n % 10 + 48), tr', rfl, by simp, by omega, Lib.hid ⟨hst.out.2.2, hru.out.1, by have := hru.out.2; have := hb.out.2.2.1; omega, hset.out, gr_put hb.out.2.2.2.2 _ _⟩⟩, by simp [intOf]⟩
      · obtain ⟨b, rfl⟩ : ∃ b, c = b + 1 := ⟨c - 1, by omega⟩
        obtain ⟨u, rfl⟩ : ∃ u, v = u + 1 := ⟨v - 1, by omega⟩
        have hub : u ≤ 900 := by omega
        have hvd := Lib.hid hvc
        clear hvc
        have hgb := hb.out.1.2.2.2.1 b (by simp)
        simp only at hgb
        have hdb := HD.out b (by omega)
        obtain ⟨dd, hd9, hde⟩ : ∃ dd, dd ≤ 9 ∧ Hid (g b = dd + 48) := ⟨f b - 48, by omega, Lib.hid (by omega)⟩
        have kd : wr.cell? ⟨D, b, none⟩ = some (.int .u8 ((dd : Int) + 48)) := by
          have := HA.out.dig (i := b) (by omega)
          rw [show (⟨g, nd, dp, tr'⟩ : Ds).f b = g b from rfl, hde.out] at this
          simpa using this
        clear hgb hdb
        obtain ⟨p, hpm, hpb, hpe⟩ : ∃ p : Nat, IntKind.u64.wrap ((dd : Int) * 2 ^ k) = (p : Int) ∧ p ≤ 10376293541461622784 ∧ Hid (dd * 2 ^ k = p) := by
          have h9 : dd * 2 ^ k ≤ 9 * 2 ^ k := Nat.mul_le_mul_right _ hd9
          refine ⟨dd * 2 ^ k, ?_, by have := hN.2; omega, Lib.hid rfl⟩
          have e : (dd : Int) * 2 ^ k = ((dd * 2 ^ k : Nat) : Int) := by simp
          rw [e, IntKind.wrap_u64]
          have := hN.2
          omega
        have hst : Hid (PL1 f nd dl k (b, u, (n + p) / 10, put g u ((n + p) % 10), lost tr' u ((n + p) % 10)) ∧ runs (stepL1 k) (fu - 1) (b, u, (n + p) / 10, put g u ((n + p) % 10), lost tr' u ((n + p) % 10)) = left1 f nd k tr ∧ 1 ≤ fu) := Lib.hid ⟨by
          have := hb.out.1.step HD.out hnd hk0 (by omega)
          simp only [Nat.add_sub_cancel, hde.out, hpe.out] at this
          exact this, by
          have h1 := hb.out.2.1
          have h2 := hb.out.2.2.1
          obtain ⟨x, rfl⟩ : ∃ x, fu = x + 1 := ⟨fu - 1, by omega⟩
          rw [runs_some (s' := (b, u, (n + p) / 10, put g u ((n + p) % 10), lost tr' u ((n + p) % 10))) (by simp only [stepL1, Nat.add_sub_cancel, hde.out, hpe.out]; rw [if_neg (by omega)])] at h1
          exact ⟨h1, by omega⟩⟩
        rcases Nat.lt_or_ge u 800 with hu | hu
        · have kv : wr.cell? ⟨D, u, none⟩ = some (.int .u8 (g u)) := HA.out.dig hu
          have fv := HA.out.free u
          have hdv : (n : Int) + p - 10 * (((n : Int) + p) / 10) + 48 = (((n + p) % 10 + 48 : Nat) : Int) := by omega
          have hset : Hid (DecAt (wr.setCell ⟨D, u, none⟩ (.int .u8 ((n : Int) + p - 10 * (((n : Int) + p) / 10) + 48))) D ⟨put g u ((n + p) % 10), nd, dp, lost tr' u ((n + p) % 10)⟩) := Lib.hid (by
            rw [hdv]
            have := HA.out.setDig hu ((n + p) % 10 + 48)
            unfold put lost
            rw [if_pos hu, if_pos hu]
            exact this)
          clear hdv
          go_wp2_with fail
          exact ⟨⟨b, u, (n + p) / 10, fu - 1, put g u ((n + p) % 10), lost tr' u ((n + p) % 10), rfl, rfl, by simp, Lib.hid ⟨hst.out.1, hst.out.2.1, by have := hst.out.2.2; have := hb.out.2.2.1; omega, hset.out, gr_put hb.out.2.2.2.2 _ _⟩⟩, by simp [intOf]⟩
        · rcases Nat.eq_zero_or_pos ((n + p) % 10) with hr | hr
          · have hz : ((n : Int) + p - 10 * (((n : Int) + p) / 10) != 0) = false := by simp; omega
            have hset : Hid (DecAt wr D ⟨put g u ((n + p) % 10), nd, dp, lost tr' u ((n + p) % 10)⟩) := Lib.hid (by
              unfold put lost
              rw [if_neg (by omega), if_neg (by omega), if_pos hr]
              exact HA.out)
            clear hr
            go_wp2_with fail
            exact ⟨⟨b, u, (n + p) / 10, fu - 1, put g u ((n + p) % 10), lost tr' u ((n + p) % 10), rfl, rfl, by simp, Lib.hid ⟨hst.out.1, hst.out.2.1, by have := hst.out.2.2; have := hb.out.2.2.1; omega, hset.out, hb.out.2.2.2.2⟩⟩, by simp [intOf]⟩
          · have hz : ((n : Int) + p - 10 * (((n : Int) + p) / 10) != 0) = true := by simp; omega
            have hset : Hid (DecAt (wr.setCell ⟨D, 803, none⟩ (.bool true)) D ⟨put g u ((n + p) % 10), nd, dp, lost tr' u ((n + p) % 10)⟩) := Lib.hid (by
              unfold put lost
              rw [if_neg (by omega), if_neg (by omega), if_neg (by omega)]
              exact HA.out.setTr true)
            clear hr
            go_wp2_with fail
            exact ⟨⟨b, u, (n + p) / 10, fu - 1, put g u ((n + p) % 10), lost tr' u ((n + p) % 10), rfl, rfl, by simp, Lib.hid ⟨hst.out.1, hst.out.2.1, by have := hst.out.2.2; have := hb.out.2.2.1; omega, hset.out, gr_put hb.out.2.2.2.2 _ _⟩⟩, by simp [intOf]⟩
  | false =>
    rw [hpre] at eD
    have hdl20 := hd20
    have edl : Hid (dlt f nd k = d) := Lib.hid (by rw [eD.out]; rfl)
    clear eD hd20
    generalize d = dl at *
    go_enter Tryz.func171, Tryz.ntmps171
    go_wp2_with fail
    apply meet1 (F := fun w2 => Below w.heap.size w w2)
    · intro key
      go_region_with (first | (go_at_call 174; refine (HP.out w.drew H.out).mono ?_; rintro e w2 ⟨rfl, hb2⟩; have HB2 := Lib.hid (((Below.refl w.heap.size w).drew).trans hb2); clear hb2) | fail)
      all_goals exact key _ HB2.out
    intro w2 hb2
    have HB2 := Lib.hid hb2
    clear hb2
    have HA := Lib.hid (show DecAt w2 D ⟨f, nd, dp, tr⟩ from (HB2.out.block _ HL.out).trans H.out)
    have k82 : w2.cell? ⟨D, 800, none⟩ = some (.int .i64 nd) := HA.out.nd
    clear k8 kl kd0 kd1 HP H hsl
    go_wp2_with fail
    go_loopw [5, 6, 7] (fun t5 t6 t7 wr => ∃ (c v n fu : Nat) (g : Nat → Nat) (tr' : Bool), t5 = .int .i64 ((c : Int) - 1) ∧ t6 = .int .i64 v ∧ t7 = .int .u64 n ∧ Hid (PL1 f nd dl k (c, v, n, g, tr') ∧ runs (stepL1 k) fu (c, v, n, g, tr') = left1 f nd k tr ∧ c ≤ fu ∧ DecAt wr D ⟨g, nd, dp, tr'⟩ ∧ w.grownBy wr (some D))) (fun t5 _ _ _ => (intOf t5 + 1).toNat)
    case atStart =>
      refine ⟨nd, nd + dl, 0, nd, f, tr, rfl, by simp, rfl, Lib.hid ⟨?_, ?_, Nat.le_refl _, HA.out, gr_below HB2.out _⟩⟩
      · have := left1_start (f := f) (nd := nd) (k := k) (tr := tr) hn
        rw [edl.out] at this
        exact this
      · unfold left1
        rw [edl.out]
    case round =>
      clear HA HB2 k82
      obtain ⟨c, v, n, fu, g, tr', rfl, rfl, rfl, hb⟩ := hrel
      have HA := Lib.hid hb.out.2.2.2.1
      have k8 : wr.cell? ⟨D, 800, none⟩ = some (.int .i64 nd) := HA.out.nd
      have k9 : wr.cell? ⟨D, 801, none⟩ = some (.int .i64 dp) := HA.out.dp
      have k11 : wr.cell? ⟨D, 803, none⟩ = some (.bool tr') := HA.out.tr
      have f8 := HA.out.free 800
      have f9 := HA.out.free 801
      have f11 := HA.out.free 803
      have hbd := hb.out.1
      have hcn : c ≤ nd := hbd.1
      have hvc : v = c + dl := hbd.2.1
      have hnb : n < 1152921504606846976 := by have := hbd.2.2.1; simp only at this; have := hN.2; omega
      clear hbd
      rcases Nat.eq_zero_or_pos c with hc0 | hc0
      · subst hc0
        have hs2 : Hid (PL2 f nd dl (v, n, g, tr')) := Lib.hid (by
          have := left2_start HD.out H0.out hn hk0 hk1 (v := v) (n := n) (f := g) (tr := tr') (by rw [edl.out]; exact hb.out.1)
          rw [edl.out] at this
          exact this)
        have hr2 : Hid (runs stepL2 20 (v, n, g, tr') = left2 f nd k tr) := Lib.hid (by
          have e : left1 f nd k tr = (0, v, n, g, tr') := by
            rw [← hb.out.2.1]
            exact runs_none (by simp [stepL1]) _
          unfold left2
          rw [e])
        clear k8 k9 k11 f8 f9 f11
        go_wp2_with fail
        go_loopw [6, 7] (fun t6 t7 wr => ∃ (v n fu : Nat) (g : Nat → Nat) (tr' : Bool), t6 = .int .i64 v ∧ t7 = .int .u64 n ∧ n < 1152921504606846976 ∧ Hid (PL2 f nd dl (v, n, g, tr') ∧ runs stepL2 fu (v, n, g, tr') = left2 f nd k tr ∧ v ≤ fu ∧ DecAt wr D ⟨g, nd, dp, tr'⟩ ∧ w.grownBy wr (some D))) (fun t6 _ _ => (intOf t6).toNat)
        case atStart => exact ⟨v, n, 20, g, tr', rfl, rfl, hnb, Lib.hid ⟨hs2.out, hr2.out, by omega, HA.out, hb.out.2.2.2.2⟩⟩
        case round =>
          clear hb HA hs2 hr2 hnb hvc
          obtain ⟨v, n, fu, g, tr', rfl, rfl, hnb, hb⟩ := hrel
          have HA := Lib.hid hb.out.2.2.2.1
          have k8 : wr.cell? ⟨D, 800, none⟩ = some (.int .i64 nd) := HA.out.nd
          have k9 : wr.cell? ⟨D, 801, none⟩ = some (.int .i64 dp) := HA.out.dp
          have f8 := HA.out.free 800
          have f9 := HA.out.free 801
          rcases Nat.eq_zero_or_pos n with hn0 | hn0
          · subst hn0
            have he : Hid (left2 f nd k tr = (v, 0, g, tr')) := Lib.hid (by
              rw [← hb.out.2.1]
              exact runs_none (by simp [stepL2]) _)
            have hS : Hid (leftS ⟨f, nd, dp, tr⟩ k = trimS ⟨g, min (nd + dl) 800, dp + dl, tr'⟩) := Lib.hid (by
              unfold leftS
              simp only
              rw [he.out, edl.out])
            rcases Nat.lt_or_ge (nd + dl) 800 with h8 | h8
            · have hm : min (nd + dl) 800 = nd + dl := by omega
              rw [hm] at hS
              have hset : Hid (DecAt ((wr.setCell ⟨D, 800, none⟩ (.int .i64 ((nd : Int) + (dl : Int)))).setCell ⟨D, 801, none⟩ (.int .i64 (dp + dl))) D ⟨g, nd + dl, dp + dl, tr'⟩) := Lib.hid (by
                have := (HA.out.setNd (nd + dl)).setDp (dp + dl)
                rw [show ((nd + dl : Nat) : Int) = (nd : Int) + (dl : Int) by simp] at this
                exact this)
              have hgr := Lib.hid (gr_put (gr_put hb.out.2.2.2.2 800 (.int .i64 ((nd : Int) + (dl : Int)))) 801 (.int .i64 (dp + dl)))
              have h8' : (nd : Int) + (dl : Int) < 800 := by omega
              clear hm
              go_wp2_with fail
              refine (trim_any ⟨g, nd + dl, dp + dl, tr'⟩ (by simp only; omega) _ _ hset.out).mono ?_
              rintro e w3 ⟨rfl, hd3, hg3⟩
              have HF : Hid (DecAt w3 D (leftS ⟨f, nd, dp, tr⟩ k) ∧ w.grownBy w3 (some D)) := Lib.hid ⟨by rw [hS.out]; exact hd3, gr_trans hgr.out hg3⟩
              clear hd3 hg3 k8 k9 f8 f9
              go_wp2_with fail
              go_returns
              exact ⟨rfl, HF.out⟩
            · have hm : min (nd + dl) 800 = 800 := by omega
              rw [hm] at hS
              have hset : Hid (DecAt (((wr.setCell ⟨D, 800, none⟩ (.int .i64 ((nd : Int) + (dl : Int)))).setCell ⟨D, 800, none⟩ (.int .i64 800)).setCell ⟨D, 801, none⟩ (.int .i64 (dp + dl))) D ⟨g, 800, dp + dl, tr'⟩) := Lib.hid (by
                have := ((HA.out.setNd (nd + dl)).setNd 800).setDp (dp + dl)
                rw [show ((nd + dl : Nat) : Int) = (nd : Int) + (dl : Int) by simp] at this
                exact this)
              have hgr := Lib.hid (gr_put (gr_put (gr_put hb.out.2.2.2.2 800 (.int .i64 ((nd : Int) + (dl : Int)))) 800 (.int .i64 800)) 801 (.int .i64 (dp + dl)))
              have h8' : 800 ≤ (nd : Int) + (dl : Int) := by omega
              clear hm
              go_wp2_with fail
              refine (trim_any ⟨g, 800, dp + dl, tr'⟩ (Nat.le_refl _) _ _ hset.out).mono ?_
              rintro e w3 ⟨rfl, hd3, hg3⟩
              have HF : Hid (DecAt w3 D (leftS ⟨f, nd, dp, tr⟩ k) ∧ w.grownBy w3 (some D)) := Lib.hid ⟨by rw [hS.out]; exact hd3, gr_trans hgr.out hg3⟩
              clear hd3 hg3 k8 k9 f8 f9
              go_wp2_with fail
              go_returns
              exact ⟨rfl, HF.out⟩
          · have hst := Lib.hid (hb.out.1.step hdl20 (show n ≠ 0 by omega))
            obtain ⟨u, rfl⟩ : ∃ u, v = u + 1 := ⟨v - 1, by have := hst.out.1; omega⟩
            have hu : u < 20 := by have := hst.out.2.1; omega
            have hru : Hid (runs stepL2 (fu - 1) (u, n / 10, upd g u (n % 10 + 48), tr') = left2 f nd k tr ∧ 1 ≤ fu) := Lib.hid (by
              have h1 := hb.out.2.1
              have h2 := hb.out.2.2.1
              obtain ⟨x, rfl⟩ : ∃ x, fu = x + 1 := ⟨fu - 1, by omega⟩
              rw [runs_some (s' := (u, n / 10, upd g u (n % 10 + 48), tr')) (by simp only [stepL2, Nat.add_sub_cancel]; rw [if_neg (by omega)])] at h1
              exact ⟨h1, by omega⟩)
            have kv : wr.cell? ⟨D, u, none⟩ = some (.int .u8 (g u)) := HA.out.dig (by omega)
            have fv := HA.out.free u
            have hset : Hid (DecAt (wr.setCell ⟨D, u, none⟩ (.int .u8 ((n : Int) - 10 * ((n : Int) / 10) + 48))) D ⟨upd g u (n % 10 + 48), nd, dp, tr'⟩) := Lib.hid (by
              rw [show (n : Int) - 10 * ((n : Int) / 10) + 48 = ((n % 10 + 48 : Nat) : Int) by omega]
              exact HA.out.setDig (by omega) _)
            have hlt : (0 : Int) < (n : Int) := by omega
            go_wp2_with fail
            exact ⟨⟨u, n / 10, fu - 1, upd g u (n % 10 + 48), tr', rfl, by simp, by omega, Lib.hid ⟨hst.out.2.2, hru.out.1, by have := hru.out.2; have := hb.out.2.2.1; omega, hset.out, gr_put hb.out.2.2.2.2 _ _⟩⟩, by simp [intOf]⟩
      · obtain ⟨b, rfl⟩ : ∃ b, c = b + 1 := ⟨c - 1, by omega⟩
        obtain ⟨u, rfl⟩ : ∃ u, v = u + 1 := ⟨v - 1, by omega⟩
        have hub : u ≤ 900 := by omega
        have hvd := Lib.hid hvc
        clear hvc
        have hgb := hb.out.1.2.2.2.1 b (by simp)
        simp only at hgb
        have hdb := HD.out b (by omega)
        obtain ⟨dd, hd9, hde⟩ : ∃ dd, dd ≤ 9 ∧ Hid (g b = dd + 48) := ⟨f b - 48, by omega, Lib.hid (by omega)⟩
        have kd : wr.cell? ⟨D, b, none⟩ = some (.int .u8 ((dd : Int) + 48)) := by
          have := HA.out.dig (i := b) (by omega)
          rw [show (⟨g, nd, dp, tr'⟩ : Ds).f b = g b from rfl, hde.out] at this
          simpa using this
        clear hgb hdb
        obtain ⟨p, hpm, hpb, hpe⟩ : ∃ p : Nat, IntKind.u64.wrap ((dd : Int) * 2 ^ k) = (p : Int) ∧ p ≤ 10376293541461622784 ∧ Hid (dd * 2 ^ k = p) := by
          have h9 : dd * 2 ^ k ≤ 9 * 2 ^ k := Nat.mul_le_mul_right _ hd9
          refine ⟨dd * 2 ^ k, ?_, by have := hN.2; omega, Lib.hid rfl⟩
          have e : (dd : Int) * 2 ^ k = ((dd * 2 ^ k : Nat) : Int) := by simp
          rw [e, IntKind.wrap_u64]
          have := hN.2
          omega
        have hst : Hid (PL1 f nd dl k (b, u, (n + p) / 10, put g u ((n + p) % 10), lost tr' u ((n + p) % 10)) ∧ runs (stepL1 k) (fu - 1) (b, u, (n + p) / 10, put g u ((n + p) % 10), lost tr' u ((n + p) % 10)) = left1 f nd k tr ∧ 1 ≤ fu) := Lib.hid ⟨by
          have := hb.out.1.step HD.out hnd hk0 (by omega)
          simp only [Nat.add_sub_cancel, hde.out, hpe.out] at this
          exact this, by
          have h1 := hb.out.2.1
          have h2 := hb.out.2.2.1
          obtain ⟨x, rfl⟩ : ∃ x, fu = x + 1 := ⟨fu - 1, by omega⟩
          rw [runs_some (s' := (b, u, (n + p) / 10, put g u ((n + p) % 10), lost tr' u ((n + p) % 10))) (by simp only [stepL1, Nat.add_sub_cancel, hde.out, hpe.out]; rw [if_neg (by omega)])] at h1
          exact ⟨h1, by omega⟩⟩
        rcases Nat.lt_or_ge u 800 with hu | hu
        · have kv : wr.cell? ⟨D, u, none⟩ = some (.int .u8 (g u)) := HA.out.dig hu
          have fv := HA.out.free u
          have hdv : (n : Int) + p - 10 * (((n : Int) + p) / 10) + 48 = (((n + p) % 10 + 48 : Nat) : Int) := by omega
          have hset : Hid (DecAt (wr.setCell ⟨D, u, none⟩ (.int .u8 ((n : Int) + p - 10 * (((n : Int) + p) / 10) + 48))) D ⟨put g u ((n + p) % 10), nd, dp, lost tr' u ((n + p) % 10)⟩) := Lib.hid (by
            rw [hdv]
            have := HA.out.setDig hu ((n + p) % 10 + 48)
            unfold put lost
            rw [if_pos hu, if_pos hu]
            exact this)
          clear hdv
          go_wp2_with fail
          exact ⟨⟨b, u, (n + p) / 10, fu - 1, put g u ((n + p) % 10), lost tr' u ((n + p) % 10), rfl, rfl, by simp, Lib.hid ⟨hst.out.1, hst.out.2.1, by have := hst.out.2.2; have := hb.out.2.2.1; omega, hset.out, gr_put hb.out.2.2.2.2 _ _⟩⟩, by simp [intOf]⟩
        · rcases Nat.eq_zero_or_pos ((n + p) % 10) with hr | hr
          · have hz : ((n : Int) + p - 10 * (((n : Int) + p) / 10) != 0) = false := by simp; omega
            have hset : Hid (DecAt wr D ⟨put g u ((n + p) % 10), nd, dp, lost tr' u ((n + p) % 10)⟩) := Lib.hid (by
              unfold put lost
              rw [if_neg (by omega), if_neg (by omega), if_pos hr]
              exact HA.out)
            clear hr
            go_wp2_with fail
            exact ⟨⟨b, u, (n + p) / 10, fu - 1, put g u ((n + p) % 10), lost tr' u ((n + p) % 10), rfl, rfl, by simp, Lib.hid ⟨hst.out.1, hst.out.2.1, by have := hst.out.2.2; have := hb.out.2.2.1; omega, hset.out, hb.out.2.2.2.2⟩⟩, by simp [intOf]⟩
          · have hz : ((n : Int) + p - 10 * (((n : Int) + p) / 10) != 0) = true := by simp; omega
            have hset : Hid (DecAt (wr.setCell ⟨D, 803, none⟩ (.bool true)) D ⟨put g u ((n + p) % 10), nd, dp, lost tr' u ((n + p) % 10)⟩) := Lib.hid (by
              unfold put lost
              rw [if_neg (by omega), if_neg (by omega), if_neg (by omega)]
              exact HA.out.setTr true)
            clear hr
            go_wp2_with fail
            exact ⟨⟨b, u, (n + p) / 10, fu - 1, put g u ((n + p) % 10), lost tr' u ((n + p) % 10), rfl, rfl, by simp, Lib.hid ⟨hst.out.1, hst.out.2.1, by have := hst.out.2.2; have := hb.out.2.2.1; omega, hset.out, gr_put hb.out.2.2.2.2 _ _⟩⟩, by simp [intOf]⟩
end Go.Proofs.YtdkhedefcmjjgaaGreatDoor
/- Shift, walked.
Conditions: a decimal that is not nought. -/
namespace Go.Proofs.YtdkhedefcmjjgaaGreatDoor
open Go.RowKit Sp
set_option linter.unusedSimpArgs false
set_option linter.unusedVariables false
def shL : Nat → Ds → Nat → Ds
  | 0, S, k => leftS S k
  | fu + 1, S, k => if 60 < k then shL fu (leftS S 60) (k - 60) else leftS S k
def shR : Nat → Ds → Nat → Ds
  | 0, S, k => rightS S k
  | fu + 1, S, k => if 60 < k then shR fu (rightS S 60) (k - 60) else rightS S k
/-- The tables lie apart from the decimal's block. -/
def Apart (w : World) (D : Nat) : Prop := ∃ w0 : World, Tabs w0 ∧ Below w0.heap.size w0 w ∧ w0.heap.size ≤ D
theorem Apart.tabs {w : World} {D : Nat} (h : Apart w D) : Tabs w := let ⟨_, hT, hb, _⟩ := h; hT.old hb
theorem Apart.hR {w : World} {D : Nat} (h : Apart w D) : ∀ R o c, w.cell? ⟨19, 0, none⟩ = some (.slice (some ⟨R, o, none⟩) 61 c) → R ≠ D := by
  obtain ⟨w0, hT, hb, hD⟩ := h
  intro R o c hc
  obtain ⟨R', o', c', k1, k2, k3⟩ := hT.cheats
  have e := (cell_old hb k1).symm.trans hc
  simp only [Option.some.injEq, Value.slice.injEq, Addr.mk.injEq] at e
  obtain ⟨d, x, hx, _⟩ := row_at (k := 1) (by omega) (by omega)
  have := World.block_lt_of_cell? w0 _ (k3 1 _ hx).1
  simp only at this
  omega
theorem Apart.grown {w w' : World} {D : Nat} (h : Apart w D) (hg : w.grownBy w' (some D)) : Apart w' D := by
  obtain ⟨w0, hT, hb, hD⟩ := h
  exact ⟨w0, hT, hb.grown hg hb.size (fun j e => by injection e with e; omega), hD⟩
theorem Apart.drew {w : World} {D : Nat} (h : Apart w D) : Apart w.drew D := let ⟨w0, a, b, c⟩ := h; ⟨w0, a, b.drew, c⟩
theorem shL_good : ∀ (fu : Nat) {S : Ds} (hS : Good S) {k : Nat} (hk : 1 ≤ k) (hf : k ≤ 60 * (fu + 1)), Good (shL fu S k) ∧ S.dp ≤ (shL fu S k).dp ∧ (shL fu S k).dp ≤ S.dp + 20 * (fu + 1) ∧ (k ≤ 60 → S.dp < (shL fu S k).dp ∨ S.f 0 < (shL fu S k).f 0)
  | 0, S, hS, k, hk, hf => by
    obtain ⟨a, b, c, d⟩ := left_good hS hk (by omega)
    exact ⟨a, b, by simp only [shL]; omega, fun _ => d⟩
  | fu + 1, S, hS, k, hk, hf => by
    simp only [shL]
    split
    · obtain ⟨a, b, c, d⟩ := left_good hS (k := 60) (by omega) (by omega)
      obtain ⟨a', b', c', d'⟩ := shL_good fu a (k := k - 60) (by omega) (by omega)
      exact ⟨a', by omega, by omega, fun h => by omega⟩
    · obtain ⟨a, b, c, d⟩ := left_good hS hk (by omega)
      exact ⟨a, b, by omega, fun _ => d⟩
theorem shR_good : ∀ (fu : Nat) {S : Ds} (hS : Good S) {k : Nat} (hk : 1 ≤ k) (hf : k ≤ 60 * (fu + 1)), Good (shR fu S k) ∧ (shR fu S k).dp ≤ S.dp ∧ S.dp - 64 * (fu + 1) ≤ (shR fu S k).dp ∧ (k ≤ 60 → (shR fu S k).dp < S.dp ∨ (shR fu S k).f 0 < S.f 0)
  | 0, S, hS, k, hk, hf => by
    obtain ⟨a, b, c, d⟩ := right_good hS hk (by omega)
    exact ⟨a, b, by simp only [shR]; omega, fun _ => d⟩
  | fu + 1, S, hS, k, hk, hf => by
    simp only [shR]
    split
    · obtain ⟨a, b, c, d⟩ := right_good hS (k := 60) (by omega) (by omega)
      obtain ⟨a', b', c', d'⟩ := shR_good fu a (k := k - 60) (by omega) (by omega)
      exact ⟨a', by omega, by omega, fun h => by omega⟩
    · obtain ⟨a, b, c, d⟩ := right_good hS hk (by omega)
      exact ⟨a, b, by omega, fun _ => d⟩
@[irreducible] def shLS (S : Ds) (k : Nat) : Ds := shL 10000 S k
theorem shLS_eq (S : Ds) (k : Nat) : shL 10000 S k = shLS S k := by unfold shLS; rfl
theorem shL_far (x : Nat) (T : Ds) (k : Nat) (h : 60 < k) : shL (x + 1) T k = shL x (leftS T 60) (k - 60) := by rw [shL, if_pos h]
theorem shL_near (fu : Nat) (T : Ds) (k : Nat) (h : ¬ 60 < k) : shL fu T k = leftS T k := by cases fu with | zero => rfl | succ fu => rw [shL, if_neg h]
@[irreducible] def shRS (S : Ds) (k : Nat) : Ds := shR 10000 S k
theorem shRS_eq (S : Ds) (k : Nat) : shR 10000 S k = shRS S k := by unfold shRS; rfl
theorem shR_far (x : Nat) (T : Ds) (k : Nat) (h : 60 < k) : shR (x + 1) T k = shR x (rightS T 60) (k - 60) := by rw [shR, if_pos h]
theorem shR_near (fu : Nat) (T : Ds) (k : Nat) (h : ¬ 60 < k) : shR fu T k = rightS T k := by cases fu with | zero => rfl | succ fu => rw [shR, if_neg h]
set_option maxHeartbeats 2000000 in
theorem shiftL_any (S : Ds) (hS : Good S) (hp0 : -10000000 ≤ S.dp) (hp1 : S.dp ≤ 100000) (k : Nat) (hk0 : 1 ≤ k) (hk1 : k ≤ 600000) (w : World) (D : Nat) (hA : Apart w D) (h : DecAt w D S) :
    Calls Tryz.prog 167 #[.pointer (some ⟨D, 0, none⟩), .int .i64 k] w fun e w' => e = .returned (.tuple #[]) ∧ DecAt w' D (shLS S k) ∧ w.grownBy w' (some D) := by
  have H := Lib.hid h
  have HS := Lib.hid hS
  have HA := Lib.hid hA
  have k8 : w.cell? ⟨D, 800, none⟩ = some (.int .i64 S.nd) := h.nd
  have hn1 : 1 ≤ S.nd := hS.2.1
  have hdp := Lib.hid (And.intro hp0 hp1)
  clear h hS hA hp0 hp1
  go_enter Tryz.func167, Tryz.ntmps167
  go_wp2_with fail
  generalize ((S.nd : Int) == 0) = z1
  generalize decide (0 < k) = z2
  go_loopw [1] (fun t1 wr => ∃ (k2 fu : Nat) (T : Ds), t1 = .int .i64 (k2 : Int) ∧ 1 ≤ k2 ∧ k2 ≤ 600000 ∧ Hid (Good T ∧ T.dp ≤ 100000 + 20 * (10000 - fu : Int) ∧ -10000000 ≤ T.dp ∧ k2 ≤ 60 * (fu + 1) ∧ fu ≤ 10000) ∧ Hid (shL fu T k2 = shLS S k ∧ DecAt wr D T ∧ w.grownBy wr (some D))) (fun t1 _ => (intOf t1).toNat)
  case atStart => exact ⟨k, 10000, S, rfl, hk0, hk1, Lib.hid ⟨HS.out, by have := hdp.out; omega, by have := hdp.out; omega, by omega, Nat.le_refl _⟩, Lib.hid ⟨shLS_eq _ _, H.out, gr_refl _ _⟩⟩
  case round =>
    clear H HS k8 hn1 hdp hk0 hk1
    obtain ⟨k2, fu, T, rfl, hk0, hk1, hT, hb⟩ := hrel
    have hlim := hT.out.2
    obtain ⟨hl1, hl2, hl3, hl4⟩ := hlim
    rcases Nat.lt_or_ge 60 k2 with h60 | h60
    · obtain ⟨x, rfl⟩ : ∃ x, fu = x + 1 := ⟨fu - 1, by omega⟩
      have hgood := Lib.hid (left_good hT.out.1 (k := 60) (by omega) (by omega))
      have hsh : Hid (shL x (leftS T 60) (k2 - 60) = shLS S k) := Lib.hid (by
        have h1 := hb.out.1
        rw [shL_far _ _ _ h60] at h1
        exact h1)
      have HC := Lib.hid (left_any T.f T.nd T.dp T.tr hT.out.1.1 (by omega) (by omega) 60 (by omega) (by omega) hT.out.1.2.2 hT.out.1.2.1 _ D (HA.out.grown hb.out.2.2).tabs (HA.out.grown hb.out.2.2).hR hb.out.2.1)
      have HL4 := Lib.hid (And.intro hl1 (And.intro hl2 (And.intro hl3 (And.intro hl4 hgood.out.2))))
      clear hl1 hl2 hl3 hl4
      go_wp2_with fail
      refine HC.out.mono ?_
      rintro e w2 ⟨rfl, hd2, hg2⟩
      have HB2 : Hid (DecAt w2 D (leftS T 60) ∧ w.grownBy w2 (some D)) := Lib.hid ⟨hd2, gr_trans hb.out.2.2 hg2⟩
      clear hd2 hg2 HC
      go_wp2_with fail
      go_roundw
      case rel =>
        have hl := HL4.out
        exact ⟨k2 - 60, x, leftS T 60, by congr 1; omega, by omega, by omega, Lib.hid ⟨hgood.out.1, by omega, by omega, by omega, by omega⟩, Lib.hid ⟨hsh.out, HB2.out⟩⟩
      case measure =>
        simp [intOf]
        omega
    · clear hl3 hl4
      have hsh : Hid (shLS S k = leftS T k2) := Lib.hid (by
        rw [← hb.out.1]
        exact shL_near _ _ _ (by omega))
      have HC := Lib.hid (left_any T.f T.nd T.dp T.tr hT.out.1.1 (by omega) (by omega) k2 (by omega) (by omega) hT.out.1.2.2 hT.out.1.2.1 _ D (HA.out.grown hb.out.2.2).tabs (HA.out.grown hb.out.2.2).hR hb.out.2.1)
      go_wp2_with fail
      refine HC.out.mono ?_
      rintro e w2 ⟨rfl, hd2, hg2⟩
      have HB2 : Hid (DecAt w2 D (shLS S k) ∧ w.grownBy w2 (some D)) := Lib.hid ⟨by rw [hsh.out]; exact hd2, gr_trans hb.out.2.2 hg2⟩
      clear hd2 hg2 HC
      go_wp2_with fail
      go_returns
      exact ⟨rfl, HB2.out⟩
set_option maxHeartbeats 2000000 in
theorem shiftR_any (S : Ds) (hS : Good S) (hp0 : -100000 ≤ S.dp) (hp1 : S.dp ≤ 100000) (k : Nat) (hk0 : 1 ≤ k) (hk1 : k ≤ 600000) (w : World) (D : Nat) (hA : Apart w D) (h : DecAt w D S) :
    Calls Tryz.prog 167 #[.pointer (some ⟨D, 0, none⟩), .int .i64 (-(k : Int))] w fun e w' => e = .returned (.tuple #[]) ∧ DecAt w' D (shRS S k) ∧ w.grownBy w' (some D) := by
  have H := Lib.hid h
  have HS := Lib.hid hS
  have HA := Lib.hid hA
  have k8 : w.cell? ⟨D, 800, none⟩ = some (.int .i64 S.nd) := h.nd
  have hn1 : 1 ≤ S.nd := hS.2.1
  have hdp := Lib.hid (And.intro hp0 hp1)
  clear h hS hA hp0 hp1
  go_enter Tryz.func167, Tryz.ntmps167
  go_wp2_with fail
  generalize ((S.nd : Int) == 0) = z1
  generalize decide ((k : Int) < 0) = z2
  generalize decide (0 < k) = z3
  go_loopw [1] (fun t1 wr => ∃ (k2 fu : Nat) (T : Ds), t1 = .int .i64 (-(k2 : Int)) ∧ 1 ≤ k2 ∧ k2 ≤ 600000 ∧ Hid (Good T ∧ -100000 - 64 * (10000 - fu : Int) ≤ T.dp ∧ T.dp ≤ 100000 ∧ k2 ≤ 60 * (fu + 1) ∧ fu ≤ 10000) ∧ Hid (shR fu T k2 = shRS S k ∧ DecAt wr D T ∧ w.grownBy wr (some D))) (fun t1 _ => (-(intOf t1)).toNat)
  case atStart => exact ⟨k, 10000, S, rfl, hk0, hk1, Lib.hid ⟨HS.out, by have := hdp.out; omega, by have := hdp.out; omega, by omega, Nat.le_refl _⟩, Lib.hid ⟨shRS_eq _ _, H.out, gr_refl _ _⟩⟩
  case round =>
    clear H HS k8 hn1 hdp hk0 hk1
    obtain ⟨k2, fu, T, rfl, hk0, hk1, hT, hb⟩ := hrel
    have hlim := hT.out.2
    obtain ⟨hl1, hl2, hl3, hl4⟩ := hlim
    rcases Nat.lt_or_ge 60 k2 with h60 | h60
    · obtain ⟨x, rfl⟩ : ∃ x, fu = x + 1 := ⟨fu - 1, by omega⟩
      have hgood := Lib.hid (right_good hT.out.1 (k := 60) (by omega) (by omega))
      have hsh : Hid (shR x (rightS T 60) (k2 - 60) = shRS S k) := Lib.hid (by
        have h1 := hb.out.1
        rw [shR_far _ _ _ h60] at h1
        exact h1)
      have HC := Lib.hid (right_any T.f T.nd T.dp T.tr hT.out.1.1 (by omega) (by omega) 60 (by omega) (by omega) hT.out.1.2.2 hT.out.1.2.1 _ D hb.out.2.1)
      have HL4 := Lib.hid (And.intro hl1 (And.intro hl2 (And.intro hl3 (And.intro hl4 hgood.out.2))))
      clear hl1 hl2 hl3 hl4
      go_wp2_with fail
      refine HC.out.mono ?_
      rintro e w2 ⟨rfl, hd2, hg2⟩
      have HB2 : Hid (DecAt w2 D (rightS T 60) ∧ w.grownBy w2 (some D)) := Lib.hid ⟨hd2, gr_trans hb.out.2.2 hg2⟩
      clear hd2 hg2 HC
      go_wp2_with fail
      go_roundw
      case rel =>
        have hl := HL4.out
        exact ⟨k2 - 60, x, rightS T 60, by congr 1; omega, by omega, by omega, Lib.hid ⟨hgood.out.1, by omega, by omega, by omega, by omega⟩, Lib.hid ⟨hsh.out, HB2.out⟩⟩
      case measure =>
        simp [intOf]
        omega
    · clear hl3 hl4
      have hsh : Hid (shRS S k = rightS T k2) := Lib.hid (by
        rw [← hb.out.1]
        exact shR_near _ _ _ (by omega))
      have HC := Lib.hid (right_any T.f T.nd T.dp T.tr hT.out.1.1 (by omega) (by omega) k2 (by omega) (by omega) hT.out.1.2.2 hT.out.1.2.1 _ D hb.out.2.1)
      go_wp2_with fail
      refine HC.out.mono ?_
      rintro e w2 ⟨rfl, hd2, hg2⟩
      have HB2 : Hid (DecAt w2 D (shRS S k) ∧ w.grownBy w2 (some D)) := Lib.hid ⟨by rw [hsh.out]; exact hd2, gr_trans hb.out.2.2 hg2⟩
      clear hd2 hg2 HC
      go_wp2_with fail
      go_returns
      exact ⟨rfl, HB2.out⟩
end Go.Proofs.YtdkhedefcmjjgaaGreatDoor
