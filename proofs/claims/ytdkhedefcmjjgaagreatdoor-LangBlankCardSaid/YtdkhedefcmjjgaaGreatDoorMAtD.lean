/- atof64, walked.
Conditions: the text has a decimal number's form, and at most 40 bytes. -/
import Derived.Test.YtdkhedefcmjjgaaGreatDoorMRfE
import Derived.Test.YtdkhedefcmjjgaaGreatDoorMStE
import Derived.Test.YtdkhedefcmjjgaaGreatDoorMFpA
import Derived.Test.YtdkhedefcmjjgaaGreatDoorMFpQ
import Derived.Tactics2
import Derived.WalkMore
import Derived.Deep.DeepCutAuto
namespace Go.Proofs.YtdkhedefcmjjgaaGreatDoor
open Go.RowKit Sp
set_option linter.unusedSimpArgs false
set_option linter.unusedVariables false
/-- What is gathered of a text: bounds. -/
theorem exp_ok {s : ByteArray} {a m : Nat} (F : Form s a m) (hs : s.size ≤ 40) {ev : Int} (he0 : -999 ≤ ev) (he1 : ev ≤ 999) :
    (rfAt s m).man ≤ 9999999999999999999 ∧ -1100 ≤ expOf s a m ev ∧ expOf s a m ev ≤ 1100 ∧ ((rfAt s m).man = 0 → expOf s a m ev = 0) := by
  have h := rf_ok F m (Nat.le_refl _)
  have hm := F.ms
  have h1 := h.man
  have h2 : 10 ^ (rfAt s m).ndM ≤ 10 ^ 19 := Nat.pow_le_pow_right (by decide) h.m19
  have h3 := h.nd
  have h4 := h.dp0
  have h5 := h.dp1
  have h6 := h.m19
  refine ⟨by omega, ?_, ?_, fun h => if_pos h⟩
  · unfold expOf
    split
    · omega
    · split <;> omega
  · unfold expOf
    split
    · omega
    · split <;> omega
theorem ds_dp {s : ByteArray} {a m : Nat} (F : Form s a m) : ∀ i, i ≤ m → (dsAt s i).dp = (rfAt s i).dp
  | 0, _ => rfl
  | i + 1, hi => by
    have h := ds_dp F i (by omega)
    have hn := (ds_ok F i (by omega)).same
    show (dsStep (dsAt s i) (bt s i)).dp = (rfStep (rfAt s i) (bt s i)).dp
    unfold dsStep rfStep
    rw [hn]
    split
    · rfl
    · split
      · simp only [h]
      · split <;> exact h
/-- Where digits fell, the decimal is not nought; its point. -/
theorem set_good {s : ByteArray} {a m : Nat} (F : Form s a m) (hs : s.size ≤ 40) {ev : Int} (htr : (rfAt s m).tr = true) : Good (setS s a m ev) ∧ (setS s a m ev).dp = expOf s a m ev + 19 ∧ 1 ≤ (rfAt s m).man := by
  have h := rf_ok F m (Nat.le_refl _)
  have hd := ds_ok F m (Nat.le_refl _)
  have hp := ds_dp F m (Nat.le_refl _)
  obtain ⟨t1, t2⟩ := h.tr htr
  have h1 := h.one (by omega)
  have hsz := F.ms
  have hn := hd.same
  have hnd := hd.nd
  refine ⟨⟨⟨?_, hd.dig⟩, ?_, hd.first (by omega)⟩, ?_, h1⟩
  · show (dsAt s m).nd ≤ 800
    have : (dsAt s m).nd ≤ m := hd.nd
    exact Nat.le_trans this (by have := F.ms; omega)
  · show 1 ≤ (dsAt s m).nd
    omega
  · show (if a < m then (dsAt s m).dp else ((dsAt s m).nd : Int)) + ev = _
    unfold expOf
    have e : ¬ (rfAt s m).man = 0 := by omega
    rw [if_neg e, hp, hn, t1]
    split <;> omega
theorem zero217 : Tryz.zeroCells217 = (⟨fun _ => 0, 0, 0, false⟩ : Ds).cells := by kernel_rfl
theorem zero_at (w : World) : DecAt (w.alloc (.cells Tryz.zeroCells217 217)) w.heap.size ⟨fun _ => 0, 0, 0, false⟩ := by
  unfold DecAt
  rw [← zero217]
  exact heap_alloc_new _ _
theorem bool2_u64_f (w : World) : Calls Tryz.prog 151 #[.bool false] w fun e w' => e = .returned (.int .u64 0) ∧ w' = w := bool2_u64 false w
theorem bool2_u32_f (w : World) : Calls Tryz.prog 145 #[.bool false] w fun e w' => e = .returned (.int .u32 0) ∧ w' = w := bool2_u32 false w
set_option maxRecDepth 20000 in
set_option maxHeartbeats 16000000 in
theorem atof64_any (s : ByteArray) (a m : Nat) (F : Form s a m) (hs : s.size ≤ 40) : ∃ (v : Nat) (er : Value), (er = .nilIface ∨ er = .iface 100 (.int .i64 1)) ∧ ∀ w, Tabs w →
    Calls Tryz.prog 137 #[.string s] w fun e w' => e = .returned (.tuple #[.float .f64 v, .int .i64 s.size, er]) ∧ Below w.heap.size w w' := by
  obtain ⟨ev, hT, he0, he1⟩ := tailE F
  obtain ⟨hm19, hp0, hp1, hmz⟩ := exp_ok F hs he0 he1
  have hsg := fun h => set_good (s := s) F hs (ev := ev) h
  have HRF := Lib.hid (readFloat_any s a m F hs ev hT he0 he1)
  have HST := Lib.hid (set_any s a m F hs ev hT he0 he1)
  have HSP := Lib.hid (special_any s a m F)
  have ff := from64
  obtain ⟨d, hd⟩ : ∃ d, (rfAt s m).man = d := ⟨_, rfl⟩
  obtain ⟨p, hp⟩ : ∃ p, expOf s a m ev = p := ⟨_, rfl⟩
  obtain ⟨tr, htr⟩ : ∃ tr, (rfAt s m).tr = tr := ⟨_, rfl⟩
  obtain ⟨S, hS⟩ : ∃ S, setS s a m ev = S := ⟨_, rfl⟩
  rw [hd, hp, htr] at HRF
  rw [hS] at HST
  rw [hd, hp, htr, hS] at hsg
  rw [hd] at hm19 hmz
  rw [hp] at hp0 hp1 hmz
  clear hd hp htr hS F hT
  by_cases hd0 : d = 0
  · have hdb : ((d : Int) == 0) = true := by rw [hd0]; rfl
    clear hd0 hmz hsg HST
    apply Exists.intro
    case h =>
      refine ⟨.nilIface, .inl rfl, ?_⟩
      intro w hTb
      have ko := hTb.opt
      have HTB := Lib.hid hTb
      clear hTb
      go_enter Tryz.func137, Tryz.ntmps137
      go_wp2_with fail
      refine (HSP.out _).mono ?_
      rintro e w1 ⟨rfl, rfl⟩
      go_wp2_with fail
      refine (HRF.out _).mono ?_
      rintro e w2 ⟨rfl, hb2⟩
      have HB2 := Lib.hid hb2
      have HT2 := Lib.hid (HTB.out.old hb2)
      have ko2 := cell_old hb2 ko
      clear hb2 ko
      go_wp2_with fail
      refine (bool2_u64_f _).mono ?_
      rintro e w3 ⟨rfl, rfl⟩
      go_wp2_with fail
      go_returns
      exact ⟨rfl, HB2.out⟩
  · have hdb : ((d : Int) == 0) = false := by simp; omega
    clear hd0 hmz
    have hd1 : 1 ≤ d := by simp at hdb; omega
    rcases Int.lt_or_le 310 p with hp2 | hp2
    · clear hsg HST
      apply Exists.intro
      case h =>
        refine ⟨.iface 100 (.int .i64 1), .inr rfl, ?_⟩
        intro w hTb
        have ko := hTb.opt
        have HTB := Lib.hid hTb
        clear hTb
        go_enter Tryz.func137, Tryz.ntmps137
        go_wp2_with fail
        refine (HSP.out _).mono ?_
        rintro e w1 ⟨rfl, rfl⟩
        go_wp2_with fail
        refine (HRF.out _).mono ?_
        rintro e w2 ⟨rfl, hb2⟩
        have HB2 := Lib.hid hb2
        have HT2 := Lib.hid (HTB.out.old hb2)
        have ko2 := cell_old hb2 ko
        clear hb2 ko
        go_wp2_with fail
        refine (bool2_u64_f _).mono ?_
        rintro e w3 ⟨rfl, rfl⟩
        go_wp2_with fail
        go_returns
        exact ⟨rfl, HB2.out⟩
    · rcases Int.lt_or_le p (-345) with hp3 | hp3
      · clear hsg HST
        apply Exists.intro
        case h =>
          refine ⟨.nilIface, .inl rfl, ?_⟩
          intro w hTb
          have ko := hTb.opt
          have HTB := Lib.hid hTb
          clear hTb
          go_enter Tryz.func137, Tryz.ntmps137
          go_wp2_with fail
          refine (HSP.out _).mono ?_
          rintro e w1 ⟨rfl, rfl⟩
          go_wp2_with fail
          refine (HRF.out _).mono ?_
          rintro e w2 ⟨rfl, hb2⟩
          have HB2 := Lib.hid hb2
          have HT2 := Lib.hid (HTB.out.old hb2)
          have ko2 := cell_old hb2 ko
          clear hb2 ko
          go_wp2_with fail
          refine (bool2_u64_f _).mono ?_
          rintro e w3 ⟨rfl, rfl⟩
          go_wp2_with fail
          go_returns
          exact ⟨rfl, HB2.out⟩
      · obtain ⟨v1, er1, her1, hP1⟩ := parse64_any (d : Int) p 0 (by omega) (by omega) (by omega) (by omega)
        have HP1 := Lib.hid hP1
        clear hP1
        cases tr with
        | false =>
          clear hsg HST
          obtain ⟨v, ok, hEX⟩ := exact64_any (d : Int) p (by omega) (by omega) (by omega) (by omega)
          have HEX := Lib.hid hEX
          clear hEX
          cases ok with
          | true =>
            clear her1
            apply Exists.intro
            case h =>
              refine ⟨.nilIface, .inl rfl, ?_⟩
              intro w hTb
              have ko := hTb.opt
              have HTB := Lib.hid hTb
              clear hTb
              go_enter Tryz.func137, Tryz.ntmps137
              go_wp2_with fail
              refine (HSP.out _).mono ?_
              rintro e w1 ⟨rfl, rfl⟩
              go_wp2_with fail
              refine (HRF.out _).mono ?_
              rintro e w2 ⟨rfl, hb2⟩
              have HB2 := Lib.hid hb2
              have HT2 := Lib.hid (HTB.out.old hb2)
              have ko2 := cell_old hb2 ko
              clear hb2 ko
              go_wp2_with fail
              refine (bool2_u64_f _).mono ?_
              rintro e w3 ⟨rfl, rfl⟩
              go_wp2_with fail
              refine (HEX.out _ HT2.out).mono ?_
              rintro e w4 ⟨rfl, rfl⟩
              go_wp2_with fail
              go_returns
              exact ⟨rfl, HB2.out⟩
          | false =>
            refine ⟨v1, er1, her1, ?_⟩
            intro w hTb
            have ko := hTb.opt
            have HTB := Lib.hid hTb
            clear hTb
            go_enter Tryz.func137, Tryz.ntmps137
            go_wp2_with fail
            refine (HSP.out _).mono ?_
            rintro e w1 ⟨rfl, rfl⟩
            go_wp2_with fail
            refine (HRF.out _).mono ?_
            rintro e w2 ⟨rfl, hb2⟩
            have HB2 := Lib.hid hb2
            have HT2 := Lib.hid (HTB.out.old hb2)
            have ko2 := cell_old hb2 ko
            clear hb2 ko
            go_wp2_with fail
            refine (bool2_u64_f _).mono ?_
            rintro e w3 ⟨rfl, rfl⟩
            go_wp2_with fail
            refine (HEX.out _ HT2.out).mono ?_
            rintro e w4 ⟨rfl, rfl⟩
            go_wp2_with fail
            refine (HP1.out _ HT2.out).mono ?_
            rintro e w5 ⟨rfl, hb5⟩
            have HB5 := Lib.hid (HB2.out.trans (hb5.mono HB2.out.size))
            have HT5 := Lib.hid (HT2.out.old hb5)
            clear hb5 ko2
            go_wp2_with fail
            go_returns
            exact ⟨rfl, HB5.out⟩
        | true =>
          obtain ⟨hG, hdp, _⟩ := hsg rfl
          clear hsg
          obtain ⟨v2, er2, _, hP2⟩ := parse64_any ((d : Int) + 1) p 0 (by omega) (by omega) (by omega) (by omega)
          have HP2 := Lib.hid hP2
          clear hP2
          cases hcm : (FloatKind.f64.format.order v1 v2 == some .eq) with
          | true =>
            clear hG hdp HST
            refine ⟨v1, er1, her1, ?_⟩
            intro w hTb
            have ko := hTb.opt
            have HTB := Lib.hid hTb
            clear hTb
            go_enter Tryz.func137, Tryz.ntmps137
            go_wp2_with fail
            refine (HSP.out _).mono ?_
            rintro e w1 ⟨rfl, rfl⟩
            go_wp2_with fail
            refine (HRF.out _).mono ?_
            rintro e w2 ⟨rfl, hb2⟩
            have HB2 := Lib.hid hb2
            have HT2 := Lib.hid (HTB.out.old hb2)
            have ko2 := cell_old hb2 ko
            clear hb2 ko
            go_wp2_with fail
            refine (bool2_u64_f _).mono ?_
            rintro e w3 ⟨rfl, rfl⟩
            go_wp2_with fail
            refine (HP1.out _ HT2.out).mono ?_
            rintro e w5 ⟨rfl, hb5⟩
            have HB5 := Lib.hid (HB2.out.trans (hb5.mono HB2.out.size))
            have HT5 := Lib.hid (HT2.out.old hb5)
            clear hb5 ko2
            go_wp2_with fail
            refine (HP2.out _ HT5.out).mono ?_
            rintro e w6 ⟨rfl, hb6⟩
            have HB6 := Lib.hid (HB5.out.trans (hb6.mono HB5.out.size))
            have HT6 := Lib.hid (HT5.out.old hb6)
            clear hb6
            go_wp2_with fail
            go_returns
            exact ⟨rfl, HB6.out⟩
          | false =>
            obtain ⟨b, ovf, hFB⟩ : ∃ (b : Int) (ovf : Bool), ∀ (w : World) (D : Nat), Apart w D → DecAt w D S → Calls Tryz.prog 150 #[.pointer (some ⟨D, 0, none⟩), .pointer (some ⟨14, 0, none⟩)] w fun e w' => e = .returned (.tuple #[.int .u64 b, .bool ovf]) ∧ w.grownBy w' (some D) := by
              rcases Int.lt_or_le 310 S.dp with h | h
              · exact ⟨_, _, fun w D hA hD => floatBits_hi S hG h w D hA hD⟩
              · obtain ⟨b, ovf, _, hc⟩ := floatBits_64 S hG (by omega) h
                exact ⟨b, ovf, hc⟩
            have HFB := Lib.hid hFB
            clear hFB hG hdp
            clear her1
            cases ovf with
            | false =>
              apply Exists.intro
              case h =>
                refine ⟨.nilIface, .inl rfl, ?_⟩
                intro w hTb
                have ko := hTb.opt
                have HTB := Lib.hid hTb
                clear hTb
                go_enter Tryz.func137, Tryz.ntmps137
                go_wp2_with fail
                refine (HSP.out _).mono ?_
                rintro e w1 ⟨rfl, rfl⟩
                go_wp2_with fail
                refine (HRF.out _).mono ?_
                rintro e w2 ⟨rfl, hb2⟩
                have HB2 := Lib.hid hb2
                have HT2 := Lib.hid (HTB.out.old hb2)
                have ko2 := cell_old hb2 ko
                clear hb2 ko
                go_wp2_with fail
                refine (bool2_u64_f _).mono ?_
                rintro e w3 ⟨rfl, rfl⟩
                go_wp2_with fail
                refine (HP1.out _ HT2.out).mono ?_
                rintro e w5 ⟨rfl, hb5⟩
                have HB5 := Lib.hid (HB2.out.trans (hb5.mono HB2.out.size))
                have HT5 := Lib.hid (HT2.out.old hb5)
                clear hb5 ko2
                go_wp2_with fail
                refine (HP2.out _ HT5.out).mono ?_
                rintro e w6 ⟨rfl, hb6⟩
                have HB6 := Lib.hid (HB5.out.trans (hb6.mono HB5.out.size))
                have HT6 := Lib.hid (HT5.out.old hb6)
                clear hb6
                go_wp2_with fail
                refine (HST.out _ _ (zero_at w6)).mono ?_
                rintro e w7 ⟨rfl, hd7, hg7⟩
                have hsz6 := HB6.out.size
                have HD7 := Lib.hid hd7
                have HB7 := Lib.hid ((HB6.out.alloc HB6.out.size (.cells Tryz.zeroCells217 217)).grown hg7 (HB6.out.alloc HB6.out.size (.cells Tryz.zeroCells217 217)).size (fun j e => by injection e with e; omega))
                have HA7 : Hid (Apart w7 w6.heap.size) := Lib.hid ⟨_, HTB.out, HB7.out, hsz6⟩
                clear hd7 hg7 hsz6
                go_wp2_with fail
                refine (HFB.out _ _ HA7.out HD7.out).mono ?_
                rintro e w8 ⟨rfl, hg8⟩
                have hsz6 := HB6.out.size
                have HB8 := Lib.hid (HB7.out.grown hg8 HB7.out.size (fun j e => by injection e with e; omega))
                clear hg8 hsz6
                go_wp2_with fail
                go_returns
                exact ⟨rfl, HB8.out⟩
            | true =>
              apply Exists.intro
              case h =>
                refine ⟨.iface 100 (.int .i64 1), .inr rfl, ?_⟩
                intro w hTb
                have ko := hTb.opt
                have HTB := Lib.hid hTb
                clear hTb
                go_enter Tryz.func137, Tryz.ntmps137
                go_wp2_with fail
                refine (HSP.out _).mono ?_
                rintro e w1 ⟨rfl, rfl⟩
                go_wp2_with fail
                refine (HRF.out _).mono ?_
                rintro e w2 ⟨rfl, hb2⟩
                have HB2 := Lib.hid hb2
                have HT2 := Lib.hid (HTB.out.old hb2)
                have ko2 := cell_old hb2 ko
                clear hb2 ko
                go_wp2_with fail
                refine (bool2_u64_f _).mono ?_
                rintro e w3 ⟨rfl, rfl⟩
                go_wp2_with fail
                refine (HP1.out _ HT2.out).mono ?_
                rintro e w5 ⟨rfl, hb5⟩
                have HB5 := Lib.hid (HB2.out.trans (hb5.mono HB2.out.size))
                have HT5 := Lib.hid (HT2.out.old hb5)
                clear hb5 ko2
                go_wp2_with fail
                refine (HP2.out _ HT5.out).mono ?_
                rintro e w6 ⟨rfl, hb6⟩
                have HB6 := Lib.hid (HB5.out.trans (hb6.mono HB5.out.size))
                have HT6 := Lib.hid (HT5.out.old hb6)
                clear hb6
                go_wp2_with fail
                refine (HST.out _ _ (zero_at w6)).mono ?_
                rintro e w7 ⟨rfl, hd7, hg7⟩
                have hsz6 := HB6.out.size
                have HD7 := Lib.hid hd7
                have HB7 := Lib.hid ((HB6.out.alloc HB6.out.size (.cells Tryz.zeroCells217 217)).grown hg7 (HB6.out.alloc HB6.out.size (.cells Tryz.zeroCells217 217)).size (fun j e => by injection e with e; omega))
                have HA7 : Hid (Apart w7 w6.heap.size) := Lib.hid ⟨_, HTB.out, HB7.out, hsz6⟩
                clear hd7 hg7 hsz6
                go_wp2_with fail
                refine (HFB.out _ _ HA7.out HD7.out).mono ?_
                rintro e w8 ⟨rfl, hg8⟩
                have hsz6 := HB6.out.size
                have HB8 := Lib.hid (HB7.out.grown hg8 HB7.out.size (fun j e => by injection e with e; omega))
                clear hg8 hsz6
                go_wp2_with fail
                go_returns
                exact ⟨rfl, HB8.out⟩
end Go.Proofs.YtdkhedefcmjjgaaGreatDoor
/- atof32, walked.
Conditions: the text has a decimal number's form, and at most 40 bytes. -/
namespace Go.Proofs.YtdkhedefcmjjgaaGreatDoor
open Go.RowKit Sp
set_option linter.unusedSimpArgs false
set_option linter.unusedVariables false
set_option maxRecDepth 20000 in
set_option maxHeartbeats 16000000 in
theorem atof32_any (s : ByteArray) (a m : Nat) (F : Form s a m) (hs : s.size ≤ 40) : ∃ (v : Nat) (er : Value), FN .f32 v ∧ (er = .nilIface ∨ er = .iface 100 (.int .i64 1)) ∧ ∀ w, Tabs w →
    Calls Tryz.prog 136 #[.string s] w fun e w' => e = .returned (.tuple #[.float .f32 v, .int .i64 s.size, er]) ∧ Below w.heap.size w w' := by
  obtain ⟨ev, hT, he0, he1⟩ := tailE F
  obtain ⟨hm19, hp0, hp1, hmz⟩ := exp_ok F hs he0 he1
  have hsg := fun h => set_good (s := s) F hs (ev := ev) h
  have HRF := Lib.hid (readFloat_any s a m F hs ev hT he0 he1)
  have HST := Lib.hid (set_any s a m F hs ev hT he0 he1)
  have HSP := Lib.hid (special_any s a m F)
  have ff := from32
  obtain ⟨d, hd⟩ : ∃ d, (rfAt s m).man = d := ⟨_, rfl⟩
  obtain ⟨p, hp⟩ : ∃ p, expOf s a m ev = p := ⟨_, rfl⟩
  obtain ⟨tr, htr⟩ : ∃ tr, (rfAt s m).tr = tr := ⟨_, rfl⟩
  obtain ⟨S, hS⟩ : ∃ S, setS s a m ev = S := ⟨_, rfl⟩
  rw [hd, hp, htr] at HRF
  rw [hS] at HST
  rw [hd, hp, htr, hS] at hsg
  rw [hd] at hm19 hmz
  rw [hp] at hp0 hp1 hmz
  clear hd hp htr hS F hT
  by_cases hd0 : d = 0
  · have hdb : ((d : Int) == 0) = true := by rw [hd0]; rfl
    clear hd0 hmz hsg HST
    apply Exists.intro
    case h =>
      refine ⟨.nilIface, ?bd, .inl rfl, ?wk⟩
      case wk =>
        intro w hTb
        have ko := hTb.opt
        have HTB := Lib.hid hTb
        clear hTb
        go_enter Tryz.func136, Tryz.ntmps136
        go_wp2_with fail
        refine (HSP.out _).mono ?_
        rintro e w1 ⟨rfl, rfl⟩
        go_wp2_with fail
        refine (HRF.out _).mono ?_
        rintro e w2 ⟨rfl, hb2⟩
        have HB2 := Lib.hid hb2
        have HT2 := Lib.hid (HTB.out.old hb2)
        have ko2 := cell_old hb2 ko
        clear hb2 ko
        go_wp2_with fail
        refine (bool2_u32_f _).mono ?_
        rintro e w3 ⟨rfl, rfl⟩
        go_wp2_with fail
        go_returns
        exact ⟨rfl, HB2.out⟩
      case bd => exact fn32 (by decide)
  · have hdb : ((d : Int) == 0) = false := by simp; omega
    clear hd0 hmz
    have hd1 : 1 ≤ d := by simp at hdb; omega
    rcases Int.lt_or_le 40 p with hp2 | hp2
    · clear hsg HST
      apply Exists.intro
      case h =>
        refine ⟨.iface 100 (.int .i64 1), ?bd, .inr rfl, ?wk⟩
        case wk =>
          intro w hTb
          have ko := hTb.opt
          have HTB := Lib.hid hTb
          clear hTb
          go_enter Tryz.func136, Tryz.ntmps136
          go_wp2_with fail
          refine (HSP.out _).mono ?_
          rintro e w1 ⟨rfl, rfl⟩
          go_wp2_with fail
          refine (HRF.out _).mono ?_
          rintro e w2 ⟨rfl, hb2⟩
          have HB2 := Lib.hid hb2
          have HT2 := Lib.hid (HTB.out.old hb2)
          have ko2 := cell_old hb2 ko
          clear hb2 ko
          go_wp2_with fail
          refine (bool2_u32_f _).mono ?_
          rintro e w3 ⟨rfl, rfl⟩
          go_wp2_with fail
          go_returns
          exact ⟨rfl, HB2.out⟩
        case bd => exact fn32 (by decide)
    · rcases Int.lt_or_le p (-70) with hp3 | hp3
      · clear hsg HST
        apply Exists.intro
        case h =>
          refine ⟨.nilIface, ?bd, .inl rfl, ?wk⟩
          case wk =>
            intro w hTb
            have ko := hTb.opt
            have HTB := Lib.hid hTb
            clear hTb
            go_enter Tryz.func136, Tryz.ntmps136
            go_wp2_with fail
            refine (HSP.out _).mono ?_
            rintro e w1 ⟨rfl, rfl⟩
            go_wp2_with fail
            refine (HRF.out _).mono ?_
            rintro e w2 ⟨rfl, hb2⟩
            have HB2 := Lib.hid hb2
            have HT2 := Lib.hid (HTB.out.old hb2)
            have ko2 := cell_old hb2 ko
            clear hb2 ko
            go_wp2_with fail
            refine (bool2_u32_f _).mono ?_
            rintro e w3 ⟨rfl, rfl⟩
            go_wp2_with fail
            go_returns
            exact ⟨rfl, HB2.out⟩
          case bd => exact fn32 (by decide)
      · obtain ⟨v1, er1, hf1, her1, hP1⟩ := parse32_fn (d : Int) p (by omega) (by omega) (by omega) (by omega)
        have HP1 := Lib.hid hP1
        clear hP1
        cases tr with
        | false =>
          clear hsg HST
          obtain ⟨v, ok, hfe, hEX⟩ := exact32_fn (d : Int) p (by omega) (by omega) (by omega) (by omega)
          have HEX := Lib.hid hEX
          clear hEX
          cases ok with
          | true =>
            clear her1 hf1
            refine ⟨v, .nilIface, hfe rfl, .inl rfl, ?_⟩
            clear hfe
            intro w hTb
            have ko := hTb.opt
            have HTB := Lib.hid hTb
            clear hTb
            go_enter Tryz.func136, Tryz.ntmps136
            go_wp2_with fail
            refine (HSP.out _).mono ?_
            rintro e w1 ⟨rfl, rfl⟩
            go_wp2_with fail
            refine (HRF.out _).mono ?_
            rintro e w2 ⟨rfl, hb2⟩
            have HB2 := Lib.hid hb2
            have HT2 := Lib.hid (HTB.out.old hb2)
            have ko2 := cell_old hb2 ko
            clear hb2 ko
            go_wp2_with fail
            refine (bool2_u32_f _).mono ?_
            rintro e w3 ⟨rfl, rfl⟩
            go_wp2_with fail
            refine (HEX.out _ HT2.out).mono ?_
            rintro e w4 ⟨rfl, rfl⟩
            go_wp2_with fail
            go_returns
            exact ⟨rfl, HB2.out⟩
          | false =>
            refine ⟨v1, er1, hf1, her1, ?_⟩
            clear hf1 hfe
            intro w hTb
            have ko := hTb.opt
            have HTB := Lib.hid hTb
            clear hTb
            go_enter Tryz.func136, Tryz.ntmps136
            go_wp2_with fail
            refine (HSP.out _).mono ?_
            rintro e w1 ⟨rfl, rfl⟩
            go_wp2_with fail
            refine (HRF.out _).mono ?_
            rintro e w2 ⟨rfl, hb2⟩
            have HB2 := Lib.hid hb2
            have HT2 := Lib.hid (HTB.out.old hb2)
            have ko2 := cell_old hb2 ko
            clear hb2 ko
            go_wp2_with fail
            refine (bool2_u32_f _).mono ?_
            rintro e w3 ⟨rfl, rfl⟩
            go_wp2_with fail
            refine (HEX.out _ HT2.out).mono ?_
            rintro e w4 ⟨rfl, rfl⟩
            go_wp2_with fail
            refine (HP1.out _ HT2.out).mono ?_
            rintro e w5 ⟨rfl, hb5⟩
            have HB5 := Lib.hid (HB2.out.trans (hb5.mono HB2.out.size))
            have HT5 := Lib.hid (HT2.out.old hb5)
            clear hb5 ko2
            go_wp2_with fail
            go_returns
            exact ⟨rfl, HB5.out⟩
        | true =>
          obtain ⟨hG, hdp, _⟩ := hsg rfl
          clear hsg
          obtain ⟨v2, er2, _, _, hP2⟩ := parse32_fn ((d : Int) + 1) p (by omega) (by omega) (by omega) (by omega)
          have HP2 := Lib.hid hP2
          clear hP2
          cases hcm : (FloatKind.f32.format.order v1 v2 == some .eq) with
          | true =>
            clear hG hdp HST
            refine ⟨v1, er1, hf1, her1, ?_⟩
            clear hf1
            intro w hTb
            have ko := hTb.opt
            have HTB := Lib.hid hTb
            clear hTb
            go_enter Tryz.func136, Tryz.ntmps136
            go_wp2_with fail
            refine (HSP.out _).mono ?_
            rintro e w1 ⟨rfl, rfl⟩
            go_wp2_with fail
            refine (HRF.out _).mono ?_
            rintro e w2 ⟨rfl, hb2⟩
            have HB2 := Lib.hid hb2
            have HT2 := Lib.hid (HTB.out.old hb2)
            have ko2 := cell_old hb2 ko
            clear hb2 ko
            go_wp2_with fail
            refine (bool2_u32_f _).mono ?_
            rintro e w3 ⟨rfl, rfl⟩
            go_wp2_with fail
            refine (HP1.out _ HT2.out).mono ?_
            rintro e w5 ⟨rfl, hb5⟩
            have HB5 := Lib.hid (HB2.out.trans (hb5.mono HB2.out.size))
            have HT5 := Lib.hid (HT2.out.old hb5)
            clear hb5 ko2
            go_wp2_with fail
            refine (HP2.out _ HT5.out).mono ?_
            rintro e w6 ⟨rfl, hb6⟩
            have HB6 := Lib.hid (HB5.out.trans (hb6.mono HB5.out.size))
            have HT6 := Lib.hid (HT5.out.old hb6)
            clear hb6
            go_wp2_with fail
            go_returns
            exact ⟨rfl, HB6.out⟩
          | false =>
            obtain ⟨b, ovf, ⟨E, v, hEm, hfb⟩, hFB⟩ := floatBits_32 S hG (by omega) (by omega)
            have hbb := Lib.hid (fb32_fn hEm hfb)
            clear hEm hfb
            have HFB := Lib.hid hFB
            clear hFB hG hdp
            clear her1 hf1
            cases ovf with
            | false =>
              apply Exists.intro
              case h =>
                refine ⟨.nilIface, ?bd, .inl rfl, ?wk⟩
                case wk =>
                  intro w hTb
                  have ko := hTb.opt
                  have HTB := Lib.hid hTb
                  clear hTb
                  go_enter Tryz.func136, Tryz.ntmps136
                  go_wp2_with fail
                  refine (HSP.out _).mono ?_
                  rintro e w1 ⟨rfl, rfl⟩
                  go_wp2_with fail
                  refine (HRF.out _).mono ?_
                  rintro e w2 ⟨rfl, hb2⟩
                  have HB2 := Lib.hid hb2
                  have HT2 := Lib.hid (HTB.out.old hb2)
                  have ko2 := cell_old hb2 ko
                  clear hb2 ko
                  go_wp2_with fail
                  refine (bool2_u32_f _).mono ?_
                  rintro e w3 ⟨rfl, rfl⟩
                  go_wp2_with fail
                  refine (HP1.out _ HT2.out).mono ?_
                  rintro e w5 ⟨rfl, hb5⟩
                  have HB5 := Lib.hid (HB2.out.trans (hb5.mono HB2.out.size))
                  have HT5 := Lib.hid (HT2.out.old hb5)
                  clear hb5 ko2
                  go_wp2_with fail
                  refine (HP2.out _ HT5.out).mono ?_
                  rintro e w6 ⟨rfl, hb6⟩
                  have HB6 := Lib.hid (HB5.out.trans (hb6.mono HB5.out.size))
                  have HT6 := Lib.hid (HT5.out.old hb6)
                  clear hb6
                  go_wp2_with fail
                  refine (HST.out _ _ (zero_at w6)).mono ?_
                  rintro e w7 ⟨rfl, hd7, hg7⟩
                  have hsz6 := HB6.out.size
                  have HD7 := Lib.hid hd7
                  have HB7 := Lib.hid ((HB6.out.alloc HB6.out.size (.cells Tryz.zeroCells217 217)).grown hg7 (HB6.out.alloc HB6.out.size (.cells Tryz.zeroCells217 217)).size (fun j e => by injection e with e; omega))
                  have HA7 : Hid (Apart w7 w6.heap.size) := Lib.hid ⟨_, HTB.out, HB7.out, hsz6⟩
                  clear hd7 hg7 hsz6
                  go_wp2_with fail
                  refine (HFB.out _ _ HA7.out HD7.out).mono ?_
                  rintro e w8 ⟨rfl, hg8⟩
                  have hsz6 := HB6.out.size
                  have HB8 := Lib.hid (HB7.out.grown hg8 HB7.out.size (fun j e => by injection e with e; omega))
                  clear hg8 hsz6
                  go_wp2_with fail
                  go_returns
                  exact ⟨rfl, HB8.out⟩
                case bd => exact fn32 (by have := hbb.out; omega)
            | true =>
              apply Exists.intro
              case h =>
                refine ⟨.iface 100 (.int .i64 1), ?bd, .inr rfl, ?wk⟩
                case wk =>
                  intro w hTb
                  have ko := hTb.opt
                  have HTB := Lib.hid hTb
                  clear hTb
                  go_enter Tryz.func136, Tryz.ntmps136
                  go_wp2_with fail
                  refine (HSP.out _).mono ?_
                  rintro e w1 ⟨rfl, rfl⟩
                  go_wp2_with fail
                  refine (HRF.out _).mono ?_
                  rintro e w2 ⟨rfl, hb2⟩
                  have HB2 := Lib.hid hb2
                  have HT2 := Lib.hid (HTB.out.old hb2)
                  have ko2 := cell_old hb2 ko
                  clear hb2 ko
                  go_wp2_with fail
                  refine (bool2_u32_f _).mono ?_
                  rintro e w3 ⟨rfl, rfl⟩
                  go_wp2_with fail
                  refine (HP1.out _ HT2.out).mono ?_
                  rintro e w5 ⟨rfl, hb5⟩
                  have HB5 := Lib.hid (HB2.out.trans (hb5.mono HB2.out.size))
                  have HT5 := Lib.hid (HT2.out.old hb5)
                  clear hb5 ko2
                  go_wp2_with fail
                  refine (HP2.out _ HT5.out).mono ?_
                  rintro e w6 ⟨rfl, hb6⟩
                  have HB6 := Lib.hid (HB5.out.trans (hb6.mono HB5.out.size))
                  have HT6 := Lib.hid (HT5.out.old hb6)
                  clear hb6
                  go_wp2_with fail
                  refine (HST.out _ _ (zero_at w6)).mono ?_
                  rintro e w7 ⟨rfl, hd7, hg7⟩
                  have hsz6 := HB6.out.size
                  have HD7 := Lib.hid hd7
                  have HB7 := Lib.hid ((HB6.out.alloc HB6.out.size (.cells Tryz.zeroCells217 217)).grown hg7 (HB6.out.alloc HB6.out.size (.cells Tryz.zeroCells217 217)).size (fun j e => by injection e with e; omega))
                  have HA7 : Hid (Apart w7 w6.heap.size) := Lib.hid ⟨_, HTB.out, HB7.out, hsz6⟩
                  clear hd7 hg7 hsz6
                  go_wp2_with fail
                  refine (HFB.out _ _ HA7.out HD7.out).mono ?_
                  rintro e w8 ⟨rfl, hg8⟩
                  have hsz6 := HB6.out.size
                  have HB8 := Lib.hid (HB7.out.grown hg8 HB7.out.size (fun j e => by injection e with e; omega))
                  clear hg8 hsz6
                  go_wp2_with fail
                  go_returns
                  exact ⟨rfl, HB8.out⟩
                case bd => exact fn32 (by have := hbb.out; omega)
end Go.Proofs.YtdkhedefcmjjgaaGreatDoor
