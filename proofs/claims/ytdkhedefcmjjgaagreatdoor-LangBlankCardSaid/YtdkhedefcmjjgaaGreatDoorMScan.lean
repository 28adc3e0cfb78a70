/- scan, walked: the words of a line, byte by byte.
Conditions: the line is short; what ContainsRune tells of a rune beyond ASCII, where the line has one. -/
import Derived.Test.YtdkhedefcmjjgaaGreatDoorMScan0
namespace Go.Proofs.YtdkhedefcmjjgaaGreatDoor
open Go.RowKit Sp
set_option linter.unusedVariables false
set_option linter.unusedSimpArgs false
def signsB : Bs := [43, 45, 42, 47, 64, 40, 41, 44, 61]
theorem rune_sign (k : UInt8) (hk : k.toNat < 128) (W : World) : Calls Tryz.prog 33 #[.string (bstr signsB), .int .i32 k.toNat] W fun e w' => e = .returned (.bool (isSign k)) ∧ W = w' := by
  refine (Tryz.strings_ContainsRune_ascii (bstr signsB) k.toNat W (by omega) (by omega)).mono ?_
  rintro e w' ⟨rfl, rfl⟩
  refine ⟨?_, rfl⟩
  rw [bstr_data, isSign]
  have hk' : (k.toNat : Int).toNat.toUInt8 = k := by rw [Int.toNat_natCast]; exact UInt8.toNat_inj.1 (by simp)
  rw [hk', ← Lib.contains_iff_indexByte]
  rfl
theorem run_rune_byte (k : UInt8) (w : World) : (convert 21 5 (.int .i32 (k.toNat : Int))).run Tryz.prog w = .ok (.int .u8 k.toNat) w := by
  have hk := k.toNat_lt
  rw [run_convert_int w 21 5 .i32 _ (by kernel_rfl) (by kernel_rfl)]
  have hkd : Tryz.prog.intKind 5 = .u8 := by kernel_rfl
  have : IntKind.u8.wrap (k.toNat : Int) = k.toNat := IntWalk.u8_in _ ⟨by omega, by omega⟩
  rw [hkd, this]
theorem run_rune_string (k : UInt8) (hk : k.toNat < 128) (w : World) : (convert 21 9 (.int .i32 (k.toNat : Int))).run Tryz.prog w = .ok (.string (bstr [k])) w := by
  rw [run_convert_int_string w 21 9 .i32 _ (by kernel_rfl) und9, encode_byte k hk]
/-- What a scan hands back. -/
def ScanPost (l : Bs) (w : World) (e : Ending) (w' : World) : Prop :=
  Below w.heap.size w w' ∧ ((Sp.scan l = none ∧ e = .panicked (giv 70)) ∨ ∃ ts v T, Sp.scan l = some ts ∧ e = .returned v ∧ TokS w' T v ts ∧ w.heap.size ≤ T ∧ T < w'.heap.size)
def posOf (w : World) (k : Nat) : Nat := w.iterPos k
set_option maxRecDepth 100000 in
set_option maxHeartbeats 8000000 in
theorem scan_any (s : ByteArray) (hs : s.size ≤ 1000000) (w : World) (hA : ∀ i (h : i < s.size), (s[i]).toNat < 128) : Calls Tryz.prog 15 #[.string s] w (ScanPost s.data.toList w) := by
  have hmf : ∀ (fn : Fn) (first cap : Array Value) (w : World), (Instr.makeFunc fn first cap).run Tryz.prog w = .ok (.func fn first cap) w := fun _ _ _ _ => rfl
  have HA := Lib.hid hA
  clear hA
  have h0 : ScanR s w 0 (-1) [] 0 [] (.slice none 0 0) (((((w.alloc (.cells #[.string s] 9)).alloc (.cells #[.slice none 0 0] 51)).alloc (.cells #[.int .i64 (-1)] 3)).alloc (.cells #[.int .u8 0] 5)).alloc (.stringIter s 0)) :=
    ⟨ScanW.start s w, rfl, .inl ⟨rfl, rfl⟩, by simp, Nat.zero_le _⟩
  have H0 := Lib.hid h0
  clear h0
  go_enter Tryz.func15, Tryz.ntmps15
  go_wp2_with fail
  go_loopw [] (fun wr => ∃ pos fr cur kd out v, Hid (ScanR s w pos fr cur kd out v wr)) (fun wr => s.size - posOf wr (w.heap.size + 4))
  case atStart => exact ⟨_, _, _, _, _, _, H0⟩
  case round =>
    obtain ⟨pos, fr, cur, kd, out, v, HR⟩ := hrel
    by_cases hp : pos < s.size
    · have hnx : ∀ ty, (Instr.next (.pointer (some ⟨w.heap.size + 1 + 1 + 1 + 1, 0, none⟩)) true ty).run Tryz.prog wr = _ := fun ty => Lib.run_next_ascii_at wr (w.heap.size + 4) s pos ty HR.out.mem.hI hp (HA.out pos hp)
      obtain ⟨w1, hw1⟩ : ∃ w1, w1 = wr.iterAt (w.heap.size + 4) s (pos + 1) := ⟨_, rfl⟩
      have M1 : Hid (ScanW s w fr kd.toNat (pos + 1) v out.length (flat out) w1) := Lib.hid (by rw [hw1]; exact HR.out.mem.iter (pos + 1))
      rw [← hw1] at hnx
      clear hw1
      have hm0 : Hid (s.size - posOf wr (w.heap.size + 4) = s.size - pos) := Lib.hid (by unfold posOf World.iterPos; rw [HR.out.mem.hI])
      have hpm : ∀ w' fr' cur' kd' out' v', ScanR s w (pos + 1) fr' cur' kd' out' v' w' → posOf w' (w.heap.size + 4) = pos + 1 := fun w' _ _ _ _ _ h => by unfold posOf World.iterPos; rw [h.mem.hI]
      have hfin : ∀ w' fr' cur' kd' out' v', ScanR s w (pos + 1) fr' cur' kd' out' v' w' → (∃ pos fr cur kd out v, Hid (ScanR s w pos fr cur kd out v w')) ∧ s.size - posOf w' (w.heap.size + 4) < s.size - posOf wr (w.heap.size + 4) := fun w' fr' cur' kd' out' v' h => by
        have e := hpm _ _ _ _ _ _ h
        have e0 := hm0.out
        exact ⟨⟨_, _, _, _, _, _, h⟩, by omega⟩
      have FIN := Lib.hid hfin
      clear hpm hfin
      obtain ⟨k, hk⟩ : ∃ k, s[pos] = k := ⟨_, rfl⟩
      have HK := Lib.hid hk
      have hk128 : k.toNat < 128 := by rw [← hk]; exact HA.out pos hp
      rw [hk] at hnx
      clear hk
      have c0 : w1.cell? ⟨w.heap.size, 0, none⟩ = some (.string s) := M1.out.cS
      have c1 : w1.cell? ⟨w.heap.size + 1, 0, none⟩ = some v := M1.out.cO
      have c2 : w1.cell? ⟨w.heap.size + 1 + 1, 0, none⟩ = some (.int .i64 fr) := M1.out.cF
      have c3 : w1.cell? ⟨w.heap.size + 1 + 1 + 1, 0, none⟩ = some (.int .u8 kd.toNat) := M1.out.cK
      have f2 : w1.frozen? ⟨w.heap.size + 1 + 1, 0, none⟩ = false := M1.out.fF
      have f3 : w1.frozen? ⟨w.heap.size + 1 + 1 + 1, 0, none⟩ = false := M1.out.fK
      have hfr : Hid (From s pos fr cur) := Lib.hid HR.out.frm
      by_cases hword : wordByte k = true
      · -- a word's byte
        have hcls : (97 ≤ (k.toNat : Int) ∧ (k.toNat : Int) ≤ 122) ∨ (48 ≤ (k.toNat : Int) ∧ (k.toNat : Int) ≤ 57) ∨ (65 ≤ (k.toNat : Int) ∧ (k.toNat : Int) ≤ 90) ∨ (k.toNat : Int) = 46 ∨ (k.toNat : Int) = 95 := by
          unfold wordByte at hword
          simp only [Bool.or_eq_true, small_iff, ten_iff, upper_iff, beq_iff_eq] at hword
          rcases hword with (((h | h) | h) | h) | h
          · exact .inl h
          · exact .inr (.inl h)
          · exact .inr (.inr (.inl h))
          · exact .inr (.inr (.inr (.inl (by rw [h]; rfl))))
          · exact .inr (.inr (.inr (.inr (by rw [h]; rfl))))
        have HW := Lib.hid hword
        clear hword
        have hsm : Hid ((97 ≤ (k.toNat : Int) ∧ (k.toNat : Int) ≤ 122 → small k = true) ∧ (¬ (97 ≤ (k.toNat : Int) ∧ (k.toNat : Int) ≤ 122) → small k = false)) := Lib.hid ⟨(small_iff k).2, fun h => by cases hs : small k; rfl; exact absurd ((small_iff k).1 hs) h⟩
        obtain ⟨kn, hkn⟩ : ∃ kn : Int, kn = (k.toNat : Int) := ⟨_, rfl⟩
        rw [← hkn] at hnx hcls hsm
        have HKN := Lib.hid hkn
        clear hkn
        rcases hfr.out with ⟨rfl, rfl⟩ | ⟨a, rfl, ha, hca⟩
        · have fin1 : small k = true → ScanR s w (pos + 1) pos [k] 110 out v (((w1.setCell ⟨w.heap.size + 1 + 1, 0, none⟩ (.int .i64 pos)).setCell ⟨w.heap.size + 1 + 1 + 1, 0, none⟩ (.int .u8 100)).setCell ⟨w.heap.size + 1 + 1 + 1, 0, none⟩ (.int .u8 110)) := fun h1 => by
            have := HR.out.begin hp (by rw [HK.out]; exact HW.out) (kd' := 110) (by rw [HK.out, h1]; rfl) (((M1.out.setF pos).setK 100).setK 110)
            rw [HK.out] at this
            exact this
          have fin2 : small k = false → ScanR s w (pos + 1) pos [k] 100 out v ((w1.setCell ⟨w.heap.size + 1 + 1, 0, none⟩ (.int .i64 pos)).setCell ⟨w.heap.size + 1 + 1 + 1, 0, none⟩ (.int .u8 100)) := fun h1 => by
            have := HR.out.begin hp (by rw [HK.out]; exact HW.out) (kd' := 100) (by rw [HK.out, h1]; rfl) ((M1.out.setF pos).setK 100)
            rw [HK.out] at this
            exact this
          have FIN1 := Lib.hid fin1
          have FIN2 := Lib.hid fin2
          clear fin1 fin2
          rcases hcls with hc | hc | hc | rfl | rfl
          · obtain ⟨hc1, hc2⟩ := hc
            have hd1 : 48 ≤ kn := by omega
            have hd2 : ¬ kn ≤ 57 := by omega
            have hsk := Lib.hid (hsm.out.1 ⟨hc1, hc2⟩)
            go_wp2_with fail
            exact FIN.out _ _ _ _ _ _ (FIN1.out hsk.out)
          · obtain ⟨hc1, hc2⟩ := hc
            have hd1 : ¬ 97 ≤ kn := by omega
            have hsk := Lib.hid (hsm.out.2 (by omega))
            go_wp2_with fail
            exact FIN.out _ _ _ _ _ _ (FIN2.out hsk.out)
          · obtain ⟨hc1, hc2⟩ := hc
            have hd1 : ¬ 97 ≤ kn := by omega
            have hd2 : ¬ kn ≤ 57 := by omega
            have hd3 : 48 ≤ kn := by omega
            have hsk := Lib.hid (hsm.out.2 (by omega))
            go_wp2_with fail
            exact FIN.out _ _ _ _ _ _ (FIN2.out hsk.out)
          · have hsk := Lib.hid (hsm.out.2 (by omega))
            go_wp2_with fail
            exact FIN.out _ _ _ _ _ _ (FIN2.out hsk.out)
          · have hsk := Lib.hid (hsm.out.2 (by omega))
            go_wp2_with fail
            exact FIN.out _ _ _ _ _ _ (FIN2.out hsk.out)
        · have fin1 : ScanR s w (pos + 1) a (cur ++ [k]) kd out v w1 := by
            have := HR.out.on hp (.inl (by rw [HK.out]; exact HW.out)) M1.out
            rw [HK.out] at this
            exact this
          have FIN1 := Lib.hid fin1
          clear fin1 hca
          have ha0 : (0 : Int) ≤ (a : Int) := by omega
          rcases hcls with hc | hc | hc | rfl | rfl
          · obtain ⟨hc1, hc2⟩ := hc
            have hd1 : 48 ≤ kn := by omega
            have hd2 : ¬ kn ≤ 57 := by omega
            go_wp2_with fail
            exact FIN.out _ _ _ _ _ _ FIN1.out
          · obtain ⟨hc1, hc2⟩ := hc
            have hd1 : ¬ 97 ≤ kn := by omega
            go_wp2_with fail
            exact FIN.out _ _ _ _ _ _ FIN1.out
          · obtain ⟨hc1, hc2⟩ := hc
            have hd1 : ¬ 97 ≤ kn := by omega
            have hd2 : ¬ kn ≤ 57 := by omega
            have hd3 : 48 ≤ kn := by omega
            go_wp2_with fail
            exact FIN.out _ _ _ _ _ _ FIN1.out
          · go_wp2_with fail
            exact FIN.out _ _ _ _ _ _ FIN1.out
          · go_wp2_with fail
            exact FIN.out _ _ _ _ _ _ FIN1.out
      · have hword' : wordByte k = false := by simpa using hword
        clear hword
        have HW := Lib.hid hword'
        clear hword'
        obtain ⟨kn, hkn⟩ : ∃ kn : Int, kn = (k.toNat : Int) := ⟨_, rfl⟩
        have hcls : Hid (((kn < 48) ∨ (58 ≤ kn ∧ kn ≤ 64) ∨ (91 ≤ kn ∧ kn ≤ 96) ∨ (122 < kn)) ∧ kn ≠ 46 ∧ kn ≠ 95) := Lib.hid (by rw [hkn]; exact no_word_iv HW.out)
        rw [← hkn] at hnx
        have hkq : ∀ n : Nat, n < 256 → (k == UInt8.ofNat n) = (kn == (n : Int)) := fun n hn => by
          rw [Bool.eq_iff_iff, beq_iff_eq, beq_iff_eq]
          exact ⟨fun e => by rw [hkn, e, UInt8.toNat_ofNat', Nat.mod_eq_of_lt hn], fun e => eq_of_num hn (by rw [← hkn, e])⟩
        have HQ := Lib.hid hkq
        clear hkq
        have hcv1 : ∀ W, (convert 21 5 (.int .i32 kn)).run Tryz.prog W = .ok (.int .u8 kn) W := fun W => by rw [hkn]; exact run_rune_byte k W
        have hcv2 : ∀ W, (convert 21 9 (.int .i32 kn)).run Tryz.prog W = .ok (.string (bstr [k])) W := fun W => by rw [hkn]; exact run_rune_string k hk128 W
        have hrs : Hid (Calls Tryz.prog 33 #[.string (bstr signsB), .int .i32 kn] w1 fun e w' => e = .returned (.bool (isSign k)) ∧ w1 = w') := Lib.hid (by rw [hkn]; exact rune_sign k hk128 w1)
        have H31 : Hid (Calls Tryz.prog 31 #[.int .i64 pos, .pointer (some ⟨w.heap.size + 1 + 1, 0, none⟩), .pointer (some ⟨w.heap.size + 1, 0, none⟩), .pointer (some ⟨w.heap.size + 1 + 1 + 1, 0, none⟩), .pointer (some ⟨w.heap.size, 0, none⟩)] w1 fun e w' => e = .returned (.tuple #[]) ∧ ∃ v', ScanW s w (-1) kd.toNat (pos + 1) v' (close cur kd out).length (flat (close cur kd out)) w') := Lib.hid (shut_scan M1.out hfr.out (by omega) hs (by have := HR.out.len; omega))
        have HKN := Lib.hid hkn
        clear hkn
        obtain ⟨i0, hi0, hz0, hz1, hz2⟩ := info_parts info70z
        have t46 : (kn == 46) = false := beq_eq_false_iff_ne.2 hcls.out.2.1
        have t95 : (kn == 95) = false := beq_eq_false_iff_ne.2 hcls.out.2.2
        by_cases hb : (k == 32 || k == 9) = true
        · -- a blank
          have h48 : kn < 48 := by
            simp only [Bool.or_eq_true, beq_iff_eq] at hb
            rw [HKN.out]
            rcases hb with e | e <;> (rw [e]; decide)
          have q1 : ¬ 97 ≤ kn := by omega
          have q2 : ¬ 48 ≤ kn := by omega
          have q3 : ¬ 65 ≤ kn := by omega
          have t45 : (kn == 45) = false := beq_eq_false_iff_ne.2 (by
            simp only [Bool.or_eq_true, beq_iff_eq] at hb
            rw [HKN.out]
            rcases hb with e | e <;> (rw [e]; decide))
          have hw32 : s[pos] = 32 ∨ s[pos] = 9 := by rw [HK.out]; simpa using hb
          have HB := Lib.hid hw32
          clear hw32
          have hbb : Hid ((kn == 32) = true ∨ (kn == 32) = false ∧ (kn == 9) = true) := Lib.hid (by
            have e1 := HQ.out 32 (by decide)
            have e2 := HQ.out 9 (by decide)
            rw [Bool.or_eq_true] at hb
            by_cases h32 : (k == 32) = true
            · exact .inl (e1 ▸ h32)
            · rcases hb with h | h
              · exact absurd h h32
              · exact .inr ⟨by rw [← (show (k == 32) = (kn == 32) from e1)]; simpa using h32, e2 ▸ h⟩)
          clear hb
          rcases hbb.out with e1 | ⟨e1, e2⟩
          all_goals
            go_wp2_with fail
            refine H31.out.mono ?_
            rintro e w2 ⟨rfl, v2, M2'⟩
            have M2 := Lib.hid M2'
            clear M2'
            go_wp2_with fail
            exact FIN.out _ _ _ _ _ _ (HR.out.blank hp HB.out M2.out)
        have hb' : (k == 32 || k == 9) = false := by simpa using hb
        clear hb
        have t32 : (kn == 32) = false := by have e : (k == 32) = (kn == 32) := HQ.out 32 (by decide); rw [← e]; exact (Bool.or_eq_false_iff.1 hb').1
        have t9 : (kn == 9) = false := by have e : (k == 9) = (kn == 9) := HQ.out 9 (by decide); rw [← e]; exact (Bool.or_eq_false_iff.1 hb').2
        have HB := Lib.hid hb'
        clear hb'
        by_cases h45 : kn = 45
        · -- a minus
          have HS : Hid (isSign k = true) := Lib.hid (by rw [show k = 45 from eq_of_num (n := 45) (by decide) (by rw [← HKN.out, h45]; rfl)]; rfl)
          have H33 : Hid (Calls Tryz.prog 33 #[.string (bstr signsB), .int .i32 kn] w1 fun e w' => e = .returned (.bool true) ∧ w1 = w') := Lib.hid (by have := hrs.out; rw [HS.out] at this; exact this)
          have hk45 : Hid (s[pos] = 45) := Lib.hid (by rw [HK.out]; exact eq_of_num (n := 45) (by decide) (by rw [← HKN.out, h45]; rfl))
          have t45 : (kn == 45) = true := beq_iff_eq.2 h45
          have q1 : ¬ 97 ≤ kn := by omega
          have q2 : ¬ 48 ≤ kn := by omega
          have q3 : ¬ 65 ≤ kn := by omega
          clear h45
          rcases hfr.out with ⟨rfl, rfl⟩ | ⟨a, rfl, ha, hca⟩
          · have H45 : Hid ((k == 45 && expo []) = false) := Lib.hid (by simp [expo])
            have H32 := Lib.hid (exponent_none s pos w1)
            go_wp2_with fail
            refine H32.out.mono ?_
            rintro e w' ⟨rfl, rfl⟩
            go_wp2_with fail
            refine H33.out.mono ?_
            rintro e w' ⟨rfl, rfl⟩
            go_wp2_with fail
            refine H31.out.mono ?_
            rintro e w2 ⟨rfl, v2, M2'⟩
            have M2 := Lib.hid M2'
            clear M2'
            clear c0 c1 c2 c3 f2 f3
            have d1 : w2.cell? ⟨w.heap.size + 1, 0, none⟩ = some v2 := M2.out.cO
            have g1 : w2.frozen? ⟨w.heap.size + 1, 0, none⟩ = false := M2.out.fO
            have hsz2 := M2.out.lt
            have hown2 := Lib.hid M2.out.own
            have hne : Hid (some (w.heap.size + 1) ≠ v2.ownBlock) := Lib.hid (fun e => by have := (M2.out.far _ e.symm).1; omega)
            have hlen := Lib.hid HR.out.len
            have hle := Lib.hid HR.out.le
            have hm5 : Hid ((close [] kd out).length + 1 ≤ maxLen ∧ ((close [] kd out).length + 1) * 24 ≤ 140737488355328) := Lib.hid (by rw [close_len]; have := hlen.out; have := hle.out; unfold maxLen; omega)
            have hC : ∀ (o : Obj) (p : Addr) (u : Value), w2.cell? p = some u → (w2.alloc o).cell? p = some u := fun o p u h => cell_old ((Below.refl w2.heap.size w2).alloc (Nat.le_refl _) o) h
            have hF : ∀ (o : Obj) (p : Addr), p.block < w2.heap.size → w2.frozen? p = false → (w2.alloc o).frozen? p = false := fun o p hp h => ((((Below.refl w2.heap.size w2).alloc (Nat.le_refl _) o).frozen hp)).trans h
            have HC := Lib.hid hC
            have HF := Lib.hid hF
            clear hC hF
            go_wp2_with (at_builtin; refine Classical.byContradiction (fun hstop => ?_))
            apply hstop
            clear hstop
            refine wpList_append_lies _ rfl _ _ _ rfl (w.heap.size + 5) 70 i0 _ 2 24 under51 hi0 hz0 hz1 hz2 rfl (by decide) v2 _ _ rfl (hown2.out.alloc _) ⟨w2.heap.size, 0, none⟩ 1 1 [.int .u8 kn, .string (bstr [k])] rfl rfl (World.news_of_block (heap_alloc_new _ _)) (by simp [Value.oneCell']) (by omega) hm5.out.1 hm5.out.2 (by simp; omega) _ rfl ?_
            intro g cap wa hown3 hga hat hlt
            have jO := (hga.cell_far ⟨w.heap.size + 1, 0, none⟩ (by simp; omega) hne.out).trans (HC.out _ _ _ d1)
            have jOf := (hga.frozen_far ⟨w.heap.size + 1, 0, none⟩ (by simp; omega) hne.out).trans (HF.out _ _ (by show w.heap.size + 1 < w2.heap.size; omega) g1)
            go_wp2_with fail
            refine FIN.out _ _ _ _ _ _ (HR.out.sign (v' := .slice (some ⟨g, 0, none⟩) ((close [] kd out).length + 1) cap) hp (by rw [HK.out]; exact HW.out) (by rw [HK.out]; exact H45.out) (by rw [HK.out]; exact HB.out) (by rw [HK.out]; exact HS.out) ?_)
            rw [HK.out, ← HKN.out]
            exact M2.out.push hga hown3
          · have hee := expo_ext ha hp hk45.out hca
            have H32' := exponent_some s a pos w1 ha hp hs
            rw [← hee] at H32'
            clear hee hca
            cases hex : expo cur with
            | true =>
              have H32 := Lib.hid (hex ▸ H32')
              have fin1 : ScanR s w (pos + 1) a (cur ++ [k]) kd out v w1 := by
                have := HR.out.on hp (.inr ⟨hk45.out, hex⟩) M1.out
                rw [HK.out] at this
                exact this
              have FIN1 := Lib.hid fin1
              clear fin1 hex H32'
              go_wp2_with fail
              refine H32.out.mono ?_
              rintro e w' ⟨rfl, rfl⟩
              go_wp2_with fail
              exact FIN.out _ _ _ _ _ _ FIN1.out
            | false =>
              have H32 := Lib.hid (hex ▸ H32')
              have H45 : Hid ((k == 45 && expo cur) = false) := Lib.hid (by rw [hex, Bool.and_false])
              clear hex H32'
              go_wp2_with fail
              refine H32.out.mono ?_
              rintro e w' ⟨rfl, rfl⟩
              go_wp2_with fail
              refine H33.out.mono ?_
              rintro e w' ⟨rfl, rfl⟩
              go_wp2_with fail
              refine H31.out.mono ?_
              rintro e w2 ⟨rfl, v2, M2'⟩
              have M2 := Lib.hid M2'
              clear M2'
              clear c0 c1 c2 c3 f2 f3
              have d1 : w2.cell? ⟨w.heap.size + 1, 0, none⟩ = some v2 := M2.out.cO
              have g1 : w2.frozen? ⟨w.heap.size + 1, 0, none⟩ = false := M2.out.fO
              have hsz2 := M2.out.lt
              have hown2 := Lib.hid M2.out.own
              have hne : Hid (some (w.heap.size + 1) ≠ v2.ownBlock) := Lib.hid (fun e => by have := (M2.out.far _ e.symm).1; omega)
              have hlen := Lib.hid HR.out.len
              have hle := Lib.hid HR.out.le
              have hm5 : Hid ((close cur kd out).length + 1 ≤ maxLen ∧ ((close cur kd out).length + 1) * 24 ≤ 140737488355328) := Lib.hid (by rw [close_len]; have := hlen.out; have := hle.out; unfold maxLen; omega)
              have hC : ∀ (o : Obj) (p : Addr) (u : Value), w2.cell? p = some u → (w2.alloc o).cell? p = some u := fun o p u h => cell_old ((Below.refl w2.heap.size w2).alloc (Nat.le_refl _) o) h
              have hF : ∀ (o : Obj) (p : Addr), p.block < w2.heap.size → w2.frozen? p = false → (w2.alloc o).frozen? p = false := fun o p hp h => ((((Below.refl w2.heap.size w2).alloc (Nat.le_refl _) o).frozen hp)).trans h
              have HC := Lib.hid hC
              have HF := Lib.hid hF
              clear hC hF
              go_wp2_with (at_builtin; refine Classical.byContradiction (fun hstop => ?_))
              apply hstop
              clear hstop
              refine wpList_append_lies _ rfl _ _ _ rfl (w.heap.size + 5) 70 i0 _ 2 24 under51 hi0 hz0 hz1 hz2 rfl (by decide) v2 _ _ rfl (hown2.out.alloc _) ⟨w2.heap.size, 0, none⟩ 1 1 [.int .u8 kn, .string (bstr [k])] rfl rfl (World.news_of_block (heap_alloc_new _ _)) (by simp [Value.oneCell']) (by omega) hm5.out.1 hm5.out.2 (by simp; omega) _ rfl ?_
              intro g cap wa hown3 hga hat hlt
              have jO := (hga.cell_far ⟨w.heap.size + 1, 0, none⟩ (by simp; omega) hne.out).trans (HC.out _ _ _ d1)
              have jOf := (hga.frozen_far ⟨w.heap.size + 1, 0, none⟩ (by simp; omega) hne.out).trans (HF.out _ _ (by show w.heap.size + 1 < w2.heap.size; omega) g1)
              go_wp2_with fail
              refine FIN.out _ _ _ _ _ _ (HR.out.sign (v' := .slice (some ⟨g, 0, none⟩) ((close cur kd out).length + 1) cap) hp (by rw [HK.out]; exact HW.out) (by rw [HK.out]; exact H45.out) (by rw [HK.out]; exact HB.out) (by rw [HK.out]; exact HS.out) ?_)
              rw [HK.out, ← HKN.out]
              exact M2.out.push hga hown3
        have t45 : (kn == 45) = false := beq_eq_false_iff_ne.2 h45
        have H45 : Hid ((k == 45 && expo cur) = false) := Lib.hid (by rw [show (k == 45) = (kn == 45) from HQ.out 45 (by decide), t45]; rfl)
        clear h45
        cases hsg : isSign k with
        | true =>
          have HS := Lib.hid hsg
          have H33 : Hid (Calls Tryz.prog 33 #[.string (bstr signsB), .int .i32 kn] w1 fun e w' => e = .returned (.bool true) ∧ w1 = w') := Lib.hid (by have := hrs.out; rw [hsg] at this; exact this)
          clear hsg
          rcases hcls.out.1 with hc | hc | hc | hc
          · have q0 : ¬ 97 ≤ kn := by omega
            have q1 : ¬ 48 ≤ kn := by omega
            have q2 : ¬ 65 ≤ kn := by omega
            clear hc
            go_wp2_with fail
            refine H33.out.mono ?_
            rintro e w' ⟨rfl, rfl⟩
            go_wp2_with fail
            refine H31.out.mono ?_
            rintro e w2 ⟨rfl, v2, M2'⟩
            have M2 := Lib.hid M2'
            clear M2'
            clear c0 c1 c2 c3 f2 f3
            have d1 : w2.cell? ⟨w.heap.size + 1, 0, none⟩ = some v2 := M2.out.cO
            have g1 : w2.frozen? ⟨w.heap.size + 1, 0, none⟩ = false := M2.out.fO
            have hsz2 := M2.out.lt
            have hown2 := Lib.hid M2.out.own
            have hne : Hid (some (w.heap.size + 1) ≠ v2.ownBlock) := Lib.hid (fun e => by have := (M2.out.far _ e.symm).1; omega)
            have hlen := Lib.hid HR.out.len
            have hle := Lib.hid HR.out.le
            have hm5 : Hid ((close cur kd out).length + 1 ≤ maxLen ∧ ((close cur kd out).length + 1) * 24 ≤ 140737488355328) := Lib.hid (by rw [close_len]; have := hlen.out; have := hle.out; unfold maxLen; omega)
            have hC : ∀ (o : Obj) (p : Addr) (u : Value), w2.cell? p = some u → (w2.alloc o).cell? p = some u := fun o p u h => cell_old ((Below.refl w2.heap.size w2).alloc (Nat.le_refl _) o) h
            have hF : ∀ (o : Obj) (p : Addr), p.block < w2.heap.size → w2.frozen? p = false → (w2.alloc o).frozen? p = false := fun o p hp h => ((((Below.refl w2.heap.size w2).alloc (Nat.le_refl _) o).frozen hp)).trans h
            have HC := Lib.hid hC
            have HF := Lib.hid hF
            clear hC hF
            go_wp2_with (at_builtin; refine Classical.byContradiction (fun hstop => ?_))
            apply hstop
            clear hstop
            refine wpList_append_lies _ rfl _ _ _ rfl (w.heap.size + 5) 70 i0 _ 2 24 under51 hi0 hz0 hz1 hz2 rfl (by decide) v2 _ _ rfl (hown2.out.alloc _) ⟨w2.heap.size, 0, none⟩ 1 1 [.int .u8 kn, .string (bstr [k])] rfl rfl (World.news_of_block (heap_alloc_new _ _)) (by simp [Value.oneCell']) (by omega) hm5.out.1 hm5.out.2 (by simp; omega) _ rfl ?_
            intro g cap wa hown3 hga hat hlt
            have jO := (hga.cell_far ⟨w.heap.size + 1, 0, none⟩ (by simp; omega) hne.out).trans (HC.out _ _ _ d1)
            have jOf := (hga.frozen_far ⟨w.heap.size + 1, 0, none⟩ (by simp; omega) hne.out).trans (HF.out _ _ (by show w.heap.size + 1 < w2.heap.size; omega) g1)
            go_wp2_with fail
            refine FIN.out _ _ _ _ _ _ (HR.out.sign (v' := .slice (some ⟨g, 0, none⟩) ((close cur kd out).length + 1) cap) hp (by rw [HK.out]; exact HW.out) (by rw [HK.out]; exact H45.out) (by rw [HK.out]; exact HB.out) (by rw [HK.out]; exact HS.out) ?_)
            rw [HK.out, ← HKN.out]
            exact M2.out.push hga hown3
          · have q0 : ¬ 97 ≤ kn := by omega
            have q1 : 48 ≤ kn := by omega
            have q2 : ¬ kn ≤ 57 := by omega
            have q3 : ¬ 65 ≤ kn := by omega
            clear hc
            go_wp2_with fail
            refine H33.out.mono ?_
            rintro e w' ⟨rfl, rfl⟩
            go_wp2_with fail
            refine H31.out.mono ?_
            rintro e w2 ⟨rfl, v2, M2'⟩
            have M2 := Lib.hid M2'
            clear M2'
            clear c0 c1 c2 c3 f2 f3
            have d1 : w2.cell? ⟨w.heap.size + 1, 0, none⟩ = some v2 := M2.out.cO
            have g1 : w2.frozen? ⟨w.heap.size + 1, 0, none⟩ = false := M2.out.fO
            have hsz2 := M2.out.lt
            have hown2 := Lib.hid M2.out.own
            have hne : Hid (some (w.heap.size + 1) ≠ v2.ownBlock) := Lib.hid (fun e => by have := (M2.out.far _ e.symm).1; omega)
            have hlen := Lib.hid HR.out.len
            have hle := Lib.hid HR.out.le
            have hm5 : Hid ((close cur kd out).length + 1 ≤ maxLen ∧ ((close cur kd out).length + 1) * 24 ≤ 140737488355328) := Lib.hid (by rw [close_len]; have := hlen.out; have := hle.out; unfold maxLen; omega)
            have hC : ∀ (o : Obj) (p : Addr) (u : Value), w2.cell? p = some u → (w2.alloc o).cell? p = some u := fun o p u h => cell_old ((Below.refl w2.heap.size w2).alloc (Nat.le_refl _) o) h
            have hF : ∀ (o : Obj) (p : Addr), p.block < w2.heap.size → w2.frozen? p = false → (w2.alloc o).frozen? p = false := fun o p hp h => ((((Below.refl w2.heap.size w2).alloc (Nat.le_refl _) o).frozen hp)).trans h
            have HC := Lib.hid hC
            have HF := Lib.hid hF
            clear hC hF
            go_wp2_with (at_builtin; refine Classical.byContradiction (fun hstop => ?_))
            apply hstop
            clear hstop
            refine wpList_append_lies _ rfl _ _ _ rfl (w.heap.size + 5) 70 i0 _ 2 24 under51 hi0 hz0 hz1 hz2 rfl (by decide) v2 _ _ rfl (hown2.out.alloc _) ⟨w2.heap.size, 0, none⟩ 1 1 [.int .u8 kn, .string (bstr [k])] rfl rfl (World.news_of_block (heap_alloc_new _ _)) (by simp [Value.oneCell']) (by omega) hm5.out.1 hm5.out.2 (by simp; omega) _ rfl ?_
            intro g cap wa hown3 hga hat hlt
            have jO := (hga.cell_far ⟨w.heap.size + 1, 0, none⟩ (by simp; omega) hne.out).trans (HC.out _ _ _ d1)
            have jOf := (hga.frozen_far ⟨w.heap.size + 1, 0, none⟩ (by simp; omega) hne.out).trans (HF.out _ _ (by show w.heap.size + 1 < w2.heap.size; omega) g1)
            go_wp2_with fail
            refine FIN.out _ _ _ _ _ _ (HR.out.sign (v' := .slice (some ⟨g, 0, none⟩) ((close cur kd out).length + 1) cap) hp (by rw [HK.out]; exact HW.out) (by rw [HK.out]; exact H45.out) (by rw [HK.out]; exact HB.out) (by rw [HK.out]; exact HS.out) ?_)
            rw [HK.out, ← HKN.out]
            exact M2.out.push hga hown3
          · have q0 : ¬ 97 ≤ kn := by omega
            have q1 : 48 ≤ kn := by omega
            have q2 : ¬ kn ≤ 57 := by omega
            have q3 : 65 ≤ kn := by omega
            have q4 : ¬ kn ≤ 90 := by omega
            clear hc
            go_wp2_with fail
            refine H33.out.mono ?_
            rintro e w' ⟨rfl, rfl⟩
            go_wp2_with fail
            refine H31.out.mono ?_
            rintro e w2 ⟨rfl, v2, M2'⟩
            have M2 := Lib.hid M2'
            clear M2'
            clear c0 c1 c2 c3 f2 f3
            have d1 : w2.cell? ⟨w.heap.size + 1, 0, none⟩ = some v2 := M2.out.cO
            have g1 : w2.frozen? ⟨w.heap.size + 1, 0, none⟩ = false := M2.out.fO
            have hsz2 := M2.out.lt
            have hown2 := Lib.hid M2.out.own
            have hne : Hid (some (w.heap.size + 1) ≠ v2.ownBlock) := Lib.hid (fun e => by have := (M2.out.far _ e.symm).1; omega)
            have hlen := Lib.hid HR.out.len
            have hle := Lib.hid HR.out.le
            have hm5 : Hid ((close cur kd out).length + 1 ≤ maxLen ∧ ((close cur kd out).length + 1) * 24 ≤ 140737488355328) := Lib.hid (by rw [close_len]; have := hlen.out; have := hle.out; unfold maxLen; omega)
            have hC : ∀ (o : Obj) (p : Addr) (u : Value), w2.cell? p = some u → (w2.alloc o).cell? p = some u := fun o p u h => cell_old ((Below.refl w2.heap.size w2).alloc (Nat.le_refl _) o) h
            have hF : ∀ (o : Obj) (p : Addr), p.block < w2.heap.size → w2.frozen? p = false → (w2.alloc o).frozen? p = false := fun o p hp h => ((((Below.refl w2.heap.size w2).alloc (Nat.le_refl _) o).frozen hp)).trans h
            have HC := Lib.hid hC
            have HF := Lib.hid hF
            clear hC hF
            go_wp2_with (at_builtin; refine Classical.byContradiction (fun hstop => ?_))
            apply hstop
            clear hstop
            refine wpList_append_lies _ rfl _ _ _ rfl (w.heap.size + 5) 70 i0 _ 2 24 under51 hi0 hz0 hz1 hz2 rfl (by decide) v2 _ _ rfl (hown2.out.alloc _) ⟨w2.heap.size, 0, none⟩ 1 1 [.int .u8 kn, .string (bstr [k])] rfl rfl (World.news_of_block (heap_alloc_new _ _)) (by simp [Value.oneCell']) (by omega) hm5.out.1 hm5.out.2 (by simp; omega) _ rfl ?_
            intro g cap wa hown3 hga hat hlt
            have jO := (hga.cell_far ⟨w.heap.size + 1, 0, none⟩ (by simp; omega) hne.out).trans (HC.out _ _ _ d1)
            have jOf := (hga.frozen_far ⟨w.heap.size + 1, 0, none⟩ (by simp; omega) hne.out).trans (HF.out _ _ (by show w.heap.size + 1 < w2.heap.size; omega) g1)
            go_wp2_with fail
            refine FIN.out _ _ _ _ _ _ (HR.out.sign (v' := .slice (some ⟨g, 0, none⟩) ((close cur kd out).length + 1) cap) hp (by rw [HK.out]; exact HW.out) (by rw [HK.out]; exact H45.out) (by rw [HK.out]; exact HB.out) (by rw [HK.out]; exact HS.out) ?_)
            rw [HK.out, ← HKN.out]
            exact M2.out.push hga hown3
          · have q0 : 97 ≤ kn := by omega
            have q1 : ¬ kn ≤ 122 := by omega
            have q2 : 48 ≤ kn := by omega
            have q3 : ¬ kn ≤ 57 := by omega
            have q4 : 65 ≤ kn := by omega
            have q5 : ¬ kn ≤ 90 := by omega
            clear hc
            go_wp2_with fail
            refine H33.out.mono ?_
            rintro e w' ⟨rfl, rfl⟩
            go_wp2_with fail
            refine H31.out.mono ?_
            rintro e w2 ⟨rfl, v2, M2'⟩
            have M2 := Lib.hid M2'
            clear M2'
            clear c0 c1 c2 c3 f2 f3
            have d1 : w2.cell? ⟨w.heap.size + 1, 0, none⟩ = some v2 := M2.out.cO
            have g1 : w2.frozen? ⟨w.heap.size + 1, 0, none⟩ = false := M2.out.fO
            have hsz2 := M2.out.lt
            have hown2 := Lib.hid M2.out.own
            have hne : Hid (some (w.heap.size + 1) ≠ v2.ownBlock) := Lib.hid (fun e => by have := (M2.out.far _ e.symm).1; omega)
            have hlen := Lib.hid HR.out.len
            have hle := Lib.hid HR.out.le
            have hm5 : Hid ((close cur kd out).length + 1 ≤ maxLen ∧ ((close cur kd out).length + 1) * 24 ≤ 140737488355328) := Lib.hid (by rw [close_len]; have := hlen.out; have := hle.out; unfold maxLen; omega)
            have hC : ∀ (o : Obj) (p : Addr) (u : Value), w2.cell? p = some u → (w2.alloc o).cell? p = some u := fun o p u h => cell_old ((Below.refl w2.heap.size w2).alloc (Nat.le_refl _) o) h
            have hF : ∀ (o : Obj) (p : Addr), p.block < w2.heap.size → w2.frozen? p = false → (w2.alloc o).frozen? p = false := fun o p hp h => ((((Below.refl w2.heap.size w2).alloc (Nat.le_refl _) o).frozen hp)).trans h
            have HC := Lib.hid hC
            have HF := Lib.hid hF
            clear hC hF
            go_wp2_with (at_builtin; refine Classical.byContradiction (fun hstop => ?_))
            apply hstop
            clear hstop
            refine wpList_append_lies _ rfl _ _ _ rfl (w.heap.size + 5) 70 i0 _ 2 24 under51 hi0 hz0 hz1 hz2 rfl (by decide) v2 _ _ rfl (hown2.out.alloc _) ⟨w2.heap.size, 0, none⟩ 1 1 [.int .u8 kn, .string (bstr [k])] rfl rfl (World.news_of_block (heap_alloc_new _ _)) (by simp [Value.oneCell']) (by omega) hm5.out.1 hm5.out.2 (by simp; omega) _ rfl ?_
            intro g cap wa hown3 hga hat hlt
            have jO := (hga.cell_far ⟨w.heap.size + 1, 0, none⟩ (by simp; omega) hne.out).trans (HC.out _ _ _ d1)
            have jOf := (hga.frozen_far ⟨w.heap.size + 1, 0, none⟩ (by simp; omega) hne.out).trans (HF.out _ _ (by show w.heap.size + 1 < w2.heap.size; omega) g1)
            go_wp2_with fail
            refine FIN.out _ _ _ _ _ _ (HR.out.sign (v' := .slice (some ⟨g, 0, none⟩) ((close cur kd out).length + 1) cap) hp (by rw [HK.out]; exact HW.out) (by rw [HK.out]; exact H45.out) (by rw [HK.out]; exact HB.out) (by rw [HK.out]; exact HS.out) ?_)
            rw [HK.out, ← HKN.out]
            exact M2.out.push hga hown3
        | false =>
          have HS := Lib.hid hsg
          have H33 : Hid (Calls Tryz.prog 33 #[.string (bstr signsB), .int .i32 kn] w1 fun e w' => e = .returned (.bool false) ∧ w1 = w') := Lib.hid (by have := hrs.out; rw [hsg] at this; exact this)
          have hbel := Lib.hid M1.out.bel
          clear hsg
          rcases hcls.out.1 with hc | hc | hc | hc
          · have q0 : ¬ 97 ≤ kn := by omega
            have q1 : ¬ 48 ≤ kn := by omega
            have q2 : ¬ 65 ≤ kn := by omega
            clear hc
            go_wp2_with fail
            refine H33.out.mono ?_
            rintro e w' ⟨rfl, rfl⟩
            go_wp2_with fail
            exact ⟨rfl, hbel.out, .inl ⟨HR.out.no hp (by rw [HK.out]; exact HW.out) (by rw [HK.out]; exact H45.out) (by rw [HK.out]; exact HB.out) (by rw [HK.out]; exact HS.out), rfl⟩⟩
          · have q0 : ¬ 97 ≤ kn := by omega
            have q1 : 48 ≤ kn := by omega
            have q2 : ¬ kn ≤ 57 := by omega
            have q3 : ¬ 65 ≤ kn := by omega
            clear hc
            go_wp2_with fail
            refine H33.out.mono ?_
            rintro e w' ⟨rfl, rfl⟩
            go_wp2_with fail
            exact ⟨rfl, hbel.out, .inl ⟨HR.out.no hp (by rw [HK.out]; exact HW.out) (by rw [HK.out]; exact H45.out) (by rw [HK.out]; exact HB.out) (by rw [HK.out]; exact HS.out), rfl⟩⟩
          · have q0 : ¬ 97 ≤ kn := by omega
            have q1 : 48 ≤ kn := by omega
            have q2 : ¬ kn ≤ 57 := by omega
            have q3 : 65 ≤ kn := by omega
            have q4 : ¬ kn ≤ 90 := by omega
            clear hc
            go_wp2_with fail
            refine H33.out.mono ?_
            rintro e w' ⟨rfl, rfl⟩
            go_wp2_with fail
            exact ⟨rfl, hbel.out, .inl ⟨HR.out.no hp (by rw [HK.out]; exact HW.out) (by rw [HK.out]; exact H45.out) (by rw [HK.out]; exact HB.out) (by rw [HK.out]; exact HS.out), rfl⟩⟩
          · have q0 : 97 ≤ kn := by omega
            have q1 : ¬ kn ≤ 122 := by omega
            have q2 : 48 ≤ kn := by omega
            have q3 : ¬ kn ≤ 57 := by omega
            have q4 : 65 ≤ kn := by omega
            have q5 : ¬ kn ≤ 90 := by omega
            clear hc
            go_wp2_with fail
            refine H33.out.mono ?_
            rintro e w' ⟨rfl, rfl⟩
            go_wp2_with fail
            exact ⟨rfl, hbel.out, .inl ⟨HR.out.no hp (by rw [HK.out]; exact HW.out) (by rw [HK.out]; exact H45.out) (by rw [HK.out]; exact HB.out) (by rw [HK.out]; exact HS.out), rfl⟩⟩
    · have hnx : ∀ ty, (Instr.next (.pointer (some ⟨w.heap.size + 1 + 1 + 1 + 1, 0, none⟩)) true ty).run Tryz.prog wr = _ := fun ty => Lib.run_next_end_at wr (w.heap.size + 4) s pos ty HR.out.mem.hI hp
      have hdn := Lib.hid (HR.out.done hp)
      obtain rfl := hdn.out.1
      clear hp
      have c0 : wr.cell? ⟨w.heap.size, 0, none⟩ = some (.string s) := HR.out.mem.cS
      have H31 : Hid (Calls Tryz.prog 31 #[.int .i64 s.size, .pointer (some ⟨w.heap.size + 1 + 1, 0, none⟩), .pointer (some ⟨w.heap.size + 1, 0, none⟩), .pointer (some ⟨w.heap.size + 1 + 1 + 1, 0, none⟩), .pointer (some ⟨w.heap.size, 0, none⟩)] wr fun e w' => e = .returned (.tuple #[]) ∧ ∃ v', ScanW s w (-1) kd.toNat s.size v' (close cur kd out).length (flat (close cur kd out)) w') := Lib.hid (shut_scan HR.out.mem HR.out.frm (Nat.le_refl _) hs (by have := HR.out.len; omega))
      go_wp2_with fail
      refine H31.out.mono ?_
      rintro e w2 ⟨rfl, v2, M2'⟩
      have M2 := Lib.hid M2'
      clear M2'
      have d1 : w2.cell? ⟨w.heap.size + 1, 0, none⟩ = some v2 := M2.out.cO
      go_wp2_with fail
      go_ret
      have hl2 := M2.out.lt
      obtain ⟨T, hT1, hT2, hT3⟩ := ownsRow_toks M2.out.own w.heap.size (by omega)
      exact ⟨M2.out.bel, .inr ⟨_, _, T, hdn.out.2, rfl, hT1, by omega, hT2⟩⟩
end Go.Proofs.YtdkhedefcmjjgaaGreatDoor
