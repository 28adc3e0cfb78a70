/- strings.ContainsRune at a rune beyond ASCII, walked: none of the signs is one.
Conditions: the rune is 128 or more. -/
import Derived.Test.YtdkhedefcmjjgaaGreatDoorMScan0
import Derived.WalkMore
import Derived.Lib.MapLaws
import Derived.IntWalk
import Derived.Deep.RegionWith
import Derived.Test.YtdkhedefcmjjgaaGreatDoorMScan
namespace Go.Proofs.YtdkhedefcmjjgaaGreatDoor
open Go.RowKit Sp
set_option linter.unusedSimpArgs false
set_option linter.unusedVariables false
theorem encode_far {r : Int} (h : 128 ≤ r) (hv : Lib.validRune r = true) : ∃ (E : ByteArray) (k : Nat), Utf8.encode r = E ∧ 1 ≤ k ∧ k ≤ 3 ∧ E.size = k + 1 ∧ ∀ hk : k < E.size, 128 ≤ (E[k]'hk).toNat := by
  have hv2 : Utf8.valid r = true := by
    unfold Lib.validRune at hv
    unfold Utf8.valid
    simp only [decide_eq_true_eq] at hv
    simp only [Bool.or_eq_true, Bool.and_eq_true, decide_eq_true_eq]
    omega
  have hb : ∀ n : Nat, n < 256 → (UInt8.ofNat n).toNat = n := fun n hn => by
    rw [UInt8.toNat_ofNat']
    exact Nat.mod_eq_of_lt hn
  obtain ⟨c, hc, hc8⟩ : ∃ c : Nat, (if Utf8.valid r then r.toNat else Utf8.runeError) = c ∧ 128 ≤ c := ⟨r.toNat, by rw [hv2]; rfl, by omega⟩
  have hl : 128 ≤ (UInt8.ofNat (128 + c % 64)).toNat := by rw [hb _ (by omega)]; omega
  have e : Utf8.encode r = (if c < 0x80 then ⟨#[UInt8.ofNat c]⟩ else if c < 0x800 then ⟨#[UInt8.ofNat (0xC0 + c / 64), UInt8.ofNat (0x80 + c % 64)]⟩ else if c < 0x10000 then ⟨#[UInt8.ofNat (0xE0 + c / 4096), UInt8.ofNat (0x80 + c / 64 % 64), UInt8.ofNat (0x80 + c % 64)]⟩ else ⟨#[UInt8.ofNat (0xF0 + c / 262144), UInt8.ofNat (0x80 + c / 4096 % 64), UInt8.ofNat (0x80 + c / 64 % 64), UInt8.ofNat (0x80 + c % 64)]⟩) := by
    unfold Utf8.encode
    simp only [hc]
  rw [if_neg (by omega)] at e
  split at e
  · exact ⟨_, 1, e, by omega, by omega, rfl, fun _ => hl⟩
  · split at e
    · exact ⟨_, 2, e, by omega, by omega, rfl, fun _ => hl⟩
    · exact ⟨_, 3, e, by omega, by omega, rfl, fun _ => hl⟩
theorem indexByte_no (l : Bs) (c : UInt8) (h : l.contains c = false) : Lib.indexByte l c < 0 := by
  rw [Lib.contains_iff_indexByte] at h
  have := of_decide_eq_false h
  omega
set_option maxRecDepth 100000 in
set_option maxHeartbeats 4000000 in
theorem indexRune_far (s : ByteArray) (hs : s.size = 9) (hA : ∀ i (h : i < s.size), (s[i]).toNat < 128) (r : Int) (hr : 128 ≤ r) (hr2 : r ≤ 2147483647) (hne : r ≠ 65533) (w : World) :
    Calls Tryz.prog 49 #[.string s, .int .i32 r] w fun e w' => e = .returned (.int .i64 (-1)) ∧ Below w.heap.size w w' := by
  have h1 : ¬ r < 128 := by omega
  have h2 : (r == 65533) = false := beq_eq_false_iff_ne.2 hne
  have HV := Lib.hid (Tryz.utf8_ValidRune r w)
  cases hv : Lib.validRune r with
  | false =>
    rw [hv] at HV
    clear hne
    go_enter Tryz.func49, Tryz.ntmps49
    go_wp2_with fail
    refine HV.out.mono ?_
    rintro e w1 ⟨rfl, rfl⟩
    go_wp2_with fail
    go_returns
    exact ⟨rfl, Below.refl _ _⟩
  | true =>
    rw [hv] at HV
    obtain ⟨E, k, hE, hk1, hk3, hk, hb⟩ := encode_far hr hv
    have hcv : ∀ W, (convert 21 9 (.int .i32 r)).run Tryz.prog W = .ok (.string E) W := fun W => by
      rw [run_convert_int_string W 21 9 .i32 _ (by kernel_rfl) Tryz.underlying9, hE]
    have hkE : k < E.size := by omega
    have hks : k < s.size := by omega
    have hne1 : (((s[k]).toNat : Int) != ((E[k]).toNat : Int)) = true := by
      have h3 := hA k hks
      have h4 := hb hkE
      simp
      omega
    have hsz : (E.size : Int) - 1 = k := by omega
    have HIB := Lib.hid (fun w => Tryz.strings_IndexByte (s.extract (k + 1) s.size) ((E[k]).toNat : Int) w)
    have hno : Lib.indexByte (s.extract (k + 1) s.size).data.toList ((E[k]).toNat : Int).toNat.toUInt8 < 0 := by
      apply indexByte_no
      rw [List.contains_eq_any_beq, List.any_eq_false]
      intro x hx
      have hx2 : x ∈ s.data.toList := by
        simp [ByteArray.data_extract] at hx
        exact List.mem_of_mem_drop (List.mem_of_mem_take hx)
      obtain ⟨j, hj, hjx⟩ := List.getElem_of_mem hx2
      have h3 : (s[j]'(by simpa using hj)).toNat < 128 := hA j (by simpa using hj)
      have h5 : s[j]'(by simpa using hj) = x := hjx
      rw [h5] at h3
      have h4 := hb hkE
      intro hq
      have hq2 := eq_of_beq hq
      rw [← hq2] at h3
      simp at h3
      omega
    generalize Lib.indexByte (s.extract (k + 1) s.size).data.toList ((E[k]).toNat : Int).toNat.toUInt8 = o at HIB hno
    have hE4 : E.size ≤ 4 := by omega
    have hs1 : s.size ≤ 9 := by omega
    have hs2 : 9 ≤ s.size := by omega
    clear hE hA hb hne hk hs
    go_enter Tryz.func49, Tryz.ntmps49
    go_wp2_with fail
    refine HV.out.mono ?_
    rintro e w1 ⟨rfl, rfl⟩
    go_wp2_with fail
    go_step3
    go_wp2_with fail
    go_loopw [9, 10] (fun t9 t10 wr => t9 = .int .i64 k ∧ t10 = .int .i64 0 ∧ w1 = wr) (fun _ _ _ => 0)
    case atStart => exact ⟨rfl, rfl, rfl⟩
    case round =>
      obtain ⟨rfl, rfl, rfl⟩ := hrel
      go_wp2_with fail
      go_step3
      go_wp2_with fail
      go_region
      go_wp2_with fail
      have y1 : IntKind.i64.wrap ((k : Int) + 1) = (k : Int) + 1 := IntWalk.i64_in _ (by omega)
      have y2 : 0 ≤ (k : Int) + 1 := by omega
      have y3 : ((k : Int) + 1).toNat = k + 1 := by omega
      have y4 : (k : Int) + 1 ≤ (s.size : Int) := by omega
      go_region_with (first | (go_at_call 65; refine (HIB.out _).mono ?_; rintro e w2 ⟨rfl, rfl⟩) | fail)
      go_wp2_with fail
      rw [Exit.noGoto_ret]
      go_wp2_with fail
      rw [Exit.noGoto_ret]
      go_wp2_with fail
      go_returns
      exact ⟨rfl, (Below.refl _ _).drew.drew⟩
set_option maxRecDepth 100000 in
set_option maxHeartbeats 4000000 in
theorem indexRune_bad (s : ByteArray) (hs : s.size ≤ 1000) (hA : ∀ i (h : i < s.size), (s[i]).toNat < 128) (w : World) :
    Calls Tryz.prog 49 #[.string s, .int .i32 65533] w fun e w' => e = .returned (.int .i64 (-1)) ∧ Below w.heap.size w w' := by
  have HA := Lib.hid hA
  clear hA
  go_enter Tryz.func49, Tryz.ntmps49
  go_wp2_with fail
  go_loopw [] (fun wr => ∃ pos, Hid (wr.heap[w.heap.size]? = some (.stringIter s pos) ∧ Below w.heap.size w wr)) (fun wr => s.size - wr.iterPos w.heap.size)
  case atStart => exact ⟨0, Lib.hid ⟨heap_alloc_new _ _, (Below.refl _ _).alloc (Nat.le_refl _) _⟩⟩
  case round =>
    obtain ⟨pos, hb⟩ := hrel
    by_cases hp : pos < s.size
    · have hnx : ∀ ty, (Instr.next (.pointer (some ⟨w.heap.size, 0, none⟩)) true ty).run Tryz.prog wr = _ := fun ty => Lib.run_next_ascii_at wr w.heap.size s pos ty hb.out.1 hp (HA.out pos hp)
      have hne : (((s[pos]).toNat : Int) == 65533) = false := beq_eq_false_iff_ne.2 (by have := HA.out pos hp; omega)
      go_wp2_with fail
      have h1 := Lib.iterAt_heap wr w.heap.size s pos (pos + 1) hb.out.1
      refine ⟨⟨pos + 1, Lib.hid ⟨h1, Lib.below_iterAt hb.out.2 (Nat.le_refl _) _ _⟩⟩, ?_⟩
      unfold World.iterPos
      rw [h1, hb.out.1]
      simp only
      omega
    · have hnx : ∀ ty, (Instr.next (.pointer (some ⟨w.heap.size, 0, none⟩)) true ty).run Tryz.prog wr = _ := fun ty => Lib.run_next_end_at wr w.heap.size s pos ty hb.out.1 hp
      go_wp2_with fail
      go_returns
      exact ⟨rfl, hb.out.2⟩
/-- None of a few ASCII bytes is a rune beyond ASCII. -/
theorem rune_far (s : ByteArray) (hs : s.size = 9) (hA : ∀ i (h : i < s.size), (s[i]).toNat < 128) (r : Int) (hr : 128 ≤ r) (hr2 : r ≤ 2147483647) (w : World) :
    Calls Tryz.prog 33 #[.string s, .int .i32 r] w fun e w' => e = .returned (.bool false) ∧ Below w.heap.size w w' := by
  have H : Hid (∀ w, Calls Tryz.prog 49 #[.string s, .int .i32 r] w fun e w' => e = .returned (.int .i64 (-1)) ∧ Below w.heap.size w w') := Lib.hid (fun w => by
    by_cases hne : r = 65533
    · subst hne
      exact indexRune_bad s (by omega) hA w
    · exact indexRune_far s hs hA r hr hr2 hne w)
  clear hs hA
  go_enter Tryz.func33, Tryz.ntmps33
  go_wp2_with fail
  refine (H.out _).mono ?_
  rintro e w1 ⟨rfl, hb⟩
  have HB := Lib.hid hb
  clear hb
  go_wp2_with fail
  go_returns
  exact ⟨rfl, HB.out⟩
theorem decodeN_far (n b0 b1 b2 b3 : Nat) (h : 128 ≤ b0) : 128 ≤ (Lib.decodeN n b0 b1 b2 b3).1 := by
  rcases Lib.decodeN_shape n b0 b1 b2 b3 with ⟨h0, e⟩ | ⟨_, _, _, h1, e⟩ | ⟨_, _, _, _, h1, _, e⟩ | ⟨_, _, _, _, _, h1, _, e⟩ | e
  · omega
  · rw [e]; exact h1
  · rw [e]; exact Nat.le_trans (by decide) h1
  · rw [e]; show 128 ≤ _; omega
  · rw [e]; show 128 ≤ 65533; omega
theorem decode_far (s : ByteArray) (pos : Nat) (h : pos < s.size) (ha : 128 ≤ (s[pos]'h).toNat) : 128 ≤ (Utf8.decode s pos).1 := by
  have e : s.get! pos = s[pos]'h := by
    simp [ByteArray.get!, getElem!_pos, h]
    rfl
  rw [Lib.decode_at]
  exact decodeN_far _ _ _ _ _ (by rw [e]; exact ha)
theorem byte_far {k : UInt8} {cur : Bs} (h : 128 ≤ k.toNat) : wordByte k = false ∧ (k == 45 && expo cur) = false ∧ (k == 32 || k == 9) = false ∧ isSign k = false := by
  have hne : ∀ c : UInt8, c.toNat < 128 → (k == c) = false := fun c hc => by
    rw [beq_eq_false_iff_ne]
    intro e
    rw [e] at h
    omega
  refine ⟨?_, by rw [hne 45 (by decide)]; rfl, by rw [hne 32 (by decide), hne 9 (by decide)]; rfl, ?_⟩
  · unfold wordByte small ten upper
    rw [hne 46 (by decide), hne 95 (by decide)]
    simp only [Bool.or_false, Bool.or_eq_false_iff, Bool.and_eq_false_iff, decide_eq_false_iff_not, UInt8.le_iff_toNat_le]
    refine ⟨⟨.inr ?_, .inr ?_⟩, .inr ?_⟩
    · show ¬ k.toNat ≤ 122; omega
    · show ¬ k.toNat ≤ 57; omega
    · show ¬ k.toNat ≤ 90; omega
  · unfold isSign
    rw [List.contains_eq_any_beq, List.any_eq_false]
    intro x hx hq
    rw [hne x (by
      have : ∀ c ∈ ([43, 45, 42, 47, 64, 40, 41, 44, 61] : Bs), c.toNat < 128 := by decide
      exact this x hx)] at hq
    cases hq
end Go.Proofs.YtdkhedefcmjjgaaGreatDoor
/- scan, walked, at every line: a byte beyond ASCII is wrong.
Conditions: the line is short. -/
namespace Go.Proofs.YtdkhedefcmjjgaaGreatDoor
open Go.RowKit Sp
set_option linter.unusedVariables false
set_option linter.unusedSimpArgs false
theorem byte3 (s : ByteArray) (pos : Nat) : (∃ h : pos < s.size, (s[pos]).toNat < 128) ∨ (∃ h : pos < s.size, 128 ≤ (s[pos]).toNat) ∨ ¬ pos < s.size := by
  by_cases h : pos < s.size
  · rcases Nat.lt_or_ge (s[pos]).toNat 128 with h1 | h1
    · exact .inl ⟨h, h1⟩
    · exact .inr (.inl ⟨h, h1⟩)
  · exact .inr (.inr h)
theorem signs_low : ∀ i (h : i < (bstr signsB).size), ((bstr signsB)[i]).toNat < 128 := fun i h => by
  have h2 : ∀ c ∈ signsB, c.toNat < 128 := by decide
  exact h2 _ (by
    have : (bstr signsB)[i] = signsB[i]'(by rw [bstr_size] at h; exact h) := rfl
    rw [this]
    exact List.getElem_mem _)
set_option maxRecDepth 100000 in
set_option maxHeartbeats 8000000 in
theorem scan_all (s : ByteArray) (hs : s.size ≤ 1000000) (w : World) : Calls Tryz.prog 15 #[.string s] w (ScanPost s.data.toList w) := by
  have hmf : ∀ (fn : Fn) (first cap : Array Value) (w : World), (Instr.makeFunc fn first cap).run Tryz.prog w = .ok (.func fn first cap) w := fun _ _ _ _ => rfl
  have h0 : ScanR s w 0 (-1) [] 0 [] (.slice none 0 0) (((((w.alloc (.cells #[.string s] 9)).alloc (.cells #[.slice none 0 0] 51)).alloc (.cells #[.int .i64 (-1)] 3)).alloc (.cells #[.int .u8 0] 5)).alloc (.stringIter s 0)) :=
    ⟨ScanW.start s w, rfl, .inl ⟨rfl, rfl⟩, by simp, Nat.zero_le _⟩
  have H0 := Lib.hid h0
  clear h0
  go_enter Tryz.func15, Tryz.ntmps15
  go_wp2_with fail
  go_loopw [] (fun wr => ∃ pos fr cur kd out v, Hid (ScanR s w pos fr cur kd out v wr)) (fun wr => s.size - posOf wr (w.heap.size + 4))
  case atStart => exact ⟨_, _, _, _, _, _, H0⟩
  case round =>
    obtain ⟨pos, fr, cur, kd, out, v, HR⟩ := hrel
    rcases byte3 s pos with ⟨hp, h128⟩ | ⟨hp, h128⟩ | hp
    · have hnx : ∀ ty, (Instr.next (.pointer (some ⟨w.heap.size + 1 + 1 + 1 + 1, 0, none⟩)) true ty).run Tryz.prog wr = _ := fun ty => Lib.run_next_ascii_at wr (w.heap.size + 4) s pos ty HR.out.mem.hI hp h128
      obtain ⟨w1, hw1⟩ : ∃ w1, w1 = wr.iterAt (w.heap.size + 4) s (pos + 1) := ⟨_, rfl⟩
      have M1 : Hid (ScanW s w fr kd.toNat (pos + 1) v out.length (flat out) w1) := Lib.hid (by rw [hw1]; exact HR.out.mem.iter (pos + 1))
      rw [← hw1] at hnx
      clear hw1
      have hm0 : Hid (s.size - posOf wr (w.heap.size + 4) = s.size - pos) := Lib.hid (by unfold posOf World.iterPos; rw [HR.out.mem.hI])
      have hpm : ∀ w' fr' cur' kd' out' v', ScanR s w (pos + 1) fr' cur' kd' out' v' w' → posOf w' (w.heap.size + 4) = pos + 1 := fun w' _ _ _ _ _ h => by unfold posOf World.iterPos; rw [h.mem.hI]
      have hfin : ∀ w' fr' cur' kd' out' v', ScanR s w (pos + 1) fr' cur' kd' out' v' w' → (∃ pos fr cur kd out v, Hid (ScanR s w pos fr cur kd out v w')) ∧ s.size - posOf w' (w.heap.size + 4) < s.size - posOf wr (w.heap.size + 4) := fun w' fr' cur' kd' out' v' h => by
        have e := hpm _ _ _ _ _ _ h
        have e0 := hm0.out
        exact ⟨⟨_, _, _, _, _, _, h⟩, by omega⟩
      have FIN := Lib.hid hfin
      clear hpm hfin
      obtain ⟨k, hk⟩ : ∃ k, s[pos] = k := ⟨_, rfl⟩
      have HK := Lib.hid hk
      have hk128 : k.toNat < 128 := by rw [← hk]; exact h128
      rw [hk] at hnx
      clear hk
      have c0 : w1.cell? ⟨w.heap.size, 0, none⟩ = some (.string s) := M1.out.cS
      have c1 : w1.cell? ⟨w.heap.size + 1, 0, none⟩ = some v := M1.out.cO
      have c2 : w1.cell? ⟨w.heap.size + 1 + 1, 0, none⟩ = some (.int .i64 fr) := M1.out.cF
      have c3 : w1.cell? ⟨w.heap.size + 1 + 1 + 1, 0, none⟩ = some (.int .u8 kd.toNat) := M1.out.cK
      have f2 : w1.frozen? ⟨w.heap.size + 1 + 1, 0, none⟩ = false := M1.out.fF
      have f3 : w1.frozen? ⟨w.heap.size + 1 + 1 + 1, 0, none⟩ = false := M1.out.fK
      have hfr : Hid (From s pos fr cur) := Lib.hid HR.out.frm
      by_cases hword : wordByte k = true
      · -- a word's byte
        have hcls : (97 ≤ (k.toNat : Int) ∧ (k.toNat : Int) ≤ 122) ∨ (48 ≤ (k.toNat : Int) ∧ (k.toNat : Int) ≤ 57) ∨ (65 ≤ (k.toNat : Int) ∧ (k.toNat : Int) ≤ 90) ∨ (k.toNat : Int) = 46 ∨ (k.toNat : Int) = 95 := by
          unfold wordByte at hword
          simp only [Bool.or_eq_true, small_iff, ten_iff, upper_iff, beq_iff_eq] at hword
          rcases hword with (((h | h) | h) | h) | h
          · exact .inl h
          · exact .inr (.inl h)
          · exact .inr (.inr (.inl h))
          · exact .inr (.inr (.inr (.inl (by rw [h]; rfl))))
          · exact .inr (.inr (.inr (.inr (by rw [h]; rfl))))
        have HW := Lib.hid hword
        clear hword
        have hsm : Hid ((97 ≤ (k.toNat : Int) ∧ (k.toNat : Int) ≤ 122 → small k = true) ∧ (¬ (97 ≤ (k.toNat : Int) ∧ (k.toNat : Int) ≤ 122) → small k = false)) := Lib.hid ⟨(small_iff k).2, fun h => by cases hs : small k; rfl; exact absurd ((small_iff k).1 hs) h⟩
        obtain ⟨kn, hkn⟩ : ∃ kn : Int, kn = (k.toNat : Int) := ⟨_, rfl⟩
        rw [← hkn] at hnx hcls hsm
        have HKN := Lib.hid hkn
        clear hkn
        rcases hfr.out with ⟨rfl, rfl⟩ | ⟨a, rfl, ha, hca⟩
        · have fin1 : small k = true → ScanR s w (pos + 1) pos [k] 110 out v (((w1.setCell ⟨w.heap.size + 1 + 1, 0, none⟩ (.int .i64 pos)).setCell ⟨w.heap.size + 1 + 1 + 1, 0, none⟩ (.int .u8 100)).setCell ⟨w.heap.size + 1 + 1 + 1, 0, none⟩ (.int .u8 110)) := fun h1 => by
            have := HR.out.begin hp (by rw [HK.out]; exact HW.out) (kd' := 110) (by rw [HK.out, h1]; rfl) (((M1.out.setF pos).setK 100).setK 110)
            rw [HK.out] at this
            exact this
          have fin2 : small k = false → ScanR s w (pos + 1) pos [k] 100 out v ((w1.setCell ⟨w.heap.size + 1 + 1, 0, none⟩ (.int .i64 pos)).setCell ⟨w.heap.size + 1 + 1 + 1, 0, none⟩ (.int .u8 100)) := fun h1 => by
            have := HR.out.begin hp (by rw [HK.out]; exact HW.out) (kd' := 100) (by rw [HK.out, h1]; rfl) ((M1.out.setF pos).setK 100)
            rw [HK.out] at this
            exact this
          have FIN1 := Lib.hid fin1
          have FIN2 := Lib.hid fin2
          clear fin1 fin2
          rcases hcls with hc | hc | hc | rfl | rfl
          · obtain ⟨hc1, hc2⟩ := hc
            have hd1 : 48 ≤ kn := by omega
            have hd2 : ¬ kn ≤ 57 := by omega
            have hsk := Lib.hid (hsm.out.1 ⟨hc1, hc2⟩)
            go_wp2_with fail
            exact FIN.out _ _ _ _ _ _ (FIN1.out hsk.out)
          · obtain ⟨hc1, hc2⟩ := hc
            have hd1 : ¬ 97 ≤ kn := by omega
            have hsk := Lib.hid (hsm.out.2 (by omega))
            go_wp2_with fail
            exact FIN.out _ _ _ _ _ _ (FIN2.out hsk.out)
          · obtain ⟨hc1, hc2⟩ := hc
            have hd1 : ¬ 97 ≤ kn := by omega
            have hd2 : ¬ kn ≤ 57 := by omega
            have hd3 : 48 ≤ kn := by omega
            have hsk := Lib.hid (hsm.out.2 (by omega))
            go_wp2_with fail
            exact FIN.out _ _ _ _ _ _ (FIN2.out hsk.out)
          · have hsk := Lib.hid (hsm.out.2 (by omega))
            go_wp2_with fail
            exact FIN.out _ _ _ _ _ _ (FIN2.out hsk.out)
          · have hsk := Lib.hid (hsm.out.2 (by omega))
            go_wp2_with fail
            exact FIN.out _ _ _ _ _ _ (FIN2.out hsk.out)
        · have fin1 : ScanR s w (pos + 1) a (cur ++ [k]) kd out v w1 := by
            have := HR.out.on hp (.inl (by rw [HK.out]; exact HW.out)) M1.out
            rw [HK.out] at this
            exact this
          have FIN1 := Lib.hid fin1
          clear fin1 hca
          have ha0 : (0 : Int) ≤ (a : Int) := by omega
          rcases hcls with hc | hc | hc | rfl | rfl
          · obtain ⟨hc1, hc2⟩ := hc
            have hd1 : 48 ≤ kn := by omega
            have hd2 : ¬ kn ≤ 57 := by omega
            go_wp2_with fail
            exact FIN.out _ _ _ _ _ _ FIN1.out
          · obtain ⟨hc1, hc2⟩ := hc
            have hd1 : ¬ 97 ≤ kn := by omega
            go_wp2_with fail
            exact FIN.out _ _ _ _ _ _ FIN1.out
          · obtain ⟨hc1, hc2⟩ := hc
            have hd1 : ¬ 97 ≤ kn := by omega
            have hd2 : ¬ kn ≤ 57 := by omega
            have hd3 : 48 ≤ kn := by omega
            go_wp2_with fail
            exact FIN.out _ _ _ _ _ _ FIN1.out
          · go_wp2_with fail
            exact FIN.out _ _ _ _ _ _ FIN1.out
          · go_wp2_with fail
            exact FIN.out _ _ _ _ _ _ FIN1.out
      · have hword' : wordByte k = false := by simpa using hword
        clear hword
        have HW := Lib.hid hword'
        clear hword'
        obtain ⟨kn, hkn⟩ : ∃ kn : Int, kn = (k.toNat : Int) := ⟨_, rfl⟩
        have hcls : Hid (((kn < 48) ∨ (58 ≤ kn ∧ kn ≤ 64) ∨ (91 ≤ kn ∧ kn ≤ 96) ∨ (122 < kn)) ∧ kn ≠ 46 ∧ kn ≠ 95) := Lib.hid (by rw [hkn]; exact no_word_iv HW.out)
        rw [← hkn] at hnx
        have hkq : ∀ n : Nat, n < 256 → (k == UInt8.ofNat n) = (kn == (n : Int)) := fun n hn => by
          rw [Bool.eq_iff_iff, beq_iff_eq, beq_iff_eq]
          exact ⟨fun e => by rw [hkn, e, UInt8.toNat_ofNat', Nat.mod_eq_of_lt hn], fun e => eq_of_num hn (by rw [← hkn, e])⟩
        have HQ := Lib.hid hkq
        clear hkq
        have hcv1 : ∀ W, (convert 21 5 (.int .i32 kn)).run Tryz.prog W = .ok (.int .u8 kn) W := fun W => by rw [hkn]; exact run_rune_byte k W
        have hcv2 : ∀ W, (convert 21 9 (.int .i32 kn)).run Tryz.prog W = .ok (.string (bstr [k])) W := fun W => by rw [hkn]; exact run_rune_string k hk128 W
        have hrs : Hid (Calls Tryz.prog 33 #[.string (bstr signsB), .int .i32 kn] w1 fun e w' => e = .returned (.bool (isSign k)) ∧ w1 = w') := Lib.hid (by rw [hkn]; exact rune_sign k hk128 w1)
        have H31 : Hid (Calls Tryz.prog 31 #[.int .i64 pos, .pointer (some ⟨w.heap.size + 1 + 1, 0, none⟩), .pointer (some ⟨w.heap.size + 1, 0, none⟩), .pointer (some ⟨w.heap.size + 1 + 1 + 1, 0, none⟩), .pointer (some ⟨w.heap.size, 0, none⟩)] w1 fun e w' => e = .returned (.tuple #[]) ∧ ∃ v', ScanW s w (-1) kd.toNat (pos + 1) v' (close cur kd out).length (flat (close cur kd out)) w') := Lib.hid (shut_scan M1.out hfr.out (by omega) hs (by have := HR.out.len; omega))
        have HKN := Lib.hid hkn
        clear hkn
        obtain ⟨i0, hi0, hz0, hz1, hz2⟩ := info_parts info70z
        have t46 : (kn == 46) = false := beq_eq_false_iff_ne.2 hcls.out.2.1
        have t95 : (kn == 95) = false := beq_eq_false_iff_ne.2 hcls.out.2.2
        by_cases hb : (k == 32 || k == 9) = true
        · -- a blank
          have h48 : kn < 48 := by
            simp only [Bool.or_eq_true, beq_iff_eq] at hb
            rw [HKN.out]
            rcases hb with e | e <;> (rw [e]; decide)
          have q1 : ¬ 97 ≤ kn := by omega
          have q2 : ¬ 48 ≤ kn := by omega
          have q3 : ¬ 65 ≤ kn := by omega
          have t45 : (kn == 45) = false := beq_eq_false_iff_ne.2 (by
            simp only [Bool.or_eq_true, beq_iff_eq] at hb
            rw [HKN.out]
            rcases hb with e | e <;> (rw [e]; decide))
          have hw32 : s[pos] = 32 ∨ s[pos] = 9 := by rw [HK.out]; simpa using hb
          have HB := Lib.hid hw32
          clear hw32
          have hbb : Hid ((kn == 32) = true ∨ (kn == 32) = false ∧ (kn == 9) = true) := Lib.hid (by
            have e1 := HQ.out 32 (by decide)
            have e2 := HQ.out 9 (by decide)
            rw [Bool.or_eq_true] at hb
            by_cases h32 : (k == 32) = true
            · exact .inl (e1 ▸ h32)
            · rcases hb with h | h
              · exact absurd h h32
              · exact .inr ⟨by rw [← (show (k == 32) = (kn == 32) from e1)]; simpa using h32, e2 ▸ h⟩)
          clear hb
          rcases hbb.out with e1 | ⟨e1, e2⟩
          all_goals
            go_wp2_with fail
            refine H31.out.mono ?_
            rintro e w2 ⟨rfl, v2, M2'⟩
            have M2 := Lib.hid M2'
            clear M2'
            go_wp2_with fail
            exact FIN.out _ _ _ _ _ _ (HR.out.blank hp HB.out M2.out)
        have hb' : (k == 32 || k == 9) = false := by simpa using hb
        clear hb
        have t32 : (kn == 32) = false := by have e : (k == 32) = (kn == 32) := HQ.out 32 (by decide); rw [← e]; exact (Bool.or_eq_false_iff.1 hb').1
        have t9 : (kn == 9) = false := by have e : (k == 9) = (kn == 9) := HQ.out 9 (by decide); rw [← e]; exact (Bool.or_eq_false_iff.1 hb').2
        have HB := Lib.hid hb'
        clear hb'
        by_cases h45 : kn = 45
        · -- a minus
          have HS : Hid (isSign k = true) := Lib.hid (by rw [show k = 45 from eq_of_num (n := 45) (by decide) (by rw [← HKN.out, h45]; rfl)]; rfl)
          have H33 : Hid (Calls Tryz.prog 33 #[.string (bstr signsB), .int .i32 kn] w1 fun e w' => e = .returned (.bool true) ∧ w1 = w') := Lib.hid (by have := hrs.out; rw [HS.out] at this; exact this)
          have hk45 : Hid (s[pos] = 45) := Lib.hid (by rw [HK.out]; exact eq_of_num (n := 45) (by decide) (by rw [← HKN.out, h45]; rfl))
          have t45 : (kn == 45) = true := beq_iff_eq.2 h45
          have q1 : ¬ 97 ≤ kn := by omega
          have q2 : ¬ 48 ≤ kn := by omega
          have q3 : ¬ 65 ≤ kn := by omega
          clear h45
          rcases hfr.out with ⟨rfl, rfl⟩ | ⟨a, rfl, ha, hca⟩
          · have H45 : Hid ((k == 45 && expo []) = false) := Lib.hid (by simp [expo])
            have H32 := Lib.hid (exponent_none s pos w1)
            go_wp2_with fail
            refine H32.out.mono ?_
            rintro e w' ⟨rfl, rfl⟩
            go_wp2_with fail
            refine H33.out.mono ?_
            rintro e w' ⟨rfl, rfl⟩
            go_wp2_with fail
            refine H31.out.mono ?_
            rintro e w2 ⟨rfl, v2, M2'⟩
            have M2 := Lib.hid M2'
            clear M2'
            clear c0 c1 c2 c3 f2 f3
            have d1 : w2.cell? ⟨w.heap.size + 1, 0, none⟩ = some v2 := M2.out.cO
            have g1 : w2.frozen? ⟨w.heap.size + 1, 0, none⟩ = false := M2.out.fO
            have hsz2 := M2.out.lt
            have hown2 := Lib.hid M2.out.own
            have hne : Hid (some (w.heap.size + 1) ≠ v2.ownBlock) := Lib.hid (fun e => by have := (M2.out.far _ e.symm).1; omega)
            have hlen := Lib.hid HR.out.len
            have hle := Lib.hid HR.out.le
            have hm5 : Hid ((close [] kd out).length + 1 ≤ maxLen ∧ ((close [] kd out).length + 1) * 24 ≤ 140737488355328) := Lib.hid (by rw [close_len]; have := hlen.out; have := hle.out; unfold maxLen; omega)
            have hC : ∀ (o : Obj) (p : Addr) (u : Value), w2.cell? p = some u → (w2.alloc o).cell? p = some u := fun o p u h => cell_old ((Below.refl w2.heap.size w2).alloc (Nat.le_refl _) o) h
            have hF : ∀ (o : Obj) (p : Addr), p.block < w2.heap.size → w2.frozen? p = false → (w2.alloc o).frozen? p = false := fun o p hp h => ((((Below.refl w2.heap.size w2).alloc (Nat.le_refl _) o).frozen hp)).trans h
            have HC := Lib.hid hC
            have HF := Lib.hid hF
            clear hC hF
            go_wp2_with (at_builtin; refine Classical.byContradiction (fun hstop => ?_))
            apply hstop
            clear hstop
            refine wpList_append_lies _ rfl _ _ _ rfl (w.heap.size + 5) 70 i0 _ 2 24 under51 hi0 hz0 hz1 hz2 rfl (by decide) v2 _ _ rfl (hown2.out.alloc _) ⟨w2.heap.size, 0, none⟩ 1 1 [.int .u8 kn, .string (bstr [k])] rfl rfl (World.news_of_block (heap_alloc_new _ _)) (by simp [Value.oneCell']) (by omega) hm5.out.1 hm5.out.2 (by simp; omega) _ rfl ?_
            intro g cap wa hown3 hga hat hlt
            have jO := (hga.cell_far ⟨w.heap.size + 1, 0, none⟩ (by simp; omega) hne.out).trans (HC.out _ _ _ d1)
            have jOf := (hga.frozen_far ⟨w.heap.size + 1, 0, none⟩ (by simp; omega) hne.out).trans (HF.out _ _ (by show w.heap.size + 1 < w2.heap.size; omega) g1)
            go_wp2_with fail
            refine FIN.out _ _ _ _ _ _ (HR.out.sign (v' := .slice (some ⟨g, 0, none⟩) ((close [] kd out).length + 1) cap) hp (by rw [HK.out]; exact HW.out) (by rw [HK.out]; exact H45.out) (by rw [HK.out]; exact HB.out) (by rw [HK.out]; exact HS.out) ?_)
            rw [HK.out, ← HKN.out]
            exact M2.out.push hga hown3
          · have hee := expo_ext ha hp hk45.out hca
            have H32' := exponent_some s a pos w1 ha hp hs
            rw [← hee] at H32'
            clear hee hca
            cases hex : expo cur with
            | true =>
              have H32 := Lib.hid (hex ▸ H32')
              have fin1 : ScanR s w (pos + 1) a (cur ++ [k]) kd out v w1 := by
                have := HR.out.on hp (.inr ⟨hk45.out, hex⟩) M1.out
                rw [HK.out] at this
                exact this
              have FIN1 := Lib.hid fin1
              clear fin1 hex H32'
              go_wp2_with fail
              refine H32.out.mono ?_
              rintro e w' ⟨rfl, rfl⟩
              go_wp2_with fail
              exact FIN.out _ _ _ _ _ _ FIN1.out
            | false =>
              have H32 := Lib.hid (hex ▸ H32')
              have H45 : Hid ((k == 45 && expo cur) = false) := Lib.hid (by rw [hex, Bool.and_false])
              clear hex H32'
              go_wp2_with fail
              refine H32.out.mono ?_
              rintro e w' ⟨rfl, rfl⟩
              go_wp2_with fail
              refine H33.out.mono ?_
              rintro e w' ⟨rfl, rfl⟩
              go_wp2_with fail
              refine H31.out.mono ?_
              rintro e w2 ⟨rfl, v2, M2'⟩
              have M2 := Lib.hid M2'
              clear M2'
              clear c0 c1 c2 c3 f2 f3
              have d1 : w2.cell? ⟨w.heap.size + 1, 0, none⟩ = some v2 := M2.out.cO
              have g1 : w2.frozen? ⟨w.heap.size + 1, 0, none⟩ = false := M2.out.fO
              have hsz2 := M2.out.lt
              have hown2 := Lib.hid M2.out.own
              have hne : Hid (some (w.heap.size + 1) ≠ v2.ownBlock) := Lib.hid (fun e => by have := (M2.out.far _ e.symm).1; omega)
              have hlen := Lib.hid HR.out.len
              have hle := Lib.hid HR.out.le
              have hm5 : Hid ((close cur kd out).length + 1 ≤ maxLen ∧ ((close cur kd out).length + 1) * 24 ≤ 140737488355328) := Lib.hid (by rw [close_len]; have := hlen.out; have := hle.out; unfold maxLen; omega)
              have hC : ∀ (o : Obj) (p : Addr) (u : Value), w2.cell? p = some u → (w2.alloc o).cell? p = some u := fun o p u h => cell_old ((Below.refl w2.heap.size w2).alloc (Nat.le_refl _) o) h
              have hF : ∀ (o : Obj) (p : Addr), p.block < w2.heap.size → w2.frozen? p = false → (w2.alloc o).frozen? p = false := fun o p hp h => ((((Below.refl w2.heap.size w2).alloc (Nat.le_refl _) o).frozen hp)).trans h
              have HC := Lib.hid hC
              have HF := Lib.hid hF
              clear hC hF
              go_wp2_with (at_builtin; refine Classical.byContradiction (fun hstop => ?_))
              apply hstop
              clear hstop
              refine wpList_append_lies _ rfl _ _ _ rfl (w.heap.size + 5) 70 i0 _ 2 24 under51 hi0 hz0 hz1 hz2 rfl (by decide) v2 _ _ rfl (hown2.out.alloc _) ⟨w2.heap.size, 0, none⟩ 1 1 [.int .u8 kn, .string (bstr [k])] rfl rfl (World.news_of_block (heap_alloc_new _ _)) (by simp [Value.oneCell']) (by omega) hm5.out.1 hm5.out.2 (by simp; omega) _ rfl ?_
              intro g cap wa hown3 hga hat hlt
              have jO := (hga.cell_far ⟨w.heap.size + 1, 0, none⟩ (by simp; omega) hne.out).trans (HC.out _ _ _ d1)
              have jOf := (hga.frozen_far ⟨w.heap.size + 1, 0, none⟩ (by simp; omega) hne.out).trans (HF.out _ _ (by show w.heap.size + 1 < w2.heap.size; omega) g1)
              go_wp2_with fail
              refine FIN.out _ _ _ _ _ _ (HR.out.sign (v' := .slice (some ⟨g, 0, none⟩) ((close cur kd out).length + 1) cap) hp (by rw [HK.out]; exact HW.out) (by rw [HK.out]; exact H45.out) (by rw [HK.out]; exact HB.out) (by rw [HK.out]; exact HS.out) ?_)
              rw [HK.out, ← HKN.out]
              exact M2.out.push hga hown3
        have t45 : (kn == 45) = false := beq_eq_false_iff_ne.2 h45
        have H45 : Hid ((k == 45 && expo cur) = false) := Lib.hid (by rw [show (k == 45) = (kn == 45) from HQ.out 45 (by decide), t45]; rfl)
        clear h45
        cases hsg : isSign k with
        | true =>
          have HS := Lib.hid hsg
          have H33 : Hid (Calls Tryz.prog 33 #[.string (bstr signsB), .int .i32 kn] w1 fun e w' => e = .returned (.bool true) ∧ w1 = w') := Lib.hid (by have := hrs.out; rw [hsg] at this; exact this)
          clear hsg
          rcases hcls.out.1 with hc | hc | hc | hc
          · have q0 : ¬ 97 ≤ kn := by omega
            have q1 : ¬ 48 ≤ kn := by omega
            have q2 : ¬ 65 ≤ kn := by omega
            clear hc
            go_wp2_with fail
            refine H33.out.mono ?_
            rintro e w' ⟨rfl, rfl⟩
            go_wp2_with fail
            refine H31.out.mono ?_
            rintro e w2 ⟨rfl, v2, M2'⟩
            have M2 := Lib.hid M2'
            clear M2'
            clear c0 c1 c2 c3 f2 f3
            have d1 : w2.cell? ⟨w.heap.size + 1, 0, none⟩ = some v2 := M2.out.cO
            have g1 : w2.frozen? ⟨w.heap.size + 1, 0, none⟩ = false := M2.out.fO
            have hsz2 := M2.out.lt
            have hown2 := Lib.hid M2.out.own
            have hne : Hid (some (w.heap.size + 1) ≠ v2.ownBlock) := Lib.hid (fun e => by have := (M2.out.far _ e.symm).1; omega)
            have hlen := Lib.hid HR.out.len
            have hle := Lib.hid HR.out.le
            have hm5 : Hid ((close cur kd out).length + 1 ≤ maxLen ∧ ((close cur kd out).length + 1) * 24 ≤ 140737488355328) := Lib.hid (by rw [close_len]; have := hlen.out; have := hle.out; unfold maxLen; omega)
            have hC : ∀ (o : Obj) (p : Addr) (u : Value), w2.cell? p = some u → (w2.alloc o).cell? p = some u := fun o p u h => cell_old ((Below.refl w2.heap.size w2).alloc (Nat.le_refl _) o) h
            have hF : ∀ (o : Obj) (p : Addr), p.block < w2.heap.size → w2.frozen? p = false → (w2.alloc o).frozen? p = false := fun o p hp h => ((((Below.refl w2.heap.size w2).alloc (Nat.le_refl _) o).frozen hp)).trans h
            have HC := Lib.hid hC
            have HF := Lib.hid hF
            clear hC hF
            go_wp2_with (at_builtin; refine Classical.byContradiction (fun hstop => ?_))
            apply hstop
            clear hstop
            refine wpList_append_lies _ rfl _ _ _ rfl (w.heap.size + 5) 70 i0 _ 2 24 under51 hi0 hz0 hz1 hz2 rfl (by decide) v2 _ _ rfl (hown2.out.alloc _) ⟨w2.heap.size, 0, none⟩ 1 1 [.int .u8 kn, .string (bstr [k])] rfl rfl (World.news_of_block (heap_alloc_new _ _)) (by simp [Value.oneCell']) (by omega) hm5.out.1 hm5.out.2 (by simp; omega) _ rfl ?_
            intro g cap wa hown3 hga hat hlt
            have jO := (hga.cell_far ⟨w.heap.size + 1, 0, none⟩ (by simp; omega) hne.out).trans (HC.out _ _ _ d1)
            have jOf := (hga.frozen_far ⟨w.heap.size + 1, 0, none⟩ (by simp; omega) hne.out).trans (HF.out _ _ (by show w.heap.size + 1 < w2.heap.size; omega) g1)
            go_wp2_with fail
            refine FIN.out _ _ _ _ _ _ (HR.out.sign (v' := .slice (some ⟨g, 0, none⟩) ((close cur kd out).length + 1) cap) hp (by rw [HK.out]; exact HW.out) (by rw [HK.out]; exact H45.out) (by rw [HK.out]; exact HB.out) (by rw [HK.out]; exact HS.out) ?_)
            rw [HK.out, ← HKN.out]
            exact M2.out.push hga hown3
          · have q0 : ¬ 97 ≤ kn := by omega
            have q1 : 48 ≤ kn := by omega
            have q2 : ¬ kn ≤ 57 := by omega
            have q3 : ¬ 65 ≤ kn := by omega
            clear hc
            go_wp2_with fail
            refine H33.out.mono ?_
            rintro e w' ⟨rfl, rfl⟩
            go_wp2_with fail
            refine H31.out.mono ?_
            rintro e w2 ⟨rfl, v2, M2'⟩
            have M2 := Lib.hid M2'
            clear M2'
            clear c0 c1 c2 c3 f2 f3
            have d1 : w2.cell? ⟨w.heap.size + 1, 0, none⟩ = some v2 := M2.out.cO
            have g1 : w2.frozen? ⟨w.heap.size + 1, 0, none⟩ = false := M2.out.fO
            have hsz2 := M2.out.lt
            have hown2 := Lib.hid M2.out.own
            have hne : Hid (some (w.heap.size + 1) ≠ v2.ownBlock) := Lib.hid (fun e => by have := (M2.out.far _ e.symm).1; omega)
            have hlen := Lib.hid HR.out.len
            have hle := Lib.hid HR.out.le
            have hm5 : Hid ((close cur kd out).length + 1 ≤ maxLen ∧ ((close cur kd out).length + 1) * 24 ≤ 140737488355328) := Lib.hid (by rw [close_len]; have := hlen.out; have := hle.out; unfold maxLen; omega)
            have hC : ∀ (o : Obj) (p : Addr) (u : Value), w2.cell? p = some u → (w2.alloc o).cell? p = some u := fun o p u h => cell_old ((Below.refl w2.heap.size w2).alloc (Nat.le_refl _) o) h
            have hF : ∀ (o : Obj) (p : Addr), p.block < w2.heap.size → w2.frozen? p = false → (w2.alloc o).frozen? p = false := fun o p hp h => ((((Below.refl w2.heap.size w2).alloc (Nat.le_refl _) o).frozen hp)).trans h
            have HC := Lib.hid hC
            have HF := Lib.hid hF
            clear hC hF
            go_wp2_with (at_builtin; refine Classical.byContradiction (fun hstop => ?_))
            apply hstop
            clear hstop
            refine wpList_append_lies _ rfl _ _ _ rfl (w.heap.size + 5) 70 i0 _ 2 24 under51 hi0 hz0 hz1 hz2 rfl (by decide) v2 _ _ rfl (hown2.out.alloc _) ⟨w2.heap.size, 0, none⟩ 1 1 [.int .u8 kn, .string (bstr [k])] rfl rfl (World.news_of_block (heap_alloc_new _ _)) (by simp [Value.oneCell']) (by omega) hm5.out.1 hm5.out.2 (by simp; omega) _ rfl ?_
            intro g cap wa hown3 hga hat hlt
            have jO := (hga.cell_far ⟨w.heap.size + 1, 0, none⟩ (by simp; omega) hne.out).trans (HC.out _ _ _ d1)
            have jOf := (hga.frozen_far ⟨w.heap.size + 1, 0, none⟩ (by simp; omega) hne.out).trans (HF.out _ _ (by show w.heap.size + 1 < w2.heap.size; omega) g1)
            go_wp2_with fail
            refine FIN.out _ _ _ _ _ _ (HR.out.sign (v' := .slice (some ⟨g, 0, none⟩) ((close cur kd out).length + 1) cap) hp (by rw [HK.out]; exact HW.out) (by rw [HK.out]; exact H45.out) (by rw [HK.out]; exact HB.out) (by rw [HK.out]; exact HS.out) ?_)
            rw [HK.out, ← HKN.out]
            exact M2.out.push hga hown3
          · have q0 : ¬ 97 ≤ kn := by omega
            have q1 : 48 ≤ kn := by omega
            have q2 : ¬ kn ≤ 57 := by omega
            have q3 : 65 ≤ kn := by omega
            have q4 : ¬ kn ≤ 90 := by omega
            clear hc
            go_wp2_with fail
            refine H33.out.mono ?_
            rintro e w' ⟨rfl, rfl⟩
            go_wp2_with fail
            refine H31.out.mono ?_
            rintro e w2 ⟨rfl, v2, M2'⟩
            have M2 := Lib.hid M2'
            clear M2'
            clear c0 c1 c2 c3 f2 f3
            have d1 : w2.cell? ⟨w.heap.size + 1, 0, none⟩ = some v2 := M2.out.cO
            have g1 : w2.frozen? ⟨w.heap.size + 1, 0, none⟩ = false := M2.out.fO
            have hsz2 := M2.out.lt
            have hown2 := Lib.hid M2.out.own
            have hne : Hid (some (w.heap.size + 1) ≠ v2.ownBlock) := Lib.hid (fun e => by have := (M2.out.far _ e.symm).1; omega)
            have hlen := Lib.hid HR.out.len
            have hle := Lib.hid HR.out.le
            have hm5 : Hid ((close cur kd out).length + 1 ≤ maxLen ∧ ((close cur kd out).length + 1) * 24 ≤ 140737488355328) := Lib.hid (by rw [close_len]; have := hlen.out; have := hle.out; unfold maxLen; omega)
            have hC : ∀ (o : Obj) (p : Addr) (u : Value), w2.cell? p = some u → (w2.alloc o).cell? p = some u := fun o p u h => cell_old ((Below.refl w2.heap.size w2).alloc (Nat.le_refl _) o) h
            have hF : ∀ (o : Obj) (p : Addr), p.block < w2.heap.size → w2.frozen? p = false → (w2.alloc o).frozen? p = false := fun o p hp h => ((((Below.refl w2.heap.size w2).alloc (Nat.le_refl _) o).frozen hp)).trans h
            have HC := Lib.hid hC
            have HF := Lib.hid hF
            clear hC hF
            go_wp2_with (at_builtin; refine Classical.byContradiction (fun hstop => ?_))
            apply hstop
            clear hstop
            refine wpList_append_lies _ rfl _ _ _ rfl (w.heap.size + 5) 70 i0 _ 2 24 under51 hi0 hz0 hz1 hz2 rfl (by decide) v2 _ _ rfl (hown2.out.alloc _) ⟨w2.heap.size, 0, none⟩ 1 1 [.int .u8 kn, .string (bstr [k])] rfl rfl (World.news_of_block (heap_alloc_new _ _)) (by simp [Value.oneCell']) (by omega) hm5.out.1 hm5.out.2 (by simp; omega) _ rfl ?_
            intro g cap wa hown3 hga hat hlt
            have jO := (hga.cell_far ⟨w.heap.size + 1, 0, none⟩ (by simp; omega) hne.out).trans (HC.out _ _ _ d1)
            have jOf := (hga.frozen_far ⟨w.heap.size + 1, 0, none⟩ (by simp; omega) hne.out).trans (HF.out _ _ (by show w.heap.size + 1 < w2.heap.size; omega) g1)
            go_wp2_with fail
            refine FIN.out _ _ _ _ _ _ (HR.out.sign (v' := .slice (some ⟨g, 0, none⟩) ((close cur kd out).length + 1) cap) hp (by rw [HK.out]; exact HW.out) (by rw [HK.out]; exact H45.out) (by rw [HK.out]; exact HB.out) (by rw [HK.out]; exact HS.out) ?_)
            rw [HK.out, ← HKN.out]
            exact M2.out.push hga hown3
          · have q0 : 97 ≤ kn := by omega
            have q1 : ¬ kn ≤ 122 := by omega
            have q2 : 48 ≤ kn := by omega
            have q3 : ¬ kn ≤ 57 := by omega
            have q4 : 65 ≤ kn := by omega
            have q5 : ¬ kn ≤ 90 := by omega
            clear hc
            go_wp2_with fail
            refine H33.out.mono ?_
            rintro e w' ⟨rfl, rfl⟩
            go_wp2_with fail
            refine H31.out.mono ?_
            rintro e w2 ⟨rfl, v2, M2'⟩
            have M2 := Lib.hid M2'
            clear M2'
            clear c0 c1 c2 c3 f2 f3
            have d1 : w2.cell? ⟨w.heap.size + 1, 0, none⟩ = some v2 := M2.out.cO
            have g1 : w2.frozen? ⟨w.heap.size + 1, 0, none⟩ = false := M2.out.fO
            have hsz2 := M2.out.lt
            have hown2 := Lib.hid M2.out.own
            have hne : Hid (some (w.heap.size + 1) ≠ v2.ownBlock) := Lib.hid (fun e => by have := (M2.out.far _ e.symm).1; omega)
            have hlen := Lib.hid HR.out.len
            have hle := Lib.hid HR.out.le
            have hm5 : Hid ((close cur kd out).length + 1 ≤ maxLen ∧ ((close cur kd out).length + 1) * 24 ≤ 140737488355328) := Lib.hid (by rw [close_len]; have := hlen.out; have := hle.out; unfold maxLen; omega)
            have hC : ∀ (o : Obj) (p : Addr) (u : Value), w2.cell? p = some u → (w2.alloc o).cell? p = some u := fun o p u h => cell_old ((Below.refl w2.heap.size w2).alloc (Nat.le_refl _) o) h
            have hF : ∀ (o : Obj) (p : Addr), p.block < w2.heap.size → w2.frozen? p = false → (w2.alloc o).frozen? p = false := fun o p hp h => ((((Below.refl w2.heap.size w2).alloc (Nat.le_refl _) o).frozen hp)).trans h
            have HC := Lib.hid hC
            have HF := Lib.hid hF
            clear hC hF
            go_wp2_with (at_builtin; refine Classical.byContradiction (fun hstop => ?_))
            apply hstop
            clear hstop
            refine wpList_append_lies _ rfl _ _ _ rfl (w.heap.size + 5) 70 i0 _ 2 24 under51 hi0 hz0 hz1 hz2 rfl (by decide) v2 _ _ rfl (hown2.out.alloc _) ⟨w2.heap.size, 0, none⟩ 1 1 [.int .u8 kn, .string (bstr [k])] rfl rfl (World.news_of_block (heap_alloc_new _ _)) (by simp [Value.oneCell']) (by omega) hm5.out.1 hm5.out.2 (by simp; omega) _ rfl ?_
            intro g cap wa hown3 hga hat hlt
            have jO := (hga.cell_far ⟨w.heap.size + 1, 0, none⟩ (by simp; omega) hne.out).trans (HC.out _ _ _ d1)
            have jOf := (hga.frozen_far ⟨w.heap.size + 1, 0, none⟩ (by simp; omega) hne.out).trans (HF.out _ _ (by show w.heap.size + 1 < w2.heap.size; omega) g1)
            go_wp2_with fail
            refine FIN.out _ _ _ _ _ _ (HR.out.sign (v' := .slice (some ⟨g, 0, none⟩) ((close cur kd out).length + 1) cap) hp (by rw [HK.out]; exact HW.out) (by rw [HK.out]; exact H45.out) (by rw [HK.out]; exact HB.out) (by rw [HK.out]; exact HS.out) ?_)
            rw [HK.out, ← HKN.out]
            exact M2.out.push hga hown3
        | false =>
          have HS := Lib.hid hsg
          have H33 : Hid (Calls Tryz.prog 33 #[.string (bstr signsB), .int .i32 kn] w1 fun e w' => e = .returned (.bool false) ∧ w1 = w') := Lib.hid (by have := hrs.out; rw [hsg] at this; exact this)
          have hbel := Lib.hid M1.out.bel
          clear hsg
          rcases hcls.out.1 with hc | hc | hc | hc
          · have q0 : ¬ 97 ≤ kn := by omega
            have q1 : ¬ 48 ≤ kn := by omega
            have q2 : ¬ 65 ≤ kn := by omega
            clear hc
            go_wp2_with fail
            refine H33.out.mono ?_
            rintro e w' ⟨rfl, rfl⟩
            go_wp2_with fail
            exact ⟨rfl, hbel.out, .inl ⟨HR.out.no hp (by rw [HK.out]; exact HW.out) (by rw [HK.out]; exact H45.out) (by rw [HK.out]; exact HB.out) (by rw [HK.out]; exact HS.out), rfl⟩⟩
          · have q0 : ¬ 97 ≤ kn := by omega
            have q1 : 48 ≤ kn := by omega
            have q2 : ¬ kn ≤ 57 := by omega
            have q3 : ¬ 65 ≤ kn := by omega
            clear hc
            go_wp2_with fail
            refine H33.out.mono ?_
            rintro e w' ⟨rfl, rfl⟩
            go_wp2_with fail
            exact ⟨rfl, hbel.out, .inl ⟨HR.out.no hp (by rw [HK.out]; exact HW.out) (by rw [HK.out]; exact H45.out) (by rw [HK.out]; exact HB.out) (by rw [HK.out]; exact HS.out), rfl⟩⟩
          · have q0 : ¬ 97 ≤ kn := by omega
            have q1 : 48 ≤ kn := by omega
            have q2 : ¬ kn ≤ 57 := by omega
            have q3 : 65 ≤ kn := by omega
            have q4 : ¬ kn ≤ 90 := by omega
            clear hc
            go_wp2_with fail
            refine H33.out.mono ?_
            rintro e w' ⟨rfl, rfl⟩
            go_wp2_with fail
            exact ⟨rfl, hbel.out, .inl ⟨HR.out.no hp (by rw [HK.out]; exact HW.out) (by rw [HK.out]; exact H45.out) (by rw [HK.out]; exact HB.out) (by rw [HK.out]; exact HS.out), rfl⟩⟩
          · have q0 : 97 ≤ kn := by omega
            have q1 : ¬ kn ≤ 122 := by omega
            have q2 : 48 ≤ kn := by omega
            have q3 : ¬ kn ≤ 57 := by omega
            have q4 : 65 ≤ kn := by omega
            have q5 : ¬ kn ≤ 90 := by omega
            clear hc
            go_wp2_with fail
            refine H33.out.mono ?_
            rintro e w' ⟨rfl, rfl⟩
            go_wp2_with fail
            exact ⟨rfl, hbel.out, .inl ⟨HR.out.no hp (by rw [HK.out]; exact HW.out) (by rw [HK.out]; exact H45.out) (by rw [HK.out]; exact HB.out) (by rw [HK.out]; exact HS.out), rfl⟩⟩
    · have hnx : ∀ ty, (Instr.next (.pointer (some ⟨w.heap.size + 1 + 1 + 1 + 1, 0, none⟩)) true ty).run Tryz.prog wr = _ := fun ty => Lib.run_next_any_at wr (w.heap.size + 4) s pos ty HR.out.mem.hI hp
      have hge := decode_far s pos hp h128
      have hle := decode_le s pos
      have M1 := Lib.hid (HR.out.mem.iter (pos + (Utf8.decode s pos).2))
      generalize (Utf8.decode s pos).1 = rn at hnx hge hle
      generalize (Utf8.decode s pos).2 = wn at hnx M1
      generalize wr.iterAt (w.heap.size + 4) s (pos + wn) = w1 at hnx M1
      have hbyte := Lib.hid (byte_far (cur := cur) h128)
      have HNO := Lib.hid (HR.out.no hp hbyte.out.1 hbyte.out.2.1 hbyte.out.2.2.1 hbyte.out.2.2.2)
      have c0 : w1.cell? ⟨w.heap.size, 0, none⟩ = some (.string s) := M1.out.cS
      have c2 : w1.cell? ⟨w.heap.size + 1 + 1, 0, none⟩ = some (.int .i64 fr) := M1.out.cF
      have c3 : w1.cell? ⟨w.heap.size + 1 + 1 + 1, 0, none⟩ = some (.int .u8 kd.toNat) := M1.out.cK
      have hbel := Lib.hid M1.out.bel
      have H33 := Lib.hid (rune_far (bstr signsB) (by rw [bstr_size]; rfl) signs_low (rn : Int) (by omega) (by omega) w1)
      have q1 : 97 ≤ (rn : Int) := by omega
      have q2 : ¬ (rn : Int) ≤ 122 := by omega
      have q3 : 48 ≤ (rn : Int) := by omega
      have q4 : ¬ (rn : Int) ≤ 57 := by omega
      have q5 : 65 ≤ (rn : Int) := by omega
      have q6 : ¬ (rn : Int) ≤ 90 := by omega
      have r1 : ((rn : Int) == 46) = false := beq_eq_false_iff_ne.2 (by omega)
      have r2 : ((rn : Int) == 95) = false := beq_eq_false_iff_ne.2 (by omega)
      have r3 : ((rn : Int) == 45) = false := beq_eq_false_iff_ne.2 (by omega)
      have r4 : ((rn : Int) == 32) = false := beq_eq_false_iff_ne.2 (by omega)
      have r5 : ((rn : Int) == 9) = false := beq_eq_false_iff_ne.2 (by omega)
      clear h128 hge hle
      go_wp2_with fail
      refine H33.out.mono ?_
      rintro e w' ⟨rfl, hb33⟩
      have HB33 := Lib.hid (hbel.out.trans (hb33.mono hbel.out.size))
      clear hb33
      go_wp2_with fail
      exact ⟨rfl, HB33.out, .inl ⟨HNO.out, rfl⟩⟩
    · have hnx : ∀ ty, (Instr.next (.pointer (some ⟨w.heap.size + 1 + 1 + 1 + 1, 0, none⟩)) true ty).run Tryz.prog wr = _ := fun ty => Lib.run_next_end_at wr (w.heap.size + 4) s pos ty HR.out.mem.hI hp
      have hdn := Lib.hid (HR.out.done hp)
      obtain rfl := hdn.out.1
      clear hp
      have c0 : wr.cell? ⟨w.heap.size, 0, none⟩ = some (.string s) := HR.out.mem.cS
      have H31 : Hid (Calls Tryz.prog 31 #[.int .i64 s.size, .pointer (some ⟨w.heap.size + 1 + 1, 0, none⟩), .pointer (some ⟨w.heap.size + 1, 0, none⟩), .pointer (some ⟨w.heap.size + 1 + 1 + 1, 0, none⟩), .pointer (some ⟨w.heap.size, 0, none⟩)] wr fun e w' => e = .returned (.tuple #[]) ∧ ∃ v', ScanW s w (-1) kd.toNat s.size v' (close cur kd out).length (flat (close cur kd out)) w') := Lib.hid (shut_scan HR.out.mem HR.out.frm (Nat.le_refl _) hs (by have := HR.out.len; omega))
      go_wp2_with fail
      refine H31.out.mono ?_
      rintro e w2 ⟨rfl, v2, M2'⟩
      have M2 := Lib.hid M2'
      clear M2'
      have d1 : w2.cell? ⟨w.heap.size + 1, 0, none⟩ = some v2 := M2.out.cO
      go_wp2_with fail
      go_ret
      have hl2 := M2.out.lt
      obtain ⟨T, hT1, hT2, hT3⟩ := ownsRow_toks M2.out.own w.heap.size (by omega)
      exact ⟨M2.out.bel, .inr ⟨_, _, T, hdn.out.2, rfl, hT1, by omega, hT2⟩⟩
end Go.Proofs.YtdkhedefcmjjgaaGreatDoor
