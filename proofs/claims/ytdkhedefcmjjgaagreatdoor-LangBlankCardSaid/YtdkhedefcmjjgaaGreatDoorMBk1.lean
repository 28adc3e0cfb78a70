/- LangBlank, walked.
Conditions: the variables hold what they are laid with. -/
import Derived.Test.YtdkhedefcmjjgaaGreatDoorMBlank0
import Derived.Test.YtdkhedefcmjjgaaGreatDoorMLong0
namespace Go.Proofs.YtdkhedefcmjjgaaGreatDoor
open Go.RowKit Sp
set_option linter.unusedVariables false
set_option linter.unusedSimpArgs false
theorem iv2 {k : IntKind} {x y : Int} (h : x = y) : Value.int k x = Value.int k y := by rw [h]
theorem md_form {w : World} {B : Nat} {md : Md} {v : Value} (h : MdAt w B md v) : ∃ A n c, v = .slice A n c := by
  obtain ⟨cs, ho, _⟩ := h
  exact own_form ho
theorem MdAt.old {w w' : World} {B : Nat} {md : Md} {v : Value} (h : MdAt w B md v) (hb : Below w.heap.size w w') : MdAt w' B md v := by
  obtain ⟨cs, ho, hr⟩ := h
  exact ⟨cs, own_same ho (fun g hg => hb.block g (ho.lt g hg).2), hr.keep hb.size (fun k _ hk => hb.block k hk)⟩
theorem lineToks_len {m : Nums} {s s' : St} {ts : List Tok} {n : Int} (h : lineToks m s ts n = .ok s') : s'.decls.length ≤ s.decls.length + 1 := by
  unfold lineToks at h
  split at h
  · split at h
    · cases h
    · split at h
      · cases h
      · split at h
        · cases h
        · split at h
          · cases h
          · cases h
            exact Nat.le_succ _
  · split at h
    · split at h
      · cases h
      · split at h
        · cases h
        · split at h
          · cases h
          · split at h
            · cases h
            · split at h
              · cases h
              · cases h
                exact Nat.le_succ _
    · split at h
      · cases h
      · cases h
        simp
theorem line_len {m : Nums} {s s' : St} {l : Bs} {n : Int} (h : line m s l n = .ok s') : s'.decls.length ≤ s.decls.length + 1 := by
  unfold line at h
  split at h
  · cases h
    exact Nat.le_succ _
  · split at h
    · cases h
    · exact lineToks_len h
theorem lines_len {m : Nums} : ∀ {L : List Bs} {s s' : St} {i : Nat}, lines m s L i = .ok s' → s'.decls.length ≤ s.decls.length + L.length
  | [], s, s', i, h => by
    rw [lines] at h
    cases h
    exact Nat.le_refl _
  | l :: L, s, s', i, h => by
    rw [lines] at h
    split at h
    · cases h
    · rename_i s1 h1
      have a := line_len h1
      have b := lines_len h
      rw [List.length_cons]
      omega
theorem read_len (m : Nums) (t : Bs) : (Sp.read m t).1.decls.length ≤ t.length + 1 := by
  unfold Sp.read
  split
  · exact Nat.zero_le _
  · split
    · exact Nat.zero_le _
    · rename_i s h
      have a := lines_len h
      have b := textLines_len t
      split
      · exact Nat.zero_le _
      · have c : ([] : List Dc).length = 0 := rfl
        show s.decls.length ≤ _
        simp only [List.length_nil] at a
        omega
set_option maxRecDepth 100000 in
set_option maxHeartbeats 8000000 in
theorem langBlank_any (t : Bs) (w : World) (hE : Env w) : Calls Tryz.prog 3 #[.string (bstr t)] w fun e w' => e = .returned (.bool true) ∧ Below w.heap.size w w' := by
  have HA := Lib.hid (alive_any w hE)
  have HE := Lib.hid hE
  clear hE
  rcases Nat.lt_or_ge 3000 t.length with h3 | h3
  · have h4 : (3000 : Int) < ((bstr t).size : Int) := by rw [bstr_size]; omega
    clear h3
    go_enter Tryz.func3, Tryz.ntmps3
    go_wp2_with fail
    refine HA.out.mono ?_
    rintro e w1 ⟨rfl, hb1⟩
    have HB1 := Lib.hid hb1
    clear hb1
    go_wp2_with fail
    go_returns
    exact ⟨rfl, HB1.out⟩
  · have h4 : ¬ (3000 : Int) < ((bstr t).size : Int) := by rw [bstr_size]; omega
    obtain ⟨m, hmw, hmn⟩ := nums_ex
    go_enter Tryz.func3, Tryz.ntmps3
    go_wp2_with fail
    refine HA.out.mono ?_
    rintro e w1 ⟨rfl, hb1⟩
    have HB1 := Lib.hid hb1
    have HE1 := Lib.hid (HE.out.old hb1)
    clear hb1
    have HRD := Lib.hid (fun (u : Bs) (hu : u.length ≤ 65536) (W : World) (hW : Env W) => read_bl hmw hmn u hu W hW)
    obtain ⟨md1, l1, e1, hr1⟩ : ∃ md1 l1 e1, Sp.read m t = (md1, l1, e1) := ⟨_, _, _, rfl⟩
    have HR1 := Lib.hid hr1
    have HL1 : Hid (md1.decls.length ≤ 1000000) := Lib.hid (by
      have := read_len m t
      rw [hr1] at this
      have h9 : (md1, l1, e1).1.decls.length = md1.decls.length := rfl
      omega)
    clear hr1 hmw hmn
    go_wp2_with fail
    refine (HRD.out t (by omega) _ HE1.out).mono ?_
    rintro e w2 ⟨hb2, v1, rfl, hm1⟩
    rw [HR1.out] at hm1
    rw [HR1.out]
    obtain ⟨A1, n1, c1, rfl⟩ := md_form hm1
    have HB2 := Lib.hid (HB1.out.trans (hb2.mono HB1.out.size))
    have HM1 := Lib.hid hm1
    have HE2 := Lib.hid (HE1.out.old hb2)
    clear hb2 hm1
    go_wp2_with fail
    have hB0 := (Below.refl w2.heap.size w2).alloc (Nat.le_refl _) (.cells #[.string (bstr md1.name), .int .i64 md1.width, .slice A1 n1 c1] 25)
    have hA0 := heap_alloc_new w2 (.cells #[.string (bstr md1.name), .int .i64 md1.width, .slice A1 n1 c1] 25)
    generalize hW0 : w2.alloc _ = W0 at hB0 hA0
    have HA0 := Lib.hid hA0
    have HB0 := Lib.hid (HB2.out.trans (hB0.mono HB2.out.size))
    have HE0 := Lib.hid (HE2.out.old hB0)
    have HM0 := Lib.hid hB0
    clear hW0 hB0 hA0
    go_loopw [7, 8] (fun t7 t8 wr => ∃ i : Nat, t8 = .int .i64 i ∧ i ≤ t.length ∧ t7 = .string (bstr (headW ++ widen (t.take i))) ∧ W0 = wr) (fun _ t8 _ => t.length - (intOf t8).toNat)
    case atStart => exact ⟨0, rfl, Nat.zero_le _, rfl, rfl⟩
    case round =>
      obtain ⟨i, rfl, hi, rfl, rfl⟩ := hrel
      rcases Nat.lt_or_ge i t.length with hlt | hge
      · have hsz : i < (bstr t).size := by rw [bstr_size]; exact hlt
        have hex : (bstr t).extract i (i + 1) = bstr [t[i]] := by
          apply eq_bstr
          rw [ByteArray.data_extract]
          simp [bstr, List.extract_eq_take_drop, List.take_one, List.head?_drop, hlt]
          rfl
        have hsl : (bstr (headW ++ widen (t.take i))).size ≤ 10000 := by
          have hl := widen_len (t.take i)
          have h5 : (t.take i).length ≤ i := List.length_take_le _ _
          rw [bstr_size, List.length_append, head_len]
          omega
        have hs1 : (bstr [t[i]]).size = 1 := rfl
        have htk : t.take (i + 1) = t.take i ++ [t[i]] := by rw [List.take_succ_eq_append_getElem hlt]; rfl
        have happ : ∀ x y : Bs, bstr x ++ bstr y = bstr (x ++ y) := fun x y => by
          apply eq_bstr
          simp [bstr]
        have HT := Lib.hid (And.intro htk happ)
        clear htk happ
        by_cases h32 : t[i] = 32
        · have hcm : ((bstr [t[i]]).toList == [32]) = true := by rw [h32, bstr_toList]; rfl
          have HN : Hid (bstr (headW ++ widen (t.take i)) ++ { data := #[32, 9, 32] } = bstr (headW ++ widen (t.take (i + 1)))) := Lib.hid (by
            rw [HT.out.1, widen_app, h32, ← List.append_assoc]
            exact HT.out.2 _ [32, 9, 32])
          clear h32
          go_wp2_with fail
          exact ⟨⟨i + 1, iv2 (by omega), by omega, congrArg _ HN.out, trivial⟩, by simp [intOf]; omega⟩
        · have hcm : ((bstr [t[i]]).toList == [32]) = false := by
            rw [bstr_toList, beq_eq_false_iff_ne]
            intro e
            exact h32 (List.cons.inj e).1
          have HN : Hid (bstr (headW ++ widen (t.take i)) ++ bstr [t[i]] = bstr (headW ++ widen (t.take (i + 1)))) := Lib.hid (by
            rw [HT.out.1, widen_app, ← List.append_assoc, HT.out.2]
            congr 2
            simp [widen, h32])
          clear h32
          go_wp2_with fail
          exact ⟨⟨i + 1, iv2 (by omega), by omega, congrArg _ HN.out, trivial⟩, by simp [intOf]; omega⟩
      · have hti : i = t.length := by omega
        subst hti
        obtain ⟨md2, l2, e2, hr2⟩ : ∃ md2 l2 e2, Sp.read m (headW ++ widen t) = (md2, l2, e2) := ⟨_, _, _, rfl⟩
        have HR2 := Lib.hid hr2
        clear hr2
        have hsl : (headW ++ widen t).length ≤ 65536 := by
          have hl := widen_len t
          rw [List.length_append, head_len]
          omega
        rw [List.take_length]
        have HRR := Lib.hid (HRD.out (headW ++ widen t) hsl _ HE0.out)
        have hnl : ¬ t.length < (bstr t).size := by rw [bstr_size]; omega
        clear hsl hi hge
        go_wp2_with fail
        refine HRR.out.mono ?_
        rintro e w3 ⟨hb3, v2, rfl, hm2⟩
        rw [HR2.out] at hm2
        rw [HR2.out]
        obtain ⟨A2, n2, c2, rfl⟩ := md_form hm2
        have hrw := read_wide m t h3
        rw [HR1.out, HR2.out] at hrw
        obtain ⟨he12, hsim⟩ := hrw
        have he12' : e2 = e1 := he12
        subst he12'
        have HSIM := Lib.hid hsim
        clear hsim he12
        have hB4 := (Below.refl w3.heap.size w3).alloc (Nat.le_refl _) (.cells #[.string (bstr md2.name), .int .i64 md2.width, .slice A2 n2 c2] 25)
        have hA4 := heap_alloc_new w3 (.cells #[.string (bstr md2.name), .int .i64 md2.width, .slice A2 n2 c2] 25)
        have HM2 := Lib.hid (hm2.old hB4)
        have HA1 := Lib.hid ((hB4.block _ (Nat.lt_of_lt_of_le (heap_lt HA0.out) hb3.size)).trans ((hb3.block _ (heap_lt HA0.out)).trans HA0.out))
        have HM1' := Lib.hid (((HM1.out.old HM0.out).old hb3).old hB4)
        have HB4 := Lib.hid ((HB0.out.trans (hb3.mono HB0.out.size)).trans (hB4.mono (Nat.le_trans HB0.out.size hb3.size)))
        have HE4 := Lib.hid ((HE0.out.old hb3).old hB4)
        have HA4 := Lib.hid hA4
        clear hm2 hb3 hB4 hA4
        go_wp2_with fail
        generalize w3.alloc (.cells #[.string (bstr md2.name), .int .i64 md2.width, .slice A2 n2 c2] 25) = W4 at HM2 HA1 HM1' HB4 HE4 HA4 ⊢
        refine (num_any _ _).mono ?_
        rintro e w5 ⟨rfl, rfl⟩
        go_wp2_with fail
        refine (num_any _ _).mono ?_
        rintro e w5 ⟨rfl, rfl⟩
        have HSM := Lib.hid (same_any false W4 _ _ md1 md2 A1 A2 n1 n2 c1 c2 HM1'.out HM2.out HSIM.out.name HSIM.out.width (sim_same HSIM.out).1 (sim_same HSIM.out).2 HL1.out)
        have x0 : W4.cell? ⟨w2.heap.size, 0, none⟩ = some (.string (bstr md1.name)) := cell_heap HA1.out 0
        have x1 : W4.cell? ⟨w2.heap.size, 1, none⟩ = some (.int .i64 md1.width) := cell_heap HA1.out 1
        have x2 : W4.cell? ⟨w2.heap.size, 2, none⟩ = some (.slice A1 n1 c1) := cell_heap HA1.out 2
        have y0 : W4.cell? ⟨w3.heap.size, 0, none⟩ = some (.string (bstr md2.name)) := cell_heap HA4.out 0
        have y1 : W4.cell? ⟨w3.heap.size, 1, none⟩ = some (.int .i64 md2.width) := cell_heap HA4.out 1
        have y2 : W4.cell? ⟨w3.heap.size, 2, none⟩ = some (.slice A2 n2 c2) := cell_heap HA4.out 2
        go_wp2_with fail
        refine HSM.out.mono ?_
        rintro e w6 ⟨rfl, hb6⟩
        have HB6 := Lib.hid (HB4.out.trans (hb6.mono HB4.out.size))
        have HE6 := Lib.hid (HE4.out.old hb6)
        have HA6 := Lib.hid ((hb6.block _ (heap_lt HA1.out)).trans HA1.out)
        have HM6 := Lib.hid (HM1'.out.old hb6)
        clear hb6 x0 x1 x2 y0 y1 y2
        rcases Nat.eq_zero_or_pos t.length with h0 | h0
        · have h5 : ¬ (0 : Int) < ((bstr t).size : Int) := by rw [bstr_size]; omega
          go_wp2_with fail
          go_returns
          exact ⟨rfl, HB6.out⟩
        · have h5 : (0 : Int) < ((bstr t).size : Int) := by rw [bstr_size]; omega
          obtain ⟨i, hi⟩ : ∃ i, i = t.length - 1 := ⟨_, rfl⟩
          have hib : i < (bstr t).size := by rw [bstr_size]; omega
          have hii : ((bstr t).size : Int) - 1 = (i : Int) := by rw [bstr_size]; omega
          have hil : i < t.length := by omega
          have HI := Lib.hid hi
          clear hi
          have hbt : (bstr t)[i] = t[i]'hil := rfl
          by_cases hc : t[i]'hil = 10
          · have hcc : (((bstr t)[i].toNat : Int) == 10) = true := by rw [hbt, hc]; rfl
            have hex : (bstr t).extract 0 i = bstr (t.take i) := by
              apply eq_bstr
              rw [ByteArray.data_extract]
              simp [bstr, List.extract_eq_take_drop]
            have htl : (t.take i).length ≤ 65536 := by
              have := List.length_take_le i t
              omega
            obtain ⟨md3, l3, e3, hr3⟩ : ∃ md3 l3 e3, Sp.read m (t.take i) = (md3, l3, e3) := ⟨_, _, _, rfl⟩
            have HR3 := Lib.hid hr3
            clear hr3
            have HRR3 := Lib.hid (HRD.out (t.take i) htl _ HE6.out)
            have HC := Lib.hid (And.intro hil hc)
            clear htl hc hbt
            go_wp2_with fail
            refine HRR3.out.mono ?_
            rintro e w7 ⟨hb7, v3, rfl, hm3⟩
            rw [HR3.out] at hm3
            rw [HR3.out]
            obtain ⟨A3, n3, c3, rfl⟩ := md_form hm3
            have hB8 := (Below.refl w7.heap.size w7).alloc (Nat.le_refl _) (.cells #[.string (bstr md3.name), .int .i64 md3.width, .slice A3 n3 c3] 25)
            have hA8 := heap_alloc_new w7 (.cells #[.string (bstr md3.name), .int .i64 md3.width, .slice A3 n3 c3] 25)
            have HM3 := Lib.hid (hm3.old hB8)
            have HA8 := Lib.hid ((hB8.block _ (Nat.lt_of_lt_of_le (heap_lt HA6.out) hb7.size)).trans ((hb7.block _ (heap_lt HA6.out)).trans HA6.out))
            have HM8 := Lib.hid ((HM6.out.old hb7).old hB8)
            have HB8 := Lib.hid ((HB6.out.trans (hb7.mono HB6.out.size)).trans (hB8.mono (Nat.le_trans HB6.out.size hb7.size)))
            have HA9 := Lib.hid hA8
            clear hm3 hb7 hB8 hA8
            by_cases h6' : 1 < t.length
            · have h6 : (1 : Int) < ((bstr t).size : Int) := by rw [bstr_size]; omega
              obtain ⟨j, hj⟩ : ∃ j, j = t.length - 2 := ⟨_, rfl⟩
              have hjb : j < (bstr t).size := by rw [bstr_size]; omega
              have hjj : ((bstr t).size : Int) - 2 = (j : Int) := by rw [bstr_size]; omega
              have hjl : j < t.length := by omega
              have HJ := Lib.hid (And.intro hj h6')
              clear hj h6'
              have hbt : (bstr t)[j] = t[j]'hjl := rfl
              by_cases hd : t[j]'hjl = 10
              · have hcd : (((bstr t)[j].toNat : Int) == 10) = true := by rw [hbt, hd]; rfl
                clear hbt hd
                go_wp2_with fail
                go_returns
                exact ⟨rfl, HB8.out⟩
              · have hcd : (((bstr t)[j].toNat : Int) == 10) = false := by
                  rw [hbt, beq_eq_false_iff_ne]
                  intro e
                  exact hd (UInt8.toNat.inj (Int.ofNat.inj e))
                have HD := Lib.hid (And.intro hjl hd)
                clear hbt hd
                go_wp2_with fail
                have htt : t = t.take j ++ [t[j]'HD.out.1] ++ [10] := by
                  have e1 : t.take (j + 1) = t.take j ++ [t[j]'HD.out.1] := by rw [List.take_succ_eq_append_getElem HD.out.1]
                  have e2 : t.take (i + 1) = t.take i ++ [t[i]'HC.out.1] := by rw [List.take_succ_eq_append_getElem HC.out.1]
                  have e3 : i = j + 1 := by have := HI.out; have := HJ.out; omega
                  have e4 : i + 1 = t.length := by have := HI.out; have := HJ.out; omega
                  rw [e4, List.take_length, HC.out.2] at e2
                  rw [← e1, ← e3]
                  exact e2
                have hti : t.take i = t.take j ++ [t[j]'HD.out.1] := by
                  have e3 : i = j + 1 := by have := HI.out; have := HJ.out; omega
                  rw [e3, List.take_succ_eq_append_getElem HD.out.1]
                have hrr : (md1, l1, e2) = (md3, l3, e3) := by
                  have he := read_end' m (t.take j) (t[j]'HD.out.1) HD.out.2 (by have := List.length_take_le j t; omega)
                  rw [← htt, ← hti, HR1.out, HR3.out] at he
                  exact he
                clear htt hti
                generalize w7.alloc (.cells #[.string (bstr md3.name), .int .i64 md3.width, .slice A3 n3 c3] 25) = W8 at HM3 HA8 HM8 HB8 HA9 ⊢
                cases hrr
                refine (num_any _ _).mono ?_
                rintro e w9 ⟨rfl, rfl⟩
                go_wp2_with fail
                refine (num_any _ _).mono ?_
                rintro e w9 ⟨rfl, rfl⟩
                have HSM := Lib.hid (same_any true W8 _ _ md1 md1 A1 A3 n1 n3 c1 c3 HM8.out HM3.out rfl rfl rfl (same_same md1) HL1.out)
                have x0 : W8.cell? ⟨w2.heap.size, 0, none⟩ = some (.string (bstr md1.name)) := cell_heap HA8.out 0
                have x1 : W8.cell? ⟨w2.heap.size, 1, none⟩ = some (.int .i64 md1.width) := cell_heap HA8.out 1
                have x2 : W8.cell? ⟨w2.heap.size, 2, none⟩ = some (.slice A1 n1 c1) := cell_heap HA8.out 2
                have y0 : W8.cell? ⟨w7.heap.size, 0, none⟩ = some (.string (bstr md1.name)) := cell_heap HA9.out 0
                have y1 : W8.cell? ⟨w7.heap.size, 1, none⟩ = some (.int .i64 md1.width) := cell_heap HA9.out 1
                have y2 : W8.cell? ⟨w7.heap.size, 2, none⟩ = some (.slice A3 n3 c3) := cell_heap HA9.out 2
                go_wp2_with fail
                refine HSM.out.mono ?_
                rintro e w10 ⟨rfl, hb10⟩
                have HB10 := Lib.hid (HB8.out.trans (hb10.mono HB8.out.size))
                clear hb10 x0 x1 x2 y0 y1 y2
                go_wp2_with fail
                go_returns
                exact ⟨rfl, HB10.out⟩
            · have h6 : ¬ (1 : Int) < ((bstr t).size : Int) := by rw [bstr_size]; omega
              go_wp2_with fail
              go_returns
              exact ⟨rfl, HB8.out⟩
          · have hcc : (((bstr t)[i].toNat : Int) == 10) = false := by
              rw [hbt, beq_eq_false_iff_ne]
              intro e
              exact hc (UInt8.toNat.inj (Int.ofNat.inj e))
            clear hc hbt
            go_wp2_with fail
            go_returns
            exact ⟨rfl, HB6.out⟩
end Go.Proofs.YtdkhedefcmjjgaaGreatDoor
