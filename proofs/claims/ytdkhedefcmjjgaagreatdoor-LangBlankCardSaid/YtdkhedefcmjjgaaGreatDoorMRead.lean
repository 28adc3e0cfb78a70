/- Read, walked.
Conditions: the scan's contract at each line; the numbers' contracts at the words that the lines read. -/
import Derived.Test.YtdkhedefcmjjgaaGreatDoorMLine5
import Derived.Test.YtdkhedefcmjjgaaGreatDoorMShelf
namespace Go.Proofs.YtdkhedefcmjjgaaGreatDoor
open Go.RowKit Sp
set_option linter.unusedVariables false
set_option linter.unusedSimpArgs false
theorem und25 : Tryz.prog.underlying 25 = some (.struct (match Tryz.prog.underlying 25 with | some (.struct f) => f | _ => #[])) := by kernel_rfl
theorem info25s : (Tryz.prog.info? 25).map (·.size) = some 3 := by kernel_rfl
theorem results6 (tmps : Array Value) (W : World) (H : Nat) (a b c : Value) (hp : tmps.getD 2 undef = .pointer (some ⟨H, 0, none⟩)) (hH : W.heap[H]? = some (.cells #[a, b, c] 25 (0, 0))) :
    (results Tryz.f6 tmps).run Tryz.prog W = .ok (.tuple #[.agg #[a, b, c], tmps.getD 3 undef, tmps.getD 4 undef]) W := by
  have hl := run_loadVar_row (P := Tryz.prog) W H 25 25 #[a, b, c] (0, 0) _ hH und25 rfl info25s
  have hp' : tmps[2]?.getD undef = .pointer (some ⟨H, 0, none⟩) := by rw [← hp]; simp
  unfold results
  rw [Tryz.results6]
  simp [hp', asAddr, hl, Sem.run_bind, Sem.run_pure, Result.andThen]
/-- A model in memory, made since block B. -/
def MdAt (w : World) (B : Nat) (md : Md) (v : Value) : Prop := ∃ cs, w.ownsRow B 38 12 v md.decls.length cs ∧ DRows w (Since B) md.decls cs
theorem MdAt.no (w : World) (B : Nat) : MdAt w B noMd (.slice none 0 0) := ⟨[], World.ownsRow_nil _ _ _ _, rfl⟩
/-- How Read ends. -/
def ReadPost (m : Nums) (t : Bs) (w : World) (e : Ending) (w' : World) : Prop :=
  Below w.heap.size w w' ∧ ∃ v, e = .returned (.tuple #[.agg #[.string (bstr (Sp.read m t).1.name), .int .i64 (Sp.read m t).1.width, v], .int .i64 (Sp.read m t).2.1, .int .i64 (Sp.read m t).2.2]) ∧ MdAt w' w.heap.size (Sp.read m t).1 v
theorem read_end {m : Nums} {t : Bs} {w W : World} {tmps : Array Value} {v : Value} {md : Md} {ln er : Int} (hr : Sp.read m t = (md, ln, er)) (hB : Below w.heap.size w W) (hp : tmps.getD 2 undef = .pointer (some ⟨w.heap.size, 0, none⟩)) (h3 : tmps.getD 3 undef = .int .i64 ln) (h4 : tmps.getD 4 undef = .int .i64 er)
    (hH : W.heap[w.heap.size]? = some (.cells #[.string (bstr md.name), .int .i64 md.width, v] 25 (0, 0))) (hmd : MdAt W w.heap.size md v) :
    bodyPost Tryz.prog Tryz.f6 (ReadPost m t w) Exit.ret { tmps := tmps, defers := [] } W := by
  refine bodyPost_ret (results6 tmps W w.heap.size _ _ _ hp hH) rfl ⟨hB, v, ?_, ?_⟩
  · rw [hr, h3, h4]
  · rw [hr]; exact hmd
set_option maxRecDepth 100000 in
set_option maxHeartbeats 4000000 in
theorem read_long (m : Nums) (t : Bs) (w : World) (ht : 65536 < t.length) (ht2 : t.length ≤ 1000000) : Calls Tryz.prog 6 #[.string (bstr t)] w (ReadPost m t w) := by
  have hr : Hid (Sp.read m t = (noMd, 0, 2)) := Lib.hid (by unfold Sp.read; rw [if_pos ht])
  have h1 : (65536 : Int) < ((bstr t).size : Int) := by rw [bstr_size]; omega
  clear ht ht2
  go_enter Tryz.func6, Tryz.ntmps6
  go_wp2_with fail
  exact read_end hr.out ((Below.refl _ _).alloc (Nat.le_refl _) _) rfl rfl rfl (heap_alloc_new _ _) (MdAt.no _ _)
theorem s0_fit : Fit ⟨[], 0, [], 0, 0⟩ 0 := ⟨by simp, by simp, by simp, fun h => by simp at h⟩
/-- What holds between two lines. -/
structure ReadInv (m : Nums) (L : List Bs) (w2 : World) (s : St) (j : Nat) (wr : World) : Prop where
  st : StAt w2 w2.heap.size s wr
  fit : Fit s j
  go : lines m ⟨[], 0, [], 0, 0⟩ L 0 = lines m s (L.drop j) j
  bel : Below w2.heap.size w2 wr
theorem ReadInv.start (m : Nums) (L : List Bs) (w2 : World) (hE : Env w2) : ReadInv m L w2 ⟨[], 0, [], 0, 0⟩ 0 (w2.alloc (.cells #[.string ⟨#[]⟩, .int .i64 0, .slice none 0 0, .int .i64 0, .int .i64 0] 42)) := by
  have hb := (Below.refl w2.heap.size w2).alloc (Nat.le_refl _) (.cells #[.string ⟨#[]⟩, .int .i64 0, .slice none 0 0, .int .i64 0, .int .i64 0] 42)
  exact ⟨⟨hE, hb, Nat.le_refl _, .slice none 0 0, [], heap_alloc_new _ _, World.ownsRow_nil _ _ _ _, rfl⟩, s0_fit, rfl, hb⟩
theorem textLines_mem {t l : Bs} (h : l ∈ textLines t) : l.length ≤ t.length := by
  have : l ∈ splitGo t [] := by
    unfold textLines at h
    dsimp only at h
    split at h
    · exact (List.dropLast_sublist _).subset h
    · exact h
  have := (splitGo_bound t []).1 l this
  simpa using this
theorem textLines_len (t : Bs) : (textLines t).length ≤ t.length + 1 := by
  have := (splitGo_bound t []).2
  unfold textLines
  dsimp only
  split
  · rw [List.length_dropLast]; omega
  · exact this
theorem own_form {w : World} {base : Nat} {e : TypeId} {size : Nat} {v : Value} {n : Nat} {xs : List Value} (h : w.ownsRow base e size v n xs) : ∃ A n' c, v = .slice A n' c := by
  rcases h.2 with ⟨rfl, _⟩ | ⟨g, cap, cur, rfl, _⟩
  · exact ⟨_, _, _, rfl⟩
  · exact ⟨_, _, _, rfl⟩
theorem own_lower {w : World} {base base' : Nat} {e : TypeId} {size : Nat} {v : Value} {n : Nat} {xs : List Value} (h : w.ownsRow base e size v n xs) (hb : base' ≤ base) : w.ownsRow base' e size v n xs := by
  refine ⟨h.1, ?_⟩
  rcases h.2 with h0 | ⟨g, cap, cur, rfl, h1, h2⟩
  · exact .inl h0
  · exact .inr ⟨g, cap, cur, rfl, Nat.le_trans hb h1, h2⟩
theorem sp_read {m : Nums} {t : Bs} {L : List Bs} (ht : t.length ≤ 65536) (hL : textLines t = L) : Sp.read m t = match lines m ⟨[], 0, [], 0, 0⟩ L 0 with
    | .error (e, n) => (noMd, n, e)
    | .ok s => if s.last < 5 then (noMd, (L.length : Int) + 1, 70) else (⟨s.name, s.width, s.decls⟩, 0, 0) := by
  unfold Sp.read
  rw [if_neg (by omega), hL] <;> rfl
theorem decl_err {m : Nums} {wd last n : Int} {r : RS} (h : Sp.decl m wd last r = .error n) : n ≠ 0 := by
  unfold Sp.decl at h
  repeat' (split at h)
  all_goals first
    | (injection h with h; omega)
    | cases h
/-- An error is none that is 0. -/
theorem line_err {m : Nums} {s : St} {l : Bs} {i n : Int} (h : Sp.line m s l i = .error n) : n ≠ 0 := by
  unfold Sp.line at h
  split at h
  · cases h
  · split at h
    · injection h with h; omega
    · unfold lineToks at h
      repeat' (split at h)
      all_goals first
        | (injection h with h; omega)
        | (rename_i hd; injection h with h; subst h; exact decl_err hd)
        | cases h
theorem lines_step {m : Nums} {s s' : St} {L : List Bs} {j : Nat} (hj : j < L.length) (h : Sp.line m s L[j] ((j : Int) + 1) = .ok s') : lines m s (L.drop j) j = lines m s' (L.drop (j + 1)) (j + 1) := by
  rw [List.drop_eq_getElem_cons hj, lines, h]
theorem lines_err {m : Nums} {s : St} {n : Int} {L : List Bs} {j : Nat} (hj : j < L.length) (h : Sp.line m s L[j] ((j : Int) + 1) = .error n) : lines m s (L.drop j) j = .error (n, (j : Int) + 1) := by
  rw [List.drop_eq_getElem_cons hj, lines, h]
theorem lines_end {m : Nums} {s : St} {L : List Bs} {j : Nat} (hj : ¬ j < L.length) : lines m s (L.drop j) j = .ok s := by
  rw [List.drop_of_length_le (by omega), lines]
theorem textLines_last {t : Bs} {ls : List Bs} {k : Nat} (hls : splitGo t [] = ls) (hk : ls.length = k + 1) (hl : ls[k]'(by omega) = []) : textLines t = ls.take k := by
  unfold textLines
  dsimp only
  rw [hls, List.getLast?_eq_getElem?, if_pos (by rw [hk, Nat.add_sub_cancel, List.getElem?_eq_getElem (by omega), hl]), List.dropLast_eq_take, hk]; rfl
theorem textLines_full {t : Bs} {ls : List Bs} {k : Nat} (hls : splitGo t [] = ls) (hk : ls.length = k + 1) (hl : ls[k]'(by omega) ≠ []) : textLines t = ls := by
  unfold textLines
  dsimp only
  rw [hls, List.getLast?_eq_getElem?, if_neg (by rw [hk, Nat.add_sub_cancel, List.getElem?_eq_getElem (by omega)]; exact fun e => hl (Option.some.inj e))]
set_option maxRecDepth 100000 in
set_option maxHeartbeats 4000000 in
theorem read_short (m : Nums) (hm : ∀ s, m.whole s = wholeF s) (t : Bs) (w : World) (ht : t.length ≤ 65536) (hE : Env w) (hsc : ∀ l ∈ textLines t, ScanC l) (hN : ∀ l ∈ textLines t, ∀ ts, Sp.scan l = some ts → LateNums m ts) : Calls Tryz.prog 6 #[.string (bstr t)] w (ReadPost m t w) := by
  have h1 : ¬ (65536 : Int) < ((bstr t).size : Int) := by rw [bstr_size]; omega
  obtain ⟨mx, hmx⟩ := hE.maxLen
  have hmx1 : Hid ((w.alloc (.cells #[.string ⟨#[]⟩, .int .i64 0, .slice none 0 0] 25)).cell? ⟨0, 0, none⟩ = some (.int .i64 mx)) := Lib.hid (cell_old ((Below.refl w.heap.size w).alloc (Nat.le_refl _) _) hmx)
  have H9 := Lib.hid (Tryz.strings_Split (bstr t) (bstr [10]) mx (w.alloc (.cells #[.string ⟨#[]⟩, .int .i64 0, .slice none 0 0] 25)) (by rw [bstr_size]; omega) hmx1.out (by rw [bstr_size]; decide))
  have hlen := splitGo_len t
  have hlen2 : (splitGo t []).length ≤ 65537 := by have := (splitGo_bound t []).2; omega
  have hH9 := H9.out
  rw [← hlen, split_bstr] at hH9
  generalize hls : splitGo t [] = ls at hH9 hlen hlen2
  obtain ⟨k, hk⟩ : ∃ k, ls.length = k + 1 := ⟨_, hlen⟩
  have hkb : k ≤ 65536 := by omega
  have HK := Lib.hid hk
  rw [hk] at hH9
  have H9' : Hid (Calls Tryz.prog 9 #[.string (bstr t), .string (bstr [10])] (w.alloc (.cells #[.string ⟨#[]⟩, .int .i64 0, .slice none 0 0] 25)) fun e w' => e = .returned (.slice (some ⟨w.heap.size + 1, 0, none⟩) (k + 1) (k + 1)) ∧ Hid (w' = (w.alloc (.cells #[.string ⟨#[]⟩, .int .i64 0, .slice none 0 0] 25)).alloc (.cells ((ls.map bstr).map Value.string).toArray 9))) := Lib.hid (hH9.mono (by
    rintro e w' ⟨rfl, rfl⟩
    exact ⟨by simp, rfl⟩))
  have HLS := Lib.hid hls
  have HE := Lib.hid hE
  clear hls hH9 H9 hlen hlen2 hmx hmx1 hE hk
  by_cases hl0 : ls[k]'(by rw [HK.out]; omega) = []
  · have HL : Hid (textLines t = ls.take k) := Lib.hid (textLines_last HLS.out HK.out hl0)
    have hem : (bstr (ls[k]'(by rw [HK.out]; omega))).toList = [] := by rw [bstr_toList]; exact hl0
    have HNL : Hid ((ls.take k).length = k) := Lib.hid (by rw [List.length_take, HK.out]; omega)
    have HGET : Hid (∀ j (h1 : j < (ls.take k).length) (h2 : j < ls.length), ls[j] = (ls.take k)[j]) := Lib.hid (fun j h1 h2 => by simp)
    clear hl0
    generalize ls.take k = L at HL HNL HGET
    have hcell : ∀ W : World, W = (w.alloc (.cells #[.string ⟨#[]⟩, .int .i64 0, .slice none 0 0] 25)).alloc (.cells ((ls.map bstr).map Value.string).toArray 9) → (W.heap[w.heap.size + 1]? = some (.cells ((ls.map bstr).map Value.string).toArray 9 (0, 0)) ∧ W.heap[w.heap.size]? = some (.cells #[.string ⟨#[]⟩, .int .i64 0, .slice none 0 0] 25 (0, 0)) ∧ W.heap.size = w.heap.size + 2 ∧ Below w.heap.size w W ∧ ∀ j (h : j < ls.length), W.cell? ⟨w.heap.size + 1, j, none⟩ = some (.string (bstr ls[j]))) := fun W hW => by
      subst hW
      have e1 := heap_alloc_new (w.alloc (.cells #[.string ⟨#[]⟩, .int .i64 0, .slice none 0 0] 25)) (.cells ((ls.map bstr).map Value.string).toArray 9)
      rw [show (w.alloc (.cells #[.string ⟨#[]⟩, .int .i64 0, .slice none 0 0] 25)).heap.size = w.heap.size + 1 by simp] at e1
      refine ⟨e1, (Below.heap_alloc _ _ _ (by simp)).trans (heap_alloc_new _ _), by simp, ((Below.refl _ _).alloc (Nat.le_refl _) _).alloc (by simp) _, fun j h => ?_⟩
      rw [cell_heap e1]
      simp [h]
    have HC := Lib.hid hcell
    clear hcell
    go_enter Tryz.func6, Tryz.ntmps6
    go_wp2_with fail
    refine H9'.out.mono ?_
    rintro e w2 ⟨rfl, hw2⟩
    have HW2 := Lib.hid (HC.out w2 hw2.out)
    clear hw2
    have ck : w2.cell? ⟨w.heap.size + 1, k, none⟩ = some (.string (bstr (ls[k]'(by rw [HK.out]; omega)))) := HW2.out.2.2.2.2 k (by rw [HK.out]; omega)
    go_wp2_with fail
    have HE2 := Lib.hid (HE.out.old HW2.out.2.2.2.1)
    have HS := Lib.hid (ReadInv.start m L w2 HE2.out)
    have hwS : w2.heap.size = w.heap.size + 2 := HW2.out.2.2.1
    have HWS := Lib.hid hwS
    clear hwS
    go_loopw [30] (fun iv wr => ∃ (j : Nat) (s : St), iv = .int .i64 j ∧ j ≤ k ∧ Hid (ReadInv m L w2 s j wr)) (fun iv wr => k - (intOf iv).toNat)
    case atStart => exact ⟨0, _, rfl, by omega, HS⟩
    case round =>
      obtain ⟨j, s, rfl, hjN, HI⟩ := hrel
      have hSlt := HI.out.st.lt
      have hM := Lib.hid ((HI.out.bel.block w.heap.size (by have := HWS.out; omega)).trans HW2.out.2.1)
      have mf : ∀ i, wr.frozen? ⟨w.heap.size, i, none⟩ = false := fun i => free_heap hM.out i
      have m0 : wr.cell? ⟨w.heap.size, 0, none⟩ = some (.string ⟨#[]⟩) := cell_heap hM.out 0
      have m1 : wr.cell? ⟨w.heap.size, 1, none⟩ = some (.int .i64 0) := cell_heap hM.out 1
      have m2 : wr.cell? ⟨w.heap.size, 2, none⟩ = some (.slice none 0 0) := cell_heap hM.out 2
      have hBw := Lib.hid (HW2.out.2.2.2.1.trans (HI.out.bel.mono (by have := HWS.out; omega)))
      by_cases hj : j < k
      · have hjL : j < L.length := by rw [HNL.out]; exact hj
        have hjl : j < ls.length := by rw [HK.out]; omega
        have cj : wr.cell? ⟨w.heap.size + 1, j, none⟩ = some (.string (bstr L[j])) := by
          rw [World.cell?_of_block (a := ⟨w.heap.size + 1, j, none⟩) (HI.out.bel.block (w.heap.size + 1) (by have := HWS.out; omega)), HW2.out.2.2.2.2 j hjl, HGET.out j hjL hjl]
        have hmem : L[j] ∈ textLines t := by rw [HL.out]; exact List.getElem_mem _
        have H10 := Lib.hid (line_any m hm w2 w2.heap.size s wr HI.out.st L[j] ((j : Int) + 1) (by have := textLines_mem hmem; omega) (hsc _ hmem) HI.out.fit (by omega) (fun _ => hN _ hmem))
        go_wp2_with fail
        refine H10.out.mono ?_
        rintro e w3 ⟨hb3, ⟨n, hsp, rfl⟩ | ⟨s', hsp, rfl, hst⟩⟩
        · have hn0 : (n != 0) = true := bne_iff_ne.2 (line_err hsp)
          have HSP := Lib.hid hsp
          have hM3 := Lib.hid ((hb3.block w.heap.size (by have := HWS.out; omega)).trans hM.out)
          have HB3 := Lib.hid hb3
          clear hsp hb3 mf m0 m1 m2
          have mf : ∀ i, w3.frozen? ⟨w.heap.size, i, none⟩ = false := fun i => free_heap hM3.out i
          have m0 : w3.cell? ⟨w.heap.size, 0, none⟩ = some (.string ⟨#[]⟩) := cell_heap hM3.out 0
          have m1 : w3.cell? ⟨w.heap.size, 1, none⟩ = some (.int .i64 0) := cell_heap hM3.out 1
          have m2 : w3.cell? ⟨w.heap.size, 2, none⟩ = some (.slice none 0 0) := cell_heap hM3.out 2
          go_wp2_with fail
          refine read_end (md := noMd) (ln := (j : Int) + 1) (er := n) (v := .slice none 0 0) ?_ ((((hBw.out.trans (HB3.out.mono (by have := HWS.out; omega))).setCell (p := ⟨w.heap.size, 0, none⟩) (Nat.le_refl _) _).setCell (p := ⟨w.heap.size, 1, none⟩) (Nat.le_refl _) _).setCell (p := ⟨w.heap.size, 2, none⟩) (Nat.le_refl _) _) rfl rfl rfl (set_heap (set_heap (set_heap hM3.out 0 _) 1 _) 2 _) (MdAt.no _ _)
          rw [sp_read ht HL.out, HI.out.go, lines_err hjL HSP.out]
        · have hfin : ReadInv m L w2 s' (j + 1) w3 := ⟨hst, HI.out.fit.line hsp, by rw [HI.out.go, lines_step hjL hsp], HI.out.bel.trans hb3⟩
          have HF := Lib.hid hfin
          clear hfin hsp hst hb3 mf m0 m1 m2
          go_wp2_with fail
          go_roundw
          case rel => exact ⟨j + 1, s', by go_num, by omega, HF⟩
          case measure => simp [intOf]; omega
      · have hjL : ¬ j < L.length := by rw [HNL.out]; exact hj
        have hjN' : Hid (j = L.length) := Lib.hid (by rw [HNL.out]; omega)
        have hlines := Lib.hid (lines_end (m := m) (s := s) hjL)
        obtain ⟨v, cs, hat⟩ := HI.out.st.at_
        obtain ⟨Av, nv, cv, rfl⟩ := own_form hat.2.1
        have HAT := Lib.hid hat
        clear hat
        have l2 : wr.cell? ⟨w2.heap.size, 4, none⟩ = some (.int .i64 s.last) := cell_heap HAT.out.1 4
        have k0 : wr.cell? ⟨w2.heap.size, 0, none⟩ = some (.string (bstr s.name)) := cell_heap HAT.out.1 0
        have k1 : wr.cell? ⟨w2.heap.size, 1, none⟩ = some (.int .i64 s.width) := cell_heap HAT.out.1 1
        have k2 : wr.cell? ⟨w2.heap.size, 2, none⟩ = some (.slice Av nv cv) := cell_heap HAT.out.1 2
        by_cases h5 : s.last < 5
        · have H5 := Lib.hid h5
          go_wp2_with fail
          refine read_end (md := noMd) (ln := (k : Nat) + 1) (er := 70) (v := .slice none 0 0) ?_ (((hBw.out.setCell (p := ⟨w.heap.size, 0, none⟩) (Nat.le_refl _) _).setCell (p := ⟨w.heap.size, 1, none⟩) (Nat.le_refl _) _).setCell (p := ⟨w.heap.size, 2, none⟩) (Nat.le_refl _) _) rfl (by first | rfl | (simp; done)) rfl (set_heap (set_heap (set_heap hM.out 0 _) 1 _) 2 _) (MdAt.no _ _)
          rw [sp_read ht HL.out, HI.out.go, hlines.out]
          dsimp only
          rw [if_pos H5.out, HNL.out]
        · have H5 := Lib.hid h5
          go_wp2_with fail
          refine read_end (md := ⟨s.name, s.width, s.decls⟩) (ln := 0) (er := 0) (v := .slice Av nv cv) ?_ (((hBw.out.setCell (p := ⟨w.heap.size, 0, none⟩) (Nat.le_refl _) _).setCell (p := ⟨w.heap.size, 1, none⟩) (Nat.le_refl _) _).setCell (p := ⟨w.heap.size, 2, none⟩) (Nat.le_refl _) _) rfl rfl rfl (set_heap (set_heap (set_heap hM.out 0 _) 1 _) 2 _) ?_
          · rw [sp_read ht HL.out, HI.out.go, hlines.out]
            dsimp only
            rw [if_neg (by have := H5.out; omega)]
          · have kk : ∀ g, g ≠ w.heap.size → (((wr.setCell ⟨w.heap.size, 0, none⟩ (.string (bstr s.name))).setCell ⟨w.heap.size, 1, none⟩ (.int .i64 s.width)).setCell ⟨w.heap.size, 2, none⟩ (.slice Av nv cv)).heap[g]? = wr.heap[g]? := fun g hg => by
              rw [Below.heap_setCell _ _ _ _ hg, Below.heap_setCell _ _ _ _ hg, Below.heap_setCell _ _ _ _ hg]
            refine ⟨cs, ?_, ?_⟩
            · have h2 := HAT.out.2.1
              refine own_same (own_lower h2 (by have := HWS.out; omega)) (fun g hg => kk g (by have := (h2.lt g hg).1; have := HWS.out; omega))
            · refine (DRows.keep HAT.out.2.2 (by simp) (fun g hg _ => kk g (by have := hg.1; have := HWS.out; omega))).mono (fun g hg _ => ?_)
              have := hg.1
              have := HWS.out
              show w.heap.size ≤ g
              omega
  · have HL : Hid (textLines t = ls) := Lib.hid (textLines_full HLS.out HK.out hl0)
    have hem : (bstr (ls[k]'(by rw [HK.out]; omega))).toList.isEmpty = false := by rw [bstr_toList]; cases hx : ls[k]'(by rw [HK.out]; omega) with | nil => exact absurd hx hl0 | cons _ _ => rfl
    have hem2 : !(bstr (ls[k]'(by rw [HK.out]; omega))).toList.isEmpty := by rw [hem]; rfl
    have HNL : Hid (ls.length = k + 1) := Lib.hid HK.out
    have HGET : Hid (∀ j (h1 : j < ls.length) (h2 : j < ls.length), ls[j] = ls[j]) := Lib.hid (fun j h1 h2 => rfl)
    clear hl0
    obtain ⟨L, hLs⟩ : ∃ L, L = ls := ⟨_, rfl⟩
    have HL' : Hid (textLines t = L) := Lib.hid (by rw [hLs]; exact HL.out)
    have HNL' : Hid (L.length = k + 1) := Lib.hid (by rw [hLs]; exact HNL.out)
    have HGET' : Hid (∀ j (h1 : j < L.length) (h2 : j < ls.length), ls[j] = L[j]) := Lib.hid (by subst hLs; exact fun j h1 h2 => rfl)
    clear HL HNL HGET hLs
    have HL := HL'
    have HNL := HNL'
    have HGET := HGET'
    clear HL' HNL' HGET'
    have hcell : ∀ W : World, W = (w.alloc (.cells #[.string ⟨#[]⟩, .int .i64 0, .slice none 0 0] 25)).alloc (.cells ((ls.map bstr).map Value.string).toArray 9) → (W.heap[w.heap.size + 1]? = some (.cells ((ls.map bstr).map Value.string).toArray 9 (0, 0)) ∧ W.heap[w.heap.size]? = some (.cells #[.string ⟨#[]⟩, .int .i64 0, .slice none 0 0] 25 (0, 0)) ∧ W.heap.size = w.heap.size + 2 ∧ Below w.heap.size w W ∧ ∀ j (h : j < ls.length), W.cell? ⟨w.heap.size + 1, j, none⟩ = some (.string (bstr ls[j]))) := fun W hW => by
      subst hW
      have e1 := heap_alloc_new (w.alloc (.cells #[.string ⟨#[]⟩, .int .i64 0, .slice none 0 0] 25)) (.cells ((ls.map bstr).map Value.string).toArray 9)
      rw [show (w.alloc (.cells #[.string ⟨#[]⟩, .int .i64 0, .slice none 0 0] 25)).heap.size = w.heap.size + 1 by simp] at e1
      refine ⟨e1, (Below.heap_alloc _ _ _ (by simp)).trans (heap_alloc_new _ _), by simp, ((Below.refl _ _).alloc (Nat.le_refl _) _).alloc (by simp) _, fun j h => ?_⟩
      rw [cell_heap e1]
      simp [h]
    have HC := Lib.hid hcell
    clear hcell
    go_enter Tryz.func6, Tryz.ntmps6
    go_wp2_with fail
    refine H9'.out.mono ?_
    rintro e w2 ⟨rfl, hw2⟩
    have HW2 := Lib.hid (HC.out w2 hw2.out)
    clear hw2
    have ck : w2.cell? ⟨w.heap.size + 1, k, none⟩ = some (.string (bstr (ls[k]'(by rw [HK.out]; omega)))) := HW2.out.2.2.2.2 k (by rw [HK.out]; omega)
    go_wp2_with fail
    have HE2 := Lib.hid (HE.out.old HW2.out.2.2.2.1)
    have HS := Lib.hid (ReadInv.start m L w2 HE2.out)
    have hwS : w2.heap.size = w.heap.size + 2 := HW2.out.2.2.1
    have HWS := Lib.hid hwS
    clear hwS
    go_loopw [30] (fun iv wr => ∃ (j : Nat) (s : St), iv = .int .i64 j ∧ j ≤ (k + 1) ∧ Hid (ReadInv m L w2 s j wr)) (fun iv wr => (k + 1) - (intOf iv).toNat)
    case atStart => exact ⟨0, _, rfl, by omega, HS⟩
    case round =>
      obtain ⟨j, s, rfl, hjN, HI⟩ := hrel
      have hSlt := HI.out.st.lt
      have hM := Lib.hid ((HI.out.bel.block w.heap.size (by have := HWS.out; omega)).trans HW2.out.2.1)
      have mf : ∀ i, wr.frozen? ⟨w.heap.size, i, none⟩ = false := fun i => free_heap hM.out i
      have m0 : wr.cell? ⟨w.heap.size, 0, none⟩ = some (.string ⟨#[]⟩) := cell_heap hM.out 0
      have m1 : wr.cell? ⟨w.heap.size, 1, none⟩ = some (.int .i64 0) := cell_heap hM.out 1
      have m2 : wr.cell? ⟨w.heap.size, 2, none⟩ = some (.slice none 0 0) := cell_heap hM.out 2
      have hBw := Lib.hid (HW2.out.2.2.2.1.trans (HI.out.bel.mono (by have := HWS.out; omega)))
      by_cases hj : j < (k + 1)
      · have hjL : j < L.length := by rw [HNL.out]; exact hj
        have hjl : j < ls.length := by rw [HK.out]; omega
        have cj : wr.cell? ⟨w.heap.size + 1, j, none⟩ = some (.string (bstr L[j])) := by
          rw [World.cell?_of_block (a := ⟨w.heap.size + 1, j, none⟩) (HI.out.bel.block (w.heap.size + 1) (by have := HWS.out; omega)), HW2.out.2.2.2.2 j hjl, HGET.out j hjL hjl]
        have hmem : L[j] ∈ textLines t := by rw [HL.out]; exact List.getElem_mem _
        have H10 := Lib.hid (line_any m hm w2 w2.heap.size s wr HI.out.st L[j] ((j : Int) + 1) (by have := textLines_mem hmem; omega) (hsc _ hmem) HI.out.fit (by omega) (fun _ => hN _ hmem))
        go_wp2_with fail
        refine H10.out.mono ?_
        rintro e w3 ⟨hb3, ⟨n, hsp, rfl⟩ | ⟨s', hsp, rfl, hst⟩⟩
        · have hn0 : (n != 0) = true := bne_iff_ne.2 (line_err hsp)
          have HSP := Lib.hid hsp
          have hM3 := Lib.hid ((hb3.block w.heap.size (by have := HWS.out; omega)).trans hM.out)
          have HB3 := Lib.hid hb3
          clear hsp hb3 mf m0 m1 m2
          have mf : ∀ i, w3.frozen? ⟨w.heap.size, i, none⟩ = false := fun i => free_heap hM3.out i
          have m0 : w3.cell? ⟨w.heap.size, 0, none⟩ = some (.string ⟨#[]⟩) := cell_heap hM3.out 0
          have m1 : w3.cell? ⟨w.heap.size, 1, none⟩ = some (.int .i64 0) := cell_heap hM3.out 1
          have m2 : w3.cell? ⟨w.heap.size, 2, none⟩ = some (.slice none 0 0) := cell_heap hM3.out 2
          go_wp2_with fail
          refine read_end (md := noMd) (ln := (j : Int) + 1) (er := n) (v := .slice none 0 0) ?_ ((((hBw.out.trans (HB3.out.mono (by have := HWS.out; omega))).setCell (p := ⟨w.heap.size, 0, none⟩) (Nat.le_refl _) _).setCell (p := ⟨w.heap.size, 1, none⟩) (Nat.le_refl _) _).setCell (p := ⟨w.heap.size, 2, none⟩) (Nat.le_refl _) _) rfl rfl rfl (set_heap (set_heap (set_heap hM3.out 0 _) 1 _) 2 _) (MdAt.no _ _)
          rw [sp_read ht HL.out, HI.out.go, lines_err hjL HSP.out]
        · have hfin : ReadInv m L w2 s' (j + 1) w3 := ⟨hst, HI.out.fit.line hsp, by rw [HI.out.go, lines_step hjL hsp], HI.out.bel.trans hb3⟩
          have HF := Lib.hid hfin
          clear hfin hsp hst hb3 mf m0 m1 m2
          go_wp2_with fail
          go_roundw
          case rel => exact ⟨j + 1, s', by go_num, by omega, HF⟩
          case measure => simp [intOf]; omega
      · have hjL : ¬ j < L.length := by rw [HNL.out]; exact hj
        have hjN' : Hid (j = L.length) := Lib.hid (by rw [HNL.out]; omega)
        have hlines := Lib.hid (lines_end (m := m) (s := s) hjL)
        obtain ⟨v, cs, hat⟩ := HI.out.st.at_
        obtain ⟨Av, nv, cv, rfl⟩ := own_form hat.2.1
        have HAT := Lib.hid hat
        clear hat
        have l2 : wr.cell? ⟨w2.heap.size, 4, none⟩ = some (.int .i64 s.last) := cell_heap HAT.out.1 4
        have k0 : wr.cell? ⟨w2.heap.size, 0, none⟩ = some (.string (bstr s.name)) := cell_heap HAT.out.1 0
        have k1 : wr.cell? ⟨w2.heap.size, 1, none⟩ = some (.int .i64 s.width) := cell_heap HAT.out.1 1
        have k2 : wr.cell? ⟨w2.heap.size, 2, none⟩ = some (.slice Av nv cv) := cell_heap HAT.out.1 2
        by_cases h5 : s.last < 5
        · have H5 := Lib.hid h5
          go_wp2_with fail
          refine read_end (md := noMd) (ln := ((k + 1 : Nat) : Int) + 1) (er := 70) (v := .slice none 0 0) ?_ (((hBw.out.setCell (p := ⟨w.heap.size, 0, none⟩) (Nat.le_refl _) _).setCell (p := ⟨w.heap.size, 1, none⟩) (Nat.le_refl _) _).setCell (p := ⟨w.heap.size, 2, none⟩) (Nat.le_refl _) _) rfl (by first | rfl | (simp; done)) rfl (set_heap (set_heap (set_heap hM.out 0 _) 1 _) 2 _) (MdAt.no _ _)
          rw [sp_read ht HL.out, HI.out.go, hlines.out]
          dsimp only
          rw [if_pos H5.out, HNL.out]
        · have H5 := Lib.hid h5
          go_wp2_with fail
          refine read_end (md := ⟨s.name, s.width, s.decls⟩) (ln := 0) (er := 0) (v := .slice Av nv cv) ?_ (((hBw.out.setCell (p := ⟨w.heap.size, 0, none⟩) (Nat.le_refl _) _).setCell (p := ⟨w.heap.size, 1, none⟩) (Nat.le_refl _) _).setCell (p := ⟨w.heap.size, 2, none⟩) (Nat.le_refl _) _) rfl rfl rfl (set_heap (set_heap (set_heap hM.out 0 _) 1 _) 2 _) ?_
          · rw [sp_read ht HL.out, HI.out.go, hlines.out]
            dsimp only
            rw [if_neg (by have := H5.out; omega)]
          · have kk : ∀ g, g ≠ w.heap.size → (((wr.setCell ⟨w.heap.size, 0, none⟩ (.string (bstr s.name))).setCell ⟨w.heap.size, 1, none⟩ (.int .i64 s.width)).setCell ⟨w.heap.size, 2, none⟩ (.slice Av nv cv)).heap[g]? = wr.heap[g]? := fun g hg => by
              rw [Below.heap_setCell _ _ _ _ hg, Below.heap_setCell _ _ _ _ hg, Below.heap_setCell _ _ _ _ hg]
            refine ⟨cs, ?_, ?_⟩
            · have h2 := HAT.out.2.1
              refine own_same (own_lower h2 (by have := HWS.out; omega)) (fun g hg => kk g (by have := (h2.lt g hg).1; have := HWS.out; omega))
            · refine (DRows.keep HAT.out.2.2 (by simp) (fun g hg _ => kk g (by have := hg.1; have := HWS.out; omega))).mono (fun g hg _ => ?_)
              have := hg.1
              have := HWS.out
              show w.heap.size ≤ g
              omega
theorem read_any (m : Nums) (hm : ∀ s, m.whole s = wholeF s) (t : Bs) (w : World) (ht : t.length ≤ 1000000) (hE : Env w) (hsc : t.length ≤ 65536 → ∀ l ∈ textLines t, ScanC l) (hN : t.length ≤ 65536 → ∀ l ∈ textLines t, ∀ ts, Sp.scan l = some ts → LateNums m ts) : Calls Tryz.prog 6 #[.string (bstr t)] w (ReadPost m t w) := by
  by_cases h : 65536 < t.length
  · exact read_long m t w h ht
  · exact read_short m hm t w (by omega) hE (hsc (by omega)) (hN (by omega))
end Go.Proofs.YtdkhedefcmjjgaaGreatDoor
