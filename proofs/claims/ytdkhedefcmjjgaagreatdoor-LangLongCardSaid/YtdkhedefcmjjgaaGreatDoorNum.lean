/- A reader's number and signed number, walked, where what number tells of the text is known.
Conditions: 'NumAt': what lang.number, bits.Class, bits.Neg do at the text. -/
import Derived.Test.YtdkhedefcmjjgaaGreatDoorWhole
namespace Go.Proofs.YtdkhedefcmjjgaaGreatDoor
open Go.RowKit Sp
set_option linter.unusedVariables false
/-- What is told of a number's text. -/
def NumAt (m : Nums) (s : Bs) : Prop := ∀ wd : Int, wd = 32 ∨ wd = 64 →
  (∀ W, Env W → Calls Tryz.prog 91 #[.string (bstr s), .int .i64 wd] W fun e w' => e = .returned (.tuple #[.int .i64 (m.number s wd).1, .bool (m.number s wd).2]) ∧ Below W.heap.size W w') ∧
  (∀ W, Calls Tryz.prog 92 #[.int .i64 (m.number s wd).1, .int .i64 wd] W fun e w' => e = .returned (.int .i64 (m.cls (m.number s wd).1 wd)) ∧ Below W.heap.size W w') ∧
  (∀ W, Calls Tryz.prog 77 #[.int .i64 (m.number s wd).1, .int .i64 wd] W fun e w' => e = .returned (.int .i64 (m.neg (m.number s wd).1)) ∧ Below W.heap.size W w')
/-- The numbers among some words. -/
def NumsAt (m : Nums) (ts : List Tok) : Prop := ∀ t ∈ ts, t.kind = 100 → NumAt m t.text
theorem next_mem {k : UInt8} {s : Bs} {r r' : RS} (h : Sp.next k r = some (s, r')) : ∃ t, r.ts = t :: r'.ts ∧ t.text = s ∧ r'.stop = r.stop ∧ (k ≠ 0 → t.kind = k) := by
  obtain ⟨ts, st⟩ := r
  cases ts with
  | nil => simp [Sp.next] at h
  | cons t l =>
    simp only [Sp.next] at h
    split at h
    · cases h
    · rename_i hb
      simp only [Option.some.injEq, Prod.mk.injEq] at h
      obtain ⟨rfl, rfl⟩ := h
      refine ⟨t, rfl, rfl, rfl, fun hk => ?_⟩
      by_cases he : t.kind = k
      · exact he
      · exact absurd (by simp [hk, he]) hb
theorem sign_mem {sg s : Bs} {r r' : RS} (h : Sp.sign sg r = some (s, r')) : ∃ t, r.ts = t :: r'.ts ∧ t.text = s ∧ r'.stop = r.stop := by
  obtain ⟨ts, st⟩ := r
  cases ts with
  | nil => simp [Sp.sign] at h
  | cons t l =>
    simp only [Sp.sign] at h
    split at h
    · simp only [Option.some.injEq, Prod.mk.injEq] at h
      obtain ⟨rfl, rfl⟩ := h
      exact ⟨t, rfl, rfl, rfl⟩
    · cases h
theorem NumsAt.tail {m : Nums} {t : Tok} {l : List Tok} (h : NumsAt m (t :: l)) : NumsAt m l := fun x hx => h x (List.mem_cons_of_mem _ hx)
theorem NumsAt.next {m : Nums} {k : UInt8} {s : Bs} {r r' : RS} (hn : NumsAt m r.ts) (h : Sp.next k r = some (s, r')) : NumsAt m r'.ts := by
  obtain ⟨t, e, _⟩ := next_mem h
  rw [e] at hn
  exact hn.tail
theorem NumsAt.sign {m : Nums} {sg s : Bs} {r r' : RS} (hn : NumsAt m r.ts) (h : Sp.sign sg r = some (s, r')) : NumsAt m r'.ts := by
  obtain ⟨t, e, _⟩ := sign_mem h
  rw [e] at hn
  exact hn.tail
theorem Rd.stop {w0 w : World} {R T : Nat} {wd : Int} {r : RS} (h : Rd w0 w R T wd r) : w.cell? ⟨R, 2, none⟩ = some (.int .i64 r.stop) ∧ w.frozen? ⟨R, 2, none⟩ = false := by
  obtain ⟨v, dp, h1, h2⟩ := h.at_
  exact ⟨cell_heap h1 2, free_heap h1 2⟩
theorem Rd.width {w0 w : World} {R T : Nat} {wd : Int} {r : RS} (h : Rd w0 w R T wd r) : w.cell? ⟨R, 1, none⟩ = some (.int .i64 wd) := by
  obtain ⟨v, dp, h1, h2⟩ := h.at_
  exact cell_heap h1 1
theorem Rd.words {w0 w : World} {R T : Nat} {wd : Int} {r : RS} (h : Rd w0 w R T wd r) : ∃ A c, w.cell? ⟨R, 0, none⟩ = some (.slice A r.ts.length c) ∧ c ≤ 9223372036854775807 ∧ r.ts.length ≤ c := by
  obtain ⟨v, dp, h1, A, c, rfl, hc, hm, _⟩ := h.at_
  exact ⟨A, c, cell_heap h1 0, hm, hc⟩
theorem Rd.setStop {w0 w : World} {R T : Nat} {wd : Int} {r : RS} (h : Rd w0 w R T wd r) (st : Int) : Rd w0 (w.setCell ⟨R, 2, none⟩ (.int .i64 st)) R T wd ⟨r.ts, st⟩ := by
  obtain ⟨v, dp, h1, h2⟩ := h.at_
  exact ⟨h.env, h.below.setCell h.hR _, h.hR, h.hT, h.ok, h.ne, by simp only [World.size_setCell]; exact h.ltT, v, dp, set_heap h1 2 _, h2.keep (Below.heap_setCell _ _ _ _ h.ne)⟩
set_option maxHeartbeats 1000000 in
theorem numberR_ok {m : Nums} {w0 w : World} {R T : Nat} {wd wn : Int} {n : Int} {r r' : RS} (hr : Rd w0 w R T wd r) (hw : wn = 32 ∨ wn = 64) (hN : NumsAt m r.ts) (h : Sp.numberR m wn r = some (n, r')) :
    Calls Tryz.prog 76 #[.pointer (some ⟨R, 0, none⟩), .int .i64 wn] w fun e w' => e = .returned (.int .i64 n) ∧ w.grownBy w' (some R) ∧ Rd w0 w' R T wd r' := by
  unfold Sp.numberR at h
  split at h
  · cases h
  · rename_i s1 r1 h1
    split at h
    · rename_i hn
      simp only [Option.some.injEq, Prod.mk.injEq] at h
      obtain ⟨rfl, rfl⟩ := h
      obtain ⟨t, et, ett, _, hk⟩ := next_mem h1
      have hA : NumAt m s1 := by rw [← ett]; exact hN t (by rw [et]; simp) (hk (by decide))
      have H16 := Lib.hid (next_ok (k := 100) (kk := 100) hr rfl h1)
      have H91 := Lib.hid (hA wn hw).1
      have H92 := Lib.hid (hA wn hw).2.1
      rw [hn] at H91
      generalize (m.number s1 wn).1 = n at *
      generalize hcc : m.cls n wn = c at *
      obtain ⟨ts1, st1⟩ := r1
      clear hn h1 et ett hk hA hN hcc
      dsimp only at *
      by_cases h0 : st1 = 0
      · subst h0
        by_cases h4 : c = 4
        · subst h4
          rw [if_pos rfl]
          go_enter Tryz.func76, Tryz.ntmps76
          go_wp2_with fail
          refine H16.out.mono ?_
          rintro e w1 ⟨rfl, hg, hr1⟩
          go_wp2_with fail
          refine (H91.out _ hr1.now).mono ?_
          rintro e w2 ⟨rfl, hb⟩
          have hr2 := hr1.keep hb
          obtain ⟨hs, hf⟩ := hr2.stop
          go_wp2_with fail
          refine (H92.out _).mono ?_
          rintro e w3 ⟨rfl, hb3⟩
          have hr3 := hr2.keep hb3
          obtain ⟨hs3, hf3⟩ := hr3.stop
          go_wp2_with fail
          go_ret
          exact ⟨rfl, gr_put (gr_trans hg (gr_trans (gr_below hb _) (gr_below hb3 _))) _ _, hr3.setStop 30⟩
        · have e4 : (c == 4) = false := beq_eq_false_iff_ne.2 h4
          by_cases h3 : c = 3
          · subst h3
            rw [if_pos rfl]
            go_enter Tryz.func76, Tryz.ntmps76
            go_wp2_with fail
            refine H16.out.mono ?_
            rintro e w1 ⟨rfl, hg, hr1⟩
            go_wp2_with fail
            refine (H91.out _ hr1.now).mono ?_
            rintro e w2 ⟨rfl, hb⟩
            have hr2 := hr1.keep hb
            obtain ⟨hs, hf⟩ := hr2.stop
            go_wp2_with fail
            refine (H92.out _).mono ?_
            rintro e w3 ⟨rfl, hb3⟩
            have hr3 := hr2.keep hb3
            obtain ⟨hs3, hf3⟩ := hr3.stop
            go_wp2_with fail
            go_ret
            exact ⟨rfl, gr_put (gr_trans hg (gr_trans (gr_below hb _) (gr_below hb3 _))) _ _, hr3.setStop 31⟩
          · have e3 : (c == 3) = false := beq_eq_false_iff_ne.2 h3
            have hst : stopOf c = 0 := by unfold stopOf; rw [if_neg h4, if_neg h3]
            rw [if_pos rfl, hst]
            clear h4 h3 hst
            go_enter Tryz.func76, Tryz.ntmps76
            go_wp2_with fail
            refine H16.out.mono ?_
            rintro e w1 ⟨rfl, hg, hr1⟩
            go_wp2_with fail
            refine (H91.out _ hr1.now).mono ?_
            rintro e w2 ⟨rfl, hb⟩
            have hr2 := hr1.keep hb
            obtain ⟨hs, hf⟩ := hr2.stop
            go_wp2_with fail
            refine (H92.out _).mono ?_
            rintro e w3 ⟨rfl, hb3⟩
            go_wp2_with fail
            go_ret
            exact ⟨rfl, gr_trans hg (gr_trans (gr_below hb _) (gr_below hb3 _)), hr2.keep hb3⟩
      · have e0 : (st1 == 0) = false := beq_eq_false_iff_ne.2 h0
        rw [if_neg h0]
        clear h0
        go_enter Tryz.func76, Tryz.ntmps76
        go_wp2_with fail
        refine H16.out.mono ?_
        rintro e w1 ⟨rfl, hg, hr1⟩
        go_wp2_with fail
        refine (H91.out _ hr1.now).mono ?_
        rintro e w2 ⟨rfl, hb⟩
        have hr2 := hr1.keep hb
        obtain ⟨hs, hf⟩ := hr2.stop
        go_wp2_with fail
        go_ret
        exact ⟨rfl, gr_trans hg (gr_below hb _), hr2⟩
    · cases h
set_option maxHeartbeats 1000000 in
theorem numberR_no {m : Nums} {w0 w : World} {R T : Nat} {wd wn : Int} {r : RS} (hr : Rd w0 w R T wd r) (hw : wn = 32 ∨ wn = 64) (hN : NumsAt m r.ts) (h : Sp.numberR m wn r = none) :
    Calls Tryz.prog 76 #[.pointer (some ⟨R, 0, none⟩), .int .i64 wn] w fun e w' => e = .panicked (giv 70) ∧ w.grownBy w' (some R) := by
  unfold Sp.numberR at h
  split at h
  · rename_i h1
    have H16 := Lib.hid (next_no (k := 100) (kk := 100) hr rfl h1)
    clear h1
    go_enter Tryz.func76, Tryz.ntmps76
    go_wp2_with fail
    refine H16.out.mono ?_
    rintro e w1 ⟨rfl, rfl⟩
    go_wp2_with fail
    exact ⟨rfl, rfl, gr_refl _ _⟩
  · rename_i s1 r1 h1
    split at h
    · cases h
    · rename_i hn
      have hn' : (m.number s1 wn).2 = false := by simpa using hn
      obtain ⟨t, et, ett, _, hk⟩ := next_mem h1
      have hA : NumAt m s1 := by rw [← ett]; exact hN t (by rw [et]; simp) (hk (by decide))
      have H16 := Lib.hid (next_ok (k := 100) (kk := 100) hr rfl h1)
      have H91 := Lib.hid (hA wn hw).1
      rw [hn'] at H91
      generalize (m.number s1 wn).1 = n at *
      clear hn h1 et ett hk hA hN hn'
      go_enter Tryz.func76, Tryz.ntmps76
      go_wp2_with fail
      refine H16.out.mono ?_
      rintro e w1 ⟨rfl, hg, hr1⟩
      go_wp2_with fail
      refine (H91.out _ hr1.now).mono ?_
      rintro e w2 ⟨rfl, hb⟩
      go_wp2_with fail
      refine (syntax_any _ _).mono ?_
      rintro e w3 ⟨rfl, rfl⟩
      go_wp2_with fail
      exact ⟨rfl, rfl, gr_trans hg (gr_below hb _)⟩
theorem numberR_neg {m : Nums} {n : Int} {r r' : RS} (hN : NumsAt m r.ts) (h : Sp.numberR m 64 r = some (n, r')) :
    ∀ W, Calls Tryz.prog 77 #[.int .i64 n, .int .i64 64] W fun e w' => e = .returned (.int .i64 (m.neg n)) ∧ Below W.heap.size W w' := by
  unfold Sp.numberR at h
  split at h
  · cases h
  · rename_i s1 r1 h1
    split at h
    · simp only [Option.some.injEq, Prod.mk.injEq] at h
      obtain ⟨rfl, rfl⟩ := h
      obtain ⟨t, et, ett, _, hk⟩ := next_mem h1
      have hA : NumAt m s1 := by rw [← ett]; exact hN t (by rw [et]; simp) (hk (by decide))
      exact (hA 64 (.inr rfl)).2.2
    · cases h
theorem numberR_nums {m : Nums} {wn n : Int} {r r' : RS} (hN : NumsAt m r.ts) (h : Sp.numberR m wn r = some (n, r')) : NumsAt m r'.ts := by
  unfold Sp.numberR at h
  split at h
  · cases h
  · rename_i s1 r1 h1
    split at h
    · simp only [Option.some.injEq, Prod.mk.injEq] at h
      obtain ⟨rfl, rfl⟩ := h
      have := hN.next h1; exact this
    · cases h
theorem signedR_nums {m : Nums} {n : Int} {r r' : RS} (hN : NumsAt m r.ts) (h : Sp.signedR m r = some (n, r')) : NumsAt m r'.ts := by
  unfold Sp.signedR at h
  split at h
  · exact numberR_nums hN h
  · rename_i s r1 h1
    split at h
    · cases h
    · rename_i b r2 h2
      simp only [Option.some.injEq, Prod.mk.injEq] at h
      obtain ⟨rfl, rfl⟩ := h
      exact numberR_nums (hN.sign h1) h2
set_option maxHeartbeats 1000000 in
theorem signedR_ok {m : Nums} {w0 w : World} {R T : Nat} {wd : Int} {n : Int} {r r' : RS} (hr : Rd w0 w R T wd r) (hN : NumsAt m r.ts) (h : Sp.signedR m r = some (n, r')) :
    Calls Tryz.prog 56 #[.pointer (some ⟨R, 0, none⟩)] w fun e w' => e = .returned (.int .i64 n) ∧ w.grownBy w' (some R) ∧ Rd w0 w' R T wd r' := by
  unfold Sp.signedR at h
  split at h
  · rename_i h1
    have H75 := Lib.hid (sign_no (sg := [45]) hr h1)
    have H76 := Lib.hid (numberR_ok hr (.inr rfl) hN h)
    clear h1 h hN
    go_enter Tryz.func56, Tryz.ntmps56
    go_wp2_with fail
    refine H75.out.mono ?_
    rintro e w1 ⟨rfl, rfl⟩
    go_wp2_with fail
    refine H76.out.mono ?_
    rintro e w2 ⟨rfl, hg, hr2⟩
    go_wp2_with fail
    go_ret
    exact ⟨rfl, hg, hr2⟩
  · rename_i s r1 h1
    have hN1 := hN.sign h1
    have H75 := Lib.hid (sign_ok (sg := [45]) hr h1)
    split at h
    · cases h
    · rename_i b r2 h2
      simp only [Option.some.injEq, Prod.mk.injEq] at h
      obtain ⟨rfl, rfl⟩ := h
      have H77 := Lib.hid (numberR_neg hN1 h2)
      have H76 := Lib.hid (fun W (hr : Rd w0 W R T wd r1) => numberR_ok hr (.inr rfl) hN1 h2)
      clear h1 h2 hN hN1
      go_enter Tryz.func56, Tryz.ntmps56
      go_wp2_with fail
      refine H75.out.mono ?_
      rintro e w1 ⟨rfl, hg, hr1⟩
      go_wp2_with fail
      refine (H76.out _ hr1).mono ?_
      rintro e w2 ⟨rfl, hg2, hr2⟩
      go_wp2_with fail
      refine (H77.out _).mono ?_
      rintro e w3 ⟨rfl, hb3⟩
      go_wp2_with fail
      go_ret
      exact ⟨rfl, gr_trans hg (gr_trans hg2 (gr_below hb3 _)), hr2.keep hb3⟩
set_option maxHeartbeats 1000000 in
theorem signedR_no {m : Nums} {w0 w : World} {R T : Nat} {wd : Int} {r : RS} (hr : Rd w0 w R T wd r) (hN : NumsAt m r.ts) (h : Sp.signedR m r = none) :
    Calls Tryz.prog 56 #[.pointer (some ⟨R, 0, none⟩)] w fun e w' => e = .panicked (giv 70) ∧ w.grownBy w' (some R) := by
  unfold Sp.signedR at h
  split at h
  · rename_i h1
    have H75 := Lib.hid (sign_no (sg := [45]) hr h1)
    have H76 := Lib.hid (numberR_no hr (.inr rfl) hN h)
    clear h1 h hN
    go_enter Tryz.func56, Tryz.ntmps56
    go_wp2_with fail
    refine H75.out.mono ?_
    rintro e w1 ⟨rfl, rfl⟩
    go_wp2_with fail
    refine H76.out.mono ?_
    rintro e w2 ⟨rfl, hg⟩
    go_wp2_with fail
    exact ⟨rfl, rfl, hg⟩
  · rename_i s r1 h1
    have hN1 := hN.sign h1
    have H75 := Lib.hid (sign_ok (sg := [45]) hr h1)
    split at h
    · rename_i h2
      have H76 := Lib.hid (fun W (hr : Rd w0 W R T wd r1) => numberR_no hr (.inr rfl) hN1 h2)
      clear h1 h2 hN hN1
      go_enter Tryz.func56, Tryz.ntmps56
      go_wp2_with fail
      refine H75.out.mono ?_
      rintro e w1 ⟨rfl, hg, hr1⟩
      go_wp2_with fail
      refine (H76.out _ hr1).mono ?_
      rintro e w2 ⟨rfl, hg2⟩
      go_wp2_with fail
      exact ⟨rfl, rfl, gr_trans hg hg2⟩
    · cases h
end Go.Proofs.YtdkhedefcmjjgaaGreatDoor
