/- line, walked: lines that mean nothing; lines whose words are none.
Conditions: the scan's contract. -/
import Derived.Test.YtdkhedefcmjjgaaGreatDoorLine0
namespace Go.Proofs.YtdkhedefcmjjgaaGreatDoor
open Go.RowKit Sp
set_option linter.unusedVariables false
set_option linter.unusedSimpArgs false
/-- A line that means nothing, told. -/
theorem void_end {m : Nums} {wb : World} {S : Nat} {s : St} {w : World} {l : Bs} {i : Int} {w1 : World} {tmps : Array Value} (hst : StAt wb S s w) (hb : Below (w.alloc (.cells #[.int .i64 0] 26)).heap.size (w.alloc (.cells #[.int .i64 0] 26)) w1) (hspec : Sp.line m s l i = .ok s)
    (ht : tmps.getD 6 undef = .pointer (some ⟨w.heap.size, 0, none⟩)) :
    bodyPostD Tryz.prog Tryz.f10 (LinePost wb S (Sp.line m s l i) w) Exit.ret { tmps := tmps, defers := [{ target := .fn (.func 13) #[.pointer (some ⟨w.heap.size, 0, none⟩)], args := #[] }] } (w1.setCell ⟨w.heap.size, 0, none⟩ (.int .i64 0)) := by
  have he := ecell hb
  have hS := hst.lt
  have hB : Below w.heap.size w (w1.setCell ⟨w.heap.size, 0, none⟩ (.int .i64 0)) := (((Below.refl _ w).alloc (Nat.le_refl _) _).trans (hb.mono (by simp))).setCell (Nat.le_refl _) _
  exact door_ret (n := 0) ht (by rw [cell_heap (set_heap he 0 _)]; rfl) ⟨hB.mono (by omega), .inr ⟨s, hspec, rfl, hst.keep hB⟩⟩
set_option maxRecDepth 100000 in
set_option maxHeartbeats 4000000 in
theorem line_void (m : Nums) (wb : World) (S : Nat) (s : St) (w : World) (hst : StAt wb S s w) (l : Bs) (i : Int) (hl : l.length ≤ 70000) (hv : void l = true) :
    Calls Tryz.prog 10 #[.pointer (some ⟨S, 0, none⟩), .string (bstr l), .int .i64 i] w (LinePost wb S (Sp.line m s l i) w) := by
  have hmf : ∀ (fn : Fn) (first cap : Array Value) (w : World), (Instr.makeFunc fn first cap).run Tryz.prog w = .ok (.func fn first cap) w := fun _ _ _ _ => rfl
  have hspec : Hid (Sp.line m s l i = .ok s) := Lib.hid (by unfold Sp.line; rw [hv]; rfl)
  have hSlt := hst.lt
  have hst' := Lib.hid hst
  have H14 := Lib.hid (trim_any l (w.alloc (.cells #[.int .i64 0] 26)) (by omega))
  rw [void_trim] at hv
  cases ht : Lib.trimS l [32, 9] with
  | nil =>
    rw [ht] at H14
    clear hv ht hst
    have hem : (bstr []).toList = [] := bstr_toList []
    go_enter_defers Tryz.func10, Tryz.ntmps10
    go_wp2_with fail
    refine H14.out.mono ?_
    rintro e w1 ⟨rfl, hb1⟩
    have he := Lib.hid (ecell hb1)
    have e0 : w1.cell? ⟨w.heap.size, 0, none⟩ = some (.int .i64 0) := cell_heap he.out 0
    have e1 : w1.frozen? ⟨w.heap.size, 0, none⟩ = false := free_heap he.out 0
    go_wp2_with fail
    exact void_end hst'.out hb1 hspec.out rfl
  | cons c r =>
    rw [ht] at H14 hv
    have hc : c = 35 := by simpa using hv
    subst hc
    clear hv ht hst
    have hem : (bstr (35 :: r)).toList = 35 :: r := bstr_toList _
    have hsz : (bstr (35 :: r)).size = r.length + 1 := bstr_size _
    have h35 : ((((bstr (35 :: r))[0]'(by rw [hsz]; omega)).toNat : Int) == 35) = true := rfl
    go_enter_defers Tryz.func10, Tryz.ntmps10
    go_wp2_with fail
    refine H14.out.mono ?_
    rintro e w1 ⟨rfl, hb1⟩
    have he := Lib.hid (ecell hb1)
    have e0 : w1.cell? ⟨w.heap.size, 0, none⟩ = some (.int .i64 0) := cell_heap he.out 0
    have e1 : w1.frozen? ⟨w.heap.size, 0, none⟩ = false := free_heap he.out 0
    go_wp2_with fail
    exact void_end hst'.out hb1 hspec.out rfl
/-- A line that gives up, told. -/
theorem giv_end {m : Nums} {wb : World} {S : Nat} {s : St} {w : World} {l : Bs} {i n : Int} {w2 : World} {tmps : Array Value} (hS : S ≤ w.heap.size) (hspec : Sp.line m s l i = .error n) (hB : Below S w w2) (he : w2.heap[w.heap.size]? = some (.cells #[.int .i64 0] 26 (0, 0)))
    (ht : tmps.getD 6 undef = .pointer (some ⟨w.heap.size, 0, none⟩)) :
    bodyPostD Tryz.prog Tryz.f10 (LinePost wb S (Sp.line m s l i) w) (Exit.panic (giv n)) { tmps := tmps, defers := [{ target := .fn (.func 13) #[.pointer (some ⟨w.heap.size, 0, none⟩)], args := #[] }] } w2 :=
  door_panic ht he ⟨hB.setCell (by show S ≤ w.heap.size; exact hS) _, .inl ⟨n, hspec, rfl⟩⟩
theorem noscan_end {m : Nums} {wb : World} {S : Nat} {s : St} {w : World} {l : Bs} {i : Int} {w1 w2 : World} {tmps : Array Value} (hS : S < w.heap.size) (hb : Below (w.alloc (.cells #[.int .i64 0] 26)).heap.size (w.alloc (.cells #[.int .i64 0] 26)) w1) (hb2 : Below w1.drew.heap.size w1.drew w2) (hspec : Sp.line m s l i = .error 70)
    (ht : tmps.getD 6 undef = .pointer (some ⟨w.heap.size, 0, none⟩)) :
    bodyPostD Tryz.prog Tryz.f10 (LinePost wb S (Sp.line m s l i) w) (Exit.panic (giv 70)) { tmps := tmps, defers := [{ target := .fn (.func 13) #[.pointer (some ⟨w.heap.size, 0, none⟩)], args := #[] }] } w2 := by
  have h1 := hb.size
  simp at h1
  have he := ecell hb
  refine giv_end (by omega) hspec ?_ ((hb2.block _ (by show w.heap.size < w1.heap.size; omega)).trans he) ht
  exact ((((Below.refl S w).alloc (by omega) _).trans (hb.mono (by simp; omega))).drew).trans (hb2.mono (by show S ≤ w1.heap.size; omega))
theorem Env.drew {w : World} (h : Env w) : Env w.drew := h.old (Below.refl _ _).drew
set_option maxRecDepth 100000 in
set_option maxHeartbeats 4000000 in
theorem line_noscan (m : Nums) (wb : World) (S : Nat) (s : St) (w : World) (hst : StAt wb S s w) (l : Bs) (i : Int) (hl : l.length ≤ 70000) (hv : void l = false) (hs : Sp.scan l = none)
    (hsc : ∀ W, Env W → Calls Tryz.prog 15 #[.string (bstr l)] W (ScanPost l W)) :
    Calls Tryz.prog 10 #[.pointer (some ⟨S, 0, none⟩), .string (bstr l), .int .i64 i] w (LinePost wb S (Sp.line m s l i) w) := by
  have hmf : ∀ (fn : Fn) (first cap : Array Value) (w : World), (Instr.makeFunc fn first cap).run Tryz.prog w = .ok (.func fn first cap) w := fun _ _ _ _ => rfl
  have hspec : Hid (Sp.line m s l i = .error 70) := Lib.hid (by unfold Sp.line; rw [hv, hs]; rfl)
  have hSlt := hst.lt
  have hst' := Lib.hid hst
  have hstA := Lib.hid (hst.keep ((Below.refl w.heap.size w).alloc (Nat.le_refl _) (.cells #[.int .i64 0] 26)))
  have H14 := Lib.hid (trim_any l (w.alloc (.cells #[.int .i64 0] 26)) (by omega))
  have H15 : Hid (∀ W, Env W → Calls Tryz.prog 15 #[.string (bstr l)] W fun e w' => e = .panicked (giv 70) ∧ Below W.heap.size W w') := Lib.hid (fun W hW => (hsc W hW).mono (by
    rintro e w' ⟨hb, ⟨_, rfl⟩ | ⟨ts, v, T, h, _⟩⟩
    · exact ⟨rfl, hb⟩
    · rw [hs] at h; cases h))
  rw [void_trim] at hv
  clear hsc hs
  cases ht : Lib.trimS l [32, 9] with
  | nil => rw [ht] at hv; cases hv
  | cons c r =>
    rw [ht] at H14 hv
    have hem : (bstr (c :: r)).toList = c :: r := bstr_toList _
    have hsz : (bstr (c :: r)).size = r.length + 1 := bstr_size _
    have h35 : ((((bstr (c :: r))[0]'(by rw [hsz]; omega)).toNat : Int) == 35) = false := (u8_eq c 35).trans hv
    clear hv ht hst
    go_enter_defers Tryz.func10, Tryz.ntmps10
    go_wp2_with fail
    refine H14.out.mono ?_
    rintro e w1 ⟨rfl, hb1⟩
    have he := Lib.hid (ecell hb1)
    have hst1 := Lib.hid (hstA.out.keep hb1)
    have hEnv := Lib.hid hst1.out.now
    have q1 : w1.cell? ⟨S, 1, none⟩ = some (.int .i64 s.width) := by
      obtain ⟨v, cs, h1, _⟩ := hst1.out.at_
      exact cell_heap h1 1
    go_wp2_with fail
    refine wp_region_any (by kernel_rfl) ?_
    change wpAny _ _ _ _ _ _ _ (World.drew _)
    refine wpAny_take (i := 0) (v := .string (bstr l)) rfl (by kernel_rfl) (by kernel_rfl) (by kernel_rfl) (fun _ _ _ h => panic_put (by decide) h) (Or.inl ⟨by rfl, fun w => by go_simp⟩) ?_
    refine wpAny_take (i := 2) (v := .pointer (some ⟨S, 0, none⟩)) rfl (by kernel_rfl) (by kernel_rfl) (by kernel_rfl) (fun _ _ _ h => panic_put (by decide) h) (Or.inl ⟨by rfl, fun w => by go_simp⟩) ?_
    refine wpAny_take (i := 3) (v := .pointer (some ⟨S, 0, none⟩)) rfl (by kernel_rfl) (by kernel_rfl) (by kernel_rfl) (fun _ _ _ h => panic_put (by decide) h) (Or.inl ⟨by rfl, fun w => by go_simp⟩) ?_
    refine wpAny_take (i := 4) (v := .pointer (some ⟨S, 0, none⟩)) rfl (by kernel_rfl) (by kernel_rfl) (by kernel_rfl) (fun _ _ _ h => panic_put (by decide) h) (Or.inl ⟨by rfl, fun w => by go_simp⟩) ?_
    refine wpAny_take (i := 5) (v := .pointer (some ⟨S, 1, none⟩)) rfl (by kernel_rfl) (by kernel_rfl) (by kernel_rfl) (fun _ _ _ h => panic_put (by decide) h) (Or.inl ⟨by rfl, fun w => by go_simp⟩) ?_
    refine wpAny_ready (rs := [1, 6]) (by kernel_rfl) (by simp) ?_
    refine AllReady.cons rfl (fun K hK => ?_) (AllReady.cons rfl (fun K hK => ?_) AllReady.nil)
    · go_simp
      refine (H15.out _ hEnv.out.drew).mono ?_
      rintro e w2 ⟨rfl, hb2⟩
      exact noscan_end hSlt hb1 hb2 hspec.out rfl
    · go_simp
      refine hK _ _ ?_
      clear hK K
      refine wpAny_ready (rs := [1]) (by kernel_rfl) (by simp) ?_
      refine AllReady.cons rfl (fun K hK => ?_) AllReady.nil
      go_simp
      refine (H15.out _ hEnv.out.drew).mono ?_
      rintro e w2 ⟨rfl, hb2⟩
      exact noscan_end hSlt hb1 hb2 hspec.out rfl
end Go.Proofs.YtdkhedefcmjjgaaGreatDoor
