/- term and expr, walked over any factor that keeps its contract.
Conditions: the factor's contract. -/
import Derived.Test.YtdkhedefcmjjgaaGreatDoorChain
namespace Go.Proofs.YtdkhedefcmjjgaaGreatDoor
open Go.RowKit Sp
set_option linter.unusedVariables false
theorem enter79 (args : Array Value) (W : World) : (callFunc 79 args).run Tryz.prog W = .ok (.enter 79 args) W := by kernel_rfl
theorem enter58 (args : Array Value) (W : World) : (callFunc 58 args).run Tryz.prog W = .ok (.enter 58 args) W := by kernel_rfl
theorem term_ends {spec : RS → Option (Ex × RS)} (hE : Ends spec) : Ends (chain [42, 47, 64] spec) := chain_ends hE
/-- What comes out of a callee, laid into the caller's result. -/
theorem ret_step {w0 w w1 : World} {R T : Nat} {wd : Int} {r' : RS} {x : Ex} {k b : Int} {s : ByteArray} {A : Option Addr} {n c : Nat} {Y : Nat} (hY : w1.heap[Y]? = some (.cells (four 0 0 ⟨#[]⟩ (.slice none 0 0)) 36 (0, 0))) (hYw : w.heap.size ≤ Y)
    (hR : R < w.heap.size) (hT : T < w.heap.size) (hB : w0.heap.size ≤ w.heap.size) (hg : w.grownBy w1 (some R)) (B : Nat) (hBY : Y < B) (hBw : w.heap.size ≤ B)
    (hx : ExAt w1 (Since B) x [.int .i64 k, .int .i64 b, .string s, .slice A n c]) (hr : Rd w0 w1 R T wd r') :
    w.grownBy ((((w1.setCell ⟨Y, 0, none⟩ (.int .i64 k)).setCell ⟨Y, 1, none⟩ (.int .i64 b)).setCell ⟨Y, 2, none⟩ (.string s)).setCell ⟨Y, 3, none⟩ (.slice A n c)) (some R) ∧
    ((((w1.setCell ⟨Y, 0, none⟩ (.int .i64 k)).setCell ⟨Y, 1, none⟩ (.int .i64 b)).setCell ⟨Y, 2, none⟩ (.string s)).setCell ⟨Y, 3, none⟩ (.slice A n c)).heap[Y]? = some (.cells (four k b s (.slice A n c)) 36 (0, 0)) ∧
    ExAt ((((w1.setCell ⟨Y, 0, none⟩ (.int .i64 k)).setCell ⟨Y, 1, none⟩ (.int .i64 b)).setCell ⟨Y, 2, none⟩ (.string s)).setCell ⟨Y, 3, none⟩ (.slice A n c)) (Since w.heap.size) x [.int .i64 k, .int .i64 b, .string s, .slice A n c] ∧
    Rd w0 ((((w1.setCell ⟨Y, 0, none⟩ (.int .i64 k)).setCell ⟨Y, 1, none⟩ (.int .i64 b)).setCell ⟨Y, 2, none⟩ (.string s)).setCell ⟨Y, 3, none⟩ (.slice A n c)) R T wd r' := by
  refine ⟨gr_new (gr_new (gr_new (gr_new hg hYw _) hYw _) hYw _) hYw _, set4 hY, ?_, ?_⟩
  · have hno : ¬ Since B Y := by show ¬ B ≤ Y; omega
    exact ((((hx.other hno _ _).other hno _ _).other hno _ _).other hno _ _).lower hBw
  · exact (((hr.other (by omega) (by omega) (by omega) _ _).other (by omega) (by omega) (by omega) _ _).other (by omega) (by omega) (by omega) _ _).other (by omega) (by omega) (by omega) _ _
set_option maxHeartbeats 1000000 in
theorem term_any (m : Nums) (w0 : World) (R T : Nat) (wd : Int) (n : Nat) (spec : RS → Option (Ex × RS)) (hE : Ends spec) (hP : PartC m w0 R T wd 79 n spec) : PartC m w0 R T wd 58 n (chain [42, 47, 64] spec) := by
  intro w r hn hr hN
  have hr0 := hr.keep ((Below.refl w.heap.size w).alloc (Nat.le_refl _) (.cells #[.int .i64 0, .int .i64 0, .string ⟨#[]⟩, .slice none 0 0] 36))
  have H57 := Lib.hid (chain_any m w0 R T wd 79 n spec hE hP [42, 47, 64] _ r hn hr0 hN enter79)
  have hmf : ∀ (fn : Fn) (first cap : Array Value) (w : World), (Instr.makeFunc fn first cap).run Tryz.prog w = .ok (.func fn first cap) w := fun _ _ _ _ => rfl
  have hRw := hr.lt
  have hTw := hr.ltT
  have hBw := hr.below.size
  clear hP
  go_enter Tryz.func58, Tryz.ntmps58
  go_wp2_with fail
  refine H57.out.mono ?_
  rintro e w1 ⟨hg, ⟨hsp, rfl⟩ | ⟨x, r1, k, b, s, A, n1, c, hsp, rfl, hx, hr1⟩⟩
  · have hsp' := Lib.hid hsp
    clear hsp
    go_wp2_with fail
    exact ⟨rfl, gr_trans (gr_alloc _ _ _) hg, .inl ⟨hsp'.out, rfl⟩⟩
  · have hsp' := Lib.hid hsp
    clear hsp
    have hY : w1.heap[w.heap.size]? = some (.cells (four 0 0 ⟨#[]⟩ (.slice none 0 0)) 36 (0, 0)) := by
      rw [hg.block _ (by simp) (by intro e; injection e with e; omega)]
      exact heap_alloc_new _ _
    have hst := Lib.hid (ret_step hY (Nat.le_refl _) hRw hTw hBw (gr_trans (gr_alloc _ _ _) hg) _ (by simp) (by simp) hx hr1)
    obtain ⟨d0, d1, d2, d3⟩ := cells4 hY
    have df : ∀ i, w1.frozen? ⟨w.heap.size, i, none⟩ = false := fun i => free_heap hY i
    clear hY
    go_wp2_with fail
    exact bodyPost_ret (results36 (p := 2) rfl _ _ w.heap.size k b s (.slice A n1 c) rfl hst.out.2.1) rfl ⟨hst.out.1, .inr ⟨x, r1, k, b, s, A, n1, c, hsp'.out, rfl, hst.out.2.2.1, hst.out.2.2.2⟩⟩
set_option maxHeartbeats 1000000 in
theorem expr_any (m : Nums) (w0 : World) (R T : Nat) (wd : Int) (n : Nat) (spec : RS → Option (Ex × RS)) (hE : Ends spec) (hP : PartC m w0 R T wd 79 n spec) : PartC m w0 R T wd 41 n (exprOf spec) := by
  intro w r hn hr hN
  have hr0 := hr.keep ((Below.refl w.heap.size w).alloc (Nat.le_refl _) (.cells #[.int .i64 0, .int .i64 0, .string ⟨#[]⟩, .slice none 0 0] 36))
  have H57 := Lib.hid (chain_any m w0 R T wd 58 n (chain [42, 47, 64] spec) (term_ends hE) (term_any m w0 R T wd n spec hE hP) [43, 45] _ r hn hr0 hN enter58)
  have hmf : ∀ (fn : Fn) (first cap : Array Value) (w : World), (Instr.makeFunc fn first cap).run Tryz.prog w = .ok (.func fn first cap) w := fun _ _ _ _ => rfl
  have hRw := hr.lt
  have hTw := hr.ltT
  have hBw := hr.below.size
  clear hP
  go_enter Tryz.func41, Tryz.ntmps41
  go_wp2_with fail
  refine H57.out.mono ?_
  rintro e w1 ⟨hg, ⟨hsp, rfl⟩ | ⟨x, r1, k, b, s, A, n1, c, hsp, rfl, hx, hr1⟩⟩
  · have hsp' := Lib.hid hsp
    clear hsp
    go_wp2_with fail
    exact ⟨rfl, gr_trans (gr_alloc _ _ _) hg, .inl ⟨hsp'.out, rfl⟩⟩
  · have hsp' := Lib.hid hsp
    clear hsp
    have hY : w1.heap[w.heap.size]? = some (.cells (four 0 0 ⟨#[]⟩ (.slice none 0 0)) 36 (0, 0)) := by
      rw [hg.block _ (by simp) (by intro e; injection e with e; omega)]
      exact heap_alloc_new _ _
    have hst := Lib.hid (ret_step hY (Nat.le_refl _) hRw hTw hBw (gr_trans (gr_alloc _ _ _) hg) _ (by simp) (by simp) hx hr1)
    obtain ⟨d0, d1, d2, d3⟩ := cells4 hY
    have df : ∀ i, w1.frozen? ⟨w.heap.size, i, none⟩ = false := fun i => free_heap hY i
    clear hY
    go_wp2_with fail
    exact bodyPost_ret (results36 (p := 2) rfl _ _ w.heap.size k b s (.slice A n1 c) rfl hst.out.2.1) rfl ⟨hst.out.1, .inr ⟨x, r1, k, b, s, A, n1, c, hsp'.out, rfl, hst.out.2.2.1, hst.out.2.2.2⟩⟩
end Go.Proofs.YtdkhedefcmjjgaaGreatDoor
