/- factor, walked: a minus, a bracket, a number, a function, a name.
Conditions: the contract of factor at fewer words. -/
import Derived.Test.YtdkhedefcmjjgaaGreatDoorMFun0
namespace Go.Proofs.YtdkhedefcmjjgaaGreatDoor
open Go.RowKit Sp
set_option linter.unusedSimpArgs false
set_option linter.unusedVariables false
theorem zero_keep {w w1 : World} {R : Nat} (hR : R < w.heap.size) (hg : (w.alloc (.cells #[.int .i64 0, .int .i64 0, .string ⟨#[]⟩, .slice none 0 0] 36)).grownBy w1 (some R)) : w1.heap[w.heap.size]? = some (.cells (four 0 0 ⟨#[]⟩ (.slice none 0 0)) 36 (0, 0)) := by
  rw [hg.block _ (by simp) (by intro e; injection e with e; omega)]
  exact heap_alloc_new _ _
theorem neg_ex {w w1 : World} {B : Nat} {x : Ex} {k b : Int} {s : ByteArray} {A : Option Addr} {n c : Nat} (hx : ExAt w (Since B) x [.int .i64 k, .int .i64 b, .string s, .slice A n c]) (hB : B ≤ w.heap.size)
    (hb : Below (w.alloc (.cells #[.int .i64 k, .int .i64 b, .string s, .slice A n c] 36)).heap.size (w.alloc (.cells #[.int .i64 k, .int .i64 b, .string s, .slice A n c] 36)) w1) (nm : Bs) :
    ExAt w1 (Since B) (Sp.call nm [x]) [.int .i64 3, .int .i64 0, .string (bstr nm), .slice (some ⟨w.heap.size, 0, none⟩) 1 1] := by
  have hs : w.heap.size + 1 ≤ w1.heap.size := by have := hb.size; simpa using this
  refine .mk 3 0 nm [x] (some ⟨w.heap.size, 0, none⟩) 1 (fun j => (#[.int .i64 k, .int .i64 b, .string s, .slice A n c] : Array Value).getD j undef) (by simp) (by omega) (fun _ => ⟨w.heap.size, 0, rfl, hB, by omega, fun j hj => ?_⟩) (fun i z hz => ?_)
  · have hj4 : j < 4 := by simpa using hj
    have h0 : w1.heap[w.heap.size]? = some (.cells #[.int .i64 k, .int .i64 b, .string s, .slice A n c] 36 (0, 0)) := (hb.block _ (by simp)).trans (heap_alloc_new _ _)
    rw [cell_heap h0, Nat.zero_add, Array.getElem?_eq_getElem (by simpa using hj4), Array.getD_eq_getD_getElem?, Array.getElem?_eq_getElem (by simpa using hj4)]
    rfl
  · rcases i with _ | i
    · obtain rfl : x = z := by simpa using hz
      exact (hx.old ((Below.refl _ _).alloc (Nat.le_refl _) _)).old hb
    · simp at hz
set_option maxHeartbeats 2000000 in
theorem factor_minus (m : Nums) (w0 : World) (R T : Nat) (wd : Int) (n : Nat) (spec : RS → Option (Ex × RS)) (hP : PartC m w0 R T wd 79 n spec)
    (w : World) (r : RS) (hn : r.ts.length ≤ n + 1) (hr : Rd w0 w R T wd r) (hN : NumsAt m r.ts) (s1 : Bs) (r1 : RS) (h1 : Sp.sign [45] r = some (s1, r1)) :
    Calls Tryz.prog 79 #[.pointer (some ⟨R, 0, none⟩)] w (ExPost w0 R T wd w (Sp.factorStep m wd spec r)) := by
  have hr0 := hr.keep ((Below.refl w.heap.size w).alloc (Nat.le_refl _) (.cells #[.int .i64 0, .int .i64 0, .string ⟨#[]⟩, .slice none 0 0] 36))
  have H75 := Lib.hid (sign_ok (sg := [45]) hr0 h1)
  have hfac : Sp.factorStep m wd spec r = match spec r1 with | none => none | some (x, r'') => some (Sp.call [110, 101, 103] [x], r'') := by
    unfold Sp.factorStep; rw [h1]; dsimp only
    cases spec r1 <;> rfl
  have hl1 := sign_len h1
  have hN1 : NumsAt m r1.ts := hN.suffix (sign_suffix h1)
  have HPw := Lib.hid (fun W (hR : Rd w0 W R T wd r1) => hP W r1 (by omega) hR hN1)
  have hRw := hr.lt
  have hTw := hr.ltT
  have hBw := hr.below.size
  have hfac' := Lib.hid hfac
  clear hP h1 hfac
  go_enter Tryz.func79, Tryz.ntmps79
  go_wp2_with fail
  refine H75.out.mono ?_
  rintro e w1 ⟨rfl, hg1, hr1⟩
  go_wp2_with fail
  refine (HPw.out _ hr1).mono ?_
  rintro e w2 ⟨hg2, ⟨hsp, rfl⟩ | ⟨x, r2, k, b, s, A, n1, c, hsp, rfl, hx, hr2⟩⟩
  · have hfin : Hid (Sp.factorStep m wd spec r = none) := Lib.hid (by rw [hfac'.out, hsp])
    clear hsp
    go_wp2_with fail
    exact ⟨rfl, gr_trans (gr_trans (gr_alloc _ _ _) hg1) hg2, .inl ⟨hfin.out, rfl⟩⟩
  · have hfin : Hid (Sp.factorStep m wd spec r = some (Sp.call [110, 101, 103] [x], r2)) := Lib.hid (by rw [hfac'.out, hsp])
    clear hsp
    go_wp2_with fail
    refine (call_any _ _ _ _ _).mono ?_
    rintro e w3 ⟨rfl, hb3⟩
    have hY : w3.heap[w.heap.size]? = some (.cells (four 0 0 ⟨#[]⟩ (.slice none 0 0)) 36 (0, 0)) := heap_alloc_keep hb3 (zero_keep hRw (gr_trans hg1 hg2))
    have h12 := hg1.size
    have h13 := hg2.size
    have hst := Lib.hid (ret_step hY (Nat.le_refl _) hRw hTw hBw (gr_trans (gr_trans (gr_trans (gr_alloc _ _ _) hg1) hg2) (gr_trans (gr_alloc _ _ _) (gr_below hb3 _))) _ (by simp at h12; omega) (by simp at h12; omega) (neg_ex hx h13 hb3 [110, 101, 103]) ((hr2.keep ((Below.refl _ _).alloc (Nat.le_refl _) _)).keep hb3))
    obtain ⟨d0, d1, d2, d3⟩ := cells4 hY
    have df : ∀ i, w3.frozen? ⟨w.heap.size, i, none⟩ = false := fun i => free_heap hY i
    clear hY
    go_wp2_with fail
    exact bodyPost_ret (results36 (p := 2) rfl _ _ w.heap.size 3 0 (bstr [110, 101, 103]) _ rfl hst.out.2.1) rfl ⟨hst.out.1, .inr ⟨_, r2, _, _, _, _, _, _, hfin.out, rfl, hst.out.2.2.1, hst.out.2.2.2⟩⟩
set_option maxHeartbeats 2000000 in
theorem factor_paren (m : Nums) (w0 : World) (R T : Nat) (wd : Int) (n : Nat) (spec : RS → Option (Ex × RS)) (hE : Ends spec) (hP : PartC m w0 R T wd 79 n spec)
    (w : World) (r : RS) (hn : r.ts.length ≤ n + 1) (hr : Rd w0 w R T wd r) (hN : NumsAt m r.ts) (h0 : Sp.sign [45] r = none) (s1 : Bs) (r1 : RS) (h1 : Sp.sign [40] r = some (s1, r1)) :
    Calls Tryz.prog 79 #[.pointer (some ⟨R, 0, none⟩)] w (ExPost w0 R T wd w (Sp.factorStep m wd spec r)) := by
  have hr0 := hr.keep ((Below.refl w.heap.size w).alloc (Nat.le_refl _) (.cells #[.int .i64 0, .int .i64 0, .string ⟨#[]⟩, .slice none 0 0] 36))
  have H75 := Lib.hid (sign_no (sg := [45]) hr0 h0)
  have H75' := Lib.hid (sign_ok (sg := [40]) hr0 h1)
  have hfac : Sp.factorStep m wd spec r = match exprOf spec r1 with | none => none | some (x, r'') => match Sp.next 41 r'' with | none => none | some (_, r3) => some (x, r3) := by
    unfold Sp.factorStep; rw [h0, h1]; dsimp only
    cases exprOf spec r1 with
    | none => rfl
    | some p => obtain ⟨x, r2⟩ := p; dsimp only; cases Sp.next 41 r2 <;> rfl
  have hl1 := sign_len h1
  have hN1 : NumsAt m r1.ts := hN.suffix (sign_suffix h1)
  have HE := Lib.hid (fun W (hR : Rd w0 W R T wd r1) => expr_any m w0 R T wd n spec hE hP W r1 (by omega) hR hN1)
  have hRw := hr.lt
  have hTw := hr.ltT
  have hBw := hr.below.size
  have hfac' := Lib.hid hfac
  clear hP h1 h0 hfac
  go_enter Tryz.func79, Tryz.ntmps79
  go_wp2_with fail
  refine H75.out.mono ?_
  rintro e w1' ⟨rfl, rfl⟩
  go_wp2_with fail
  refine H75'.out.mono ?_
  rintro e w1 ⟨rfl, hg1, hr1⟩
  go_wp2_with fail
  refine (HE.out _ hr1).mono ?_
  rintro e w2 ⟨hg2, ⟨hsp, rfl⟩ | ⟨x, r2, k, b, s, A, n1, c, hsp, rfl, hx, hr2⟩⟩
  · have hfin : Hid (Sp.factorStep m wd spec r = none) := Lib.hid (by rw [hfac'.out, hsp])
    clear hsp
    go_wp2_with fail
    exact ⟨rfl, gr_trans (gr_trans (gr_alloc _ _ _) hg1) hg2, .inl ⟨hfin.out, rfl⟩⟩
  · have h12 := hg1.size
    have h13 := hg2.size
    have hr2' := hr2.keep ((Below.refl _ _).alloc (Nat.le_refl _) (.cells #[.int .i64 k, .int .i64 b, .string s, .slice A n1 c] 36))
    cases h2 : Sp.next 41 r2 with
    | none =>
      have hfin : Hid (Sp.factorStep m wd spec r = none) := Lib.hid (by rw [hfac'.out, hsp]; dsimp only; rw [h2])
      have H16 := Lib.hid (next_no (k := 41) (kk := 41) hr2' rfl h2)
      clear hsp h2
      go_wp2_with fail
      refine H16.out.mono ?_
      rintro e w3 ⟨rfl, rfl⟩
      go_wp2_with fail
      exact ⟨rfl, gr_app (gr_trans (gr_trans (gr_alloc _ _ _) hg1) hg2) _, .inl ⟨hfin.out, rfl⟩⟩
    | some p =>
      obtain ⟨s3, r3⟩ := p
      have hfin : Hid (Sp.factorStep m wd spec r = some (x, r3)) := Lib.hid (by rw [hfac'.out, hsp]; dsimp only; rw [h2])
      have H16 := Lib.hid (next_ok (k := 41) (kk := 41) hr2' rfl h2)
      clear hsp h2
      go_wp2_with fail
      refine H16.out.mono ?_
      rintro e w3 ⟨rfl, hg3, hr3⟩
      have h14 := hg3.size
      have hX : w3.heap[w2.heap.size]? = some (.cells (four k b s (.slice A n1 c)) 36 (0, 0)) := (hg3.block _ (by simp) (by simp at h12; intro e; injection e with e; omega)).trans (heap_alloc_new _ _)
      have hY : w3.heap[w.heap.size]? = some (.cells (four 0 0 ⟨#[]⟩ (.slice none 0 0)) 36 (0, 0)) := zero_keep hRw (gr_trans hg1 (gr_trans hg2 (gr_trans (gr_alloc _ _ _) hg3)))
      have hx3 : ExAt w3 (Since w1.heap.size) x [.int .i64 k, .int .i64 b, .string s, .slice A n1 c] := (hx.old ((Below.refl _ _).alloc (Nat.le_refl _) (.cells #[.int .i64 k, .int .i64 b, .string s, .slice A n1 c] 36))).grown hg3 (by simp at h12; omega)
      have hst := Lib.hid (ret_step hY (Nat.le_refl _) hRw hTw hBw (gr_trans (gr_trans (gr_alloc _ _ _) hg1) (gr_trans hg2 (gr_trans (gr_alloc _ _ _) hg3))) _ (by simp at h12; omega) (by simp at h12; omega) hx3 hr3)
      obtain ⟨d0, d1, d2, d3⟩ := cells4 hY
      obtain ⟨e0, e1, e2, e3⟩ := cells4 hX
      have df : ∀ i, w3.frozen? ⟨w.heap.size, i, none⟩ = false := fun i => free_heap hY i
      clear hY hX
      go_wp2_with fail
      exact bodyPost_ret (results36 (p := 2) rfl _ _ w.heap.size k b s _ rfl hst.out.2.1) rfl ⟨hst.out.1, .inr ⟨_, r3, _, _, _, _, _, _, hfin.out, rfl, hst.out.2.2.1, hst.out.2.2.2⟩⟩
end Go.Proofs.YtdkhedefcmjjgaaGreatDoor
/- factor, walked: a number, a name, no word.
Conditions: none. -/
namespace Go.Proofs.YtdkhedefcmjjgaaGreatDoor
open Go.RowKit Sp
set_option linter.unusedSimpArgs false
set_option linter.unusedVariables false
theorem ExAt.named (w : World) (ok : Nat → Prop) (k b : Int) (s : Bs) : ExAt w ok (.mk k b s []) [.int .i64 k, .int .i64 b, .string (bstr s), .slice none 0 0] :=
  .mk k b s [] none 0 (fun _ => undef) (by simp) (by omega) (fun hne => absurd rfl hne) (fun i z hz => by simp at hz)
theorem Rd.head {w0 w : World} {R T : Nat} {wd : Int} {r : RS} {t : Tok} {l : List Tok} (h : Rd w0 w R T wd r) (e : r.ts = t :: l) : ∃ o c, w.cell? ⟨R, 0, none⟩ = some (.slice (some ⟨T, o, none⟩) (l.length + 1) c) ∧ w.cell? ⟨T, o, none⟩ = some (.int .u8 t.kind.toNat) ∧ w.cell? ⟨T, o + 1, none⟩ = some (.string (bstr t.text)) := by
  obtain ⟨v, dp, hh, ht⟩ := h.at_
  rw [e] at ht
  obtain ⟨o, c, rfl, h1, h2, h3, h4, h5⟩ := ht.cons
  exact ⟨o, c, cell_heap hh 0, h3, h4⟩
theorem u8_eq (a b : UInt8) : (((a.toNat : Int) == (b.toNat : Int)) = (a == b)) := by
  have := u8_ne a b
  simp only [bne] at this
  simpa using this
set_option maxHeartbeats 2000000 in
theorem factor_num (m : Nums) (w0 : World) (R T : Nat) (wd : Int) (hwd : wd = 32 ∨ wd = 64) (spec : RS → Option (Ex × RS))
    (w : World) (r : RS) (hr : Rd w0 w R T wd r) (hN : NumsAt m r.ts) (h0 : Sp.sign [45] r = none) (h1 : Sp.sign [40] r = none) (t : Tok) (l : List Tok) (he : r.ts = t :: l) (hk : t.kind = 100) :
    Calls Tryz.prog 79 #[.pointer (some ⟨R, 0, none⟩)] w (ExPost w0 R T wd w (Sp.factorStep m wd spec r)) := by
  have hr0 := hr.keep ((Below.refl w.heap.size w).alloc (Nat.le_refl _) (.cells #[.int .i64 0, .int .i64 0, .string ⟨#[]⟩, .slice none 0 0] 36))
  have H75 := Lib.hid (sign_no (sg := [45]) hr0 h0)
  have H75' := Lib.hid (sign_no (sg := [40]) hr0 h1)
  have hfac : Sp.factorStep m wd spec r = match Sp.numberR m wd r with | none => none | some (b, r') => some (.mk 1 b [] [], r') := by
    unfold Sp.factorStep; rw [h0, h1, he]; dsimp only; rw [if_pos hk]
    cases Sp.numberR m wd r <;> rfl
  obtain ⟨o, c, hc, hT0, hT1⟩ := hr.head he
  obtain ⟨o', c', hc', hT0', hT1'⟩ := hr0.head he
  have hwd0 := hr.width
  have hwd0' := hr0.width
  have hkk : ((t.kind.toNat : Int) == 100) = true := by rw [hk]; rfl
  have hpos : (0 : Int) < (l.length : Int) + 1 := by omega
  have hRw := hr.lt
  have hTw := hr.ltT
  have hBw := hr.below.size
  have hfac' := Lib.hid hfac
  have hgw : w.grownBy (w.alloc (.cells #[.int .i64 0, .int .i64 0, .string ⟨#[]⟩, .slice none 0 0] 36)) (some R) := gr_alloc _ _ _
  clear h1 h0 hfac he hk
  cases hs : Sp.numberR m wd r with
  | none =>
    have H76 := Lib.hid (numberR_no hr0 hwd hN hs)
    have hfin : Hid (Sp.factorStep m wd spec r = none) := Lib.hid (by rw [hfac'.out, hs])
    clear hs
    go_enter Tryz.func79, Tryz.ntmps79
    go_wp2_with fail
    refine H75.out.mono ?_
    rintro e w1' ⟨rfl, rfl⟩
    go_wp2_with fail
    refine H75'.out.mono ?_
    rintro e w1 ⟨rfl, rfl⟩
    go_wp2_with fail
    refine H76.out.mono ?_
    rintro e w2 ⟨rfl, hg2⟩
    go_wp2_with fail
    exact ⟨rfl, gr_trans hgw hg2, .inl ⟨hfin.out, rfl⟩⟩
  | some p =>
    obtain ⟨b, r2⟩ := p
    have H76 := Lib.hid (numberR_ok hr0 hwd hN hs)
    have hfin : Hid (Sp.factorStep m wd spec r = some (.mk 1 b [] [], r2)) := Lib.hid (by rw [hfac'.out, hs])
    clear hs
    go_enter Tryz.func79, Tryz.ntmps79
    go_wp2_with fail
    refine H75.out.mono ?_
    rintro e w1' ⟨rfl, rfl⟩
    go_wp2_with fail
    refine H75'.out.mono ?_
    rintro e w1 ⟨rfl, rfl⟩
    go_wp2_with fail
    refine H76.out.mono ?_
    rintro e w2 ⟨rfl, hg2, hr2⟩
    have h12 := hg2.size
    have hY := zero_keep hRw hg2
    have hst := Lib.hid (ret_step hY (Nat.le_refl _) hRw hTw hBw (gr_trans hgw hg2) (w.heap.size + 1) (by omega) (by omega) (ExAt.leaf w2 _ 1 b) hr2)
    obtain ⟨d0, d1, d2, d3⟩ := cells4 hY
    have df : ∀ i, w2.frozen? ⟨w.heap.size, i, none⟩ = false := fun i => free_heap hY i
    clear hY
    go_wp2_with fail
    exact bodyPost_ret (results36 (p := 2) rfl _ _ w.heap.size 1 b ⟨#[]⟩ _ rfl hst.out.2.1) rfl ⟨hst.out.1, .inr ⟨_, r2, _, _, _, _, _, _, hfin.out, rfl, hst.out.2.2.1, hst.out.2.2.2⟩⟩
set_option maxHeartbeats 2000000 in
theorem factor_name (m : Nums) (w0 : World) (R T : Nat) (wd : Int) (spec : RS → Option (Ex × RS))
    (w : World) (r : RS) (hr : Rd w0 w R T wd r) (h0 : Sp.sign [45] r = none) (h1 : Sp.sign [40] r = none) (t : Tok) (l : List Tok) (he : r.ts = t :: l) (hk : t.kind ≠ 100) (hkn : Sp.known t.text = none) :
    Calls Tryz.prog 79 #[.pointer (some ⟨R, 0, none⟩)] w (ExPost w0 R T wd w (Sp.factorStep m wd spec r)) := by
  have hr0 := hr.keep ((Below.refl w.heap.size w).alloc (Nat.le_refl _) (.cells #[.int .i64 0, .int .i64 0, .string ⟨#[]⟩, .slice none 0 0] 36))
  have H75 := Lib.hid (sign_no (sg := [45]) hr0 h0)
  have H75' := Lib.hid (sign_no (sg := [40]) hr0 h1)
  have hfac : Sp.factorStep m wd spec r = match Sp.name r with | none => none | some (s, r') => some (.mk 2 0 s [], r') := by
    unfold Sp.factorStep; rw [h0, h1, he]; dsimp only; rw [if_neg hk, hkn]; dsimp only
    cases Sp.name r <;> rfl
  obtain ⟨o, c, hc, hT0, hT1⟩ := hr.head he
  obtain ⟨o', c', hc', hT0', hT1'⟩ := hr0.head he
  have hkk : ((t.kind.toNat : Int) == 100) = false := (u8_eq t.kind 100).trans (beq_eq_false_iff_ne.2 hk)
  have hpos : (0 : Int) < (l.length : Int) + 1 := by omega
  have hRw := hr.lt
  have hTw := hr.ltT
  have hBw := hr.below.size
  have hfac' := Lib.hid hfac
  have hgw : w.grownBy (w.alloc (.cells #[.int .i64 0, .int .i64 0, .string ⟨#[]⟩, .slice none 0 0] 36)) (some R) := gr_alloc _ _ _
  have hK : fnV (Sp.known (bstr t.text).data.toList) = .tuple #[.agg #[.int .i64 0, .bool false, .bool false], .bool false] := by
    have : (bstr t.text).data.toList = t.text := by simp [bstr]
    rw [this, hkn]; rfl
  have H50 : Hid (∀ W, Calls Tryz.prog 50 #[.string (bstr t.text)] W fun e w' => e = .returned (.tuple #[.agg #[.int .i64 0, .bool false, .bool false], .bool false]) ∧ Below W.heap.size W w') := Lib.hid (fun W => by
    rw [← hK]; exact known_any _ W)
  clear h1 h0 hfac he hk hK hkn
  go_enter Tryz.func79, Tryz.ntmps79
  go_wp2_with fail
  refine H75.out.mono ?_
  rintro e w1' ⟨rfl, rfl⟩
  go_wp2_with fail
  refine H75'.out.mono ?_
  rintro e w1 ⟨rfl, rfl⟩
  go_wp2_with fail
  refine (H50.out _).mono ?_
  rintro e w2 ⟨rfl, hb2⟩
  have hr2 := (hr0.keep hb2).keep ((Below.refl _ _).alloc (Nat.le_refl _) (.cells #[.int .i64 0, .bool false, .bool false] 91))
  have hgw2 := gr_app (gr_trans hgw (gr_below hb2 (some R))) (.cells #[.int .i64 0, .bool false, .bool false] 91)
  have hg2 : (w.alloc (.cells #[.int .i64 0, .int .i64 0, .string ⟨#[]⟩, .slice none 0 0] 36)).grownBy (w2.alloc (.cells #[.int .i64 0, .bool false, .bool false] 91)) (some R) := gr_app (gr_below hb2 (some R)) _
  cases hs : Sp.name r with
  | none =>
    have H18 := Lib.hid (name_no hr2 hs)
    have hfin : Hid (Sp.factorStep m wd spec r = none) := Lib.hid (by rw [hfac'.out, hs])
    clear hs
    go_wp2_with fail
    refine H18.out.mono ?_
    rintro e w3 ⟨rfl, hg3⟩
    go_wp2_with fail
    exact ⟨rfl, gr_trans hgw2 hg3, .inl ⟨hfin.out, rfl⟩⟩
  | some p =>
    obtain ⟨s, r3⟩ := p
    have H18 := Lib.hid (name_ok hr2 hs)
    have hfin : Hid (Sp.factorStep m wd spec r = some (.mk 2 0 s [], r3)) := Lib.hid (by rw [hfac'.out, hs])
    clear hs
    go_wp2_with fail
    refine H18.out.mono ?_
    rintro e w3 ⟨rfl, hg3, hr3⟩
    have hY := zero_keep hRw (gr_trans hg2 hg3)
    have hst := Lib.hid (ret_step hY (Nat.le_refl _) hRw hTw hBw (gr_trans hgw2 hg3) (w.heap.size + 1) (by omega) (by omega) (ExAt.named w3 _ 2 0 s) hr3)
    obtain ⟨d0, d1, d2, d3⟩ := cells4 hY
    have df : ∀ i, w3.frozen? ⟨w.heap.size, i, none⟩ = false := fun i => free_heap hY i
    clear hY
    go_wp2_with fail
    exact bodyPost_ret (results36 (p := 2) rfl _ _ w.heap.size 2 0 (bstr s) _ rfl hst.out.2.1) rfl ⟨hst.out.1, .inr ⟨_, r3, _, _, _, _, _, _, hfin.out, rfl, hst.out.2.2.1, hst.out.2.2.2⟩⟩
set_option maxHeartbeats 2000000 in
theorem factor_empty (m : Nums) (w0 : World) (R T : Nat) (wd : Int) (spec : RS → Option (Ex × RS))
    (w : World) (r : RS) (hr : Rd w0 w R T wd r) (he : r.ts = []) :
    Calls Tryz.prog 79 #[.pointer (some ⟨R, 0, none⟩)] w (ExPost w0 R T wd w (Sp.factorStep m wd spec r)) := by
  have hr0 := hr.keep ((Below.refl w.heap.size w).alloc (Nat.le_refl _) (.cells #[.int .i64 0, .int .i64 0, .string ⟨#[]⟩, .slice none 0 0] 36))
  have h0 : Sp.sign [45] r = none := by unfold Sp.sign; rw [he]
  have h1 : Sp.sign [40] r = none := by unfold Sp.sign; rw [he]
  have hs : Sp.name r = none := by unfold Sp.name Sp.next; rw [he]
  have H75 := Lib.hid (sign_no (sg := [45]) hr0 h0)
  have H75' := Lib.hid (sign_no (sg := [40]) hr0 h1)
  have H18 := Lib.hid (name_no hr0 hs)
  have hfin : Hid (Sp.factorStep m wd spec r = none) := Lib.hid (by
    unfold Sp.factorStep; rw [h0, h1, he])
  have hhead : ∃ A c, w.cell? ⟨R, 0, none⟩ = some (.slice A 0 c) := by
    obtain ⟨v, dp, hh, ht⟩ := hr.at_
    rw [he] at ht
    obtain ⟨A, c, rfl, _⟩ := ht.nil
    exact ⟨A, c, cell_heap hh 0⟩
  obtain ⟨A, c, hc⟩ := hhead
  have hc' := cell_old ((Below.refl w.heap.size w).alloc (Nat.le_refl _) (.cells #[.int .i64 0, .int .i64 0, .string ⟨#[]⟩, .slice none 0 0] 36)) hc
  have hRw := hr.lt
  have hgw : w.grownBy (w.alloc (.cells #[.int .i64 0, .int .i64 0, .string ⟨#[]⟩, .slice none 0 0] 36)) (some R) := gr_alloc _ _ _
  clear h1 h0 he hs
  go_enter Tryz.func79, Tryz.ntmps79
  go_wp2_with fail
  refine H75.out.mono ?_
  rintro e w1' ⟨rfl, rfl⟩
  go_wp2_with fail
  refine H75'.out.mono ?_
  rintro e w1 ⟨rfl, rfl⟩
  go_wp2_with fail
  refine H18.out.mono ?_
  rintro e w2 ⟨rfl, hg2⟩
  go_wp2_with fail
  exact ⟨rfl, gr_trans hgw hg2, .inl ⟨hfin.out, rfl⟩⟩
end Go.Proofs.YtdkhedefcmjjgaaGreatDoor
