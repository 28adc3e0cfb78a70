/- chain, walked: parts with operators between them, over any part that keeps its contract.
Conditions: the part's contract ('PartC'). -/
import Derived.Test.YtdkhedefcmjjgaaGreatDoorMIsName
namespace Go.Proofs.YtdkhedefcmjjgaaGreatDoor
open Go.RowKit Sp
set_option linter.unusedVariables false
/-- How a function that tells an expression ends. -/
def ExPost (w0 : World) (R T : Nat) (wd : Int) (w : World) (o : Option (Ex × RS)) (e : Ending) (w' : World) : Prop :=
  w.grownBy w' (some R) ∧ ((o = none ∧ e = .panicked (giv 70)) ∨ ∃ x r' k b s A n c, o = some (x, r') ∧ e = .returned (.agg #[.int .i64 k, .int .i64 b, .string s, .slice A n c]) ∧ ExAt w' (Since w.heap.size) x [.int .i64 k, .int .i64 b, .string s, .slice A n c] ∧ Rd w0 w' R T wd r')
/-- Function f tells what spec tells, where at most n words are left. -/
def PartC (m : Nums) (w0 : World) (R T : Nat) (wd : Int) (f n : Nat) (spec : RS → Option (Ex × RS)) : Prop :=
  ∀ (W : World) (r : RS), r.ts.length ≤ n → Rd w0 W R T wd r → NumsAt m r.ts → Calls Tryz.prog f #[.pointer (some ⟨R, 0, none⟩)] W (ExPost w0 R T wd W (spec r))
/-- What spec leaves is an end of what there was. -/
def Ends (spec : RS → Option (Ex × RS)) : Prop := ∀ r x r', spec r = some (x, r') → r'.ts <:+ r.ts
theorem NumsAt.suffix {m : Nums} {l k : List Tok} (h : NumsAt m k) (hs : l <:+ k) : NumsAt m l := fun t ht => h t (hs.subset ht)
theorem sign_suffix {sg s : Bs} {r r' : RS} (h : Sp.sign sg r = some (s, r')) : r'.ts <:+ r.ts := by
  obtain ⟨t, e, _⟩ := sign_mem h
  rw [e]; exact List.suffix_cons _ _
theorem next_suffix {k : UInt8} {s : Bs} {r r' : RS} (h : Sp.next k r = some (s, r')) : r'.ts <:+ r.ts := by
  obtain ⟨t, e, _⟩ := next_mem h
  rw [e]; exact List.suffix_cons _ _
theorem chainGo_ends {signs : Bs} {spec : RS → Option (Ex × RS)} (hE : Ends spec) : ∀ (k : Nat) (x : Ex) (r : RS) (y : Ex) (r' : RS), chainGo signs spec k x r = some (y, r') → r'.ts <:+ r.ts
  | 0, _, _, _, _, h => by simp [chainGo] at h
  | k + 1, x, r, y, r', h => by
    rw [chainGo] at h
    split at h
    · simp only [Option.some.injEq, Prod.mk.injEq] at h
      obtain ⟨rfl, rfl⟩ := h
      exact List.suffix_refl _
    · rename_i s r1 h1
      split at h
      · cases h
      · rename_i z r2 h2
        exact (chainGo_ends hE k _ _ _ _ h).trans ((hE _ _ _ h2).trans (sign_suffix h1))
theorem chain_ends {signs : Bs} {spec : RS → Option (Ex × RS)} (hE : Ends spec) : Ends (chain signs spec) := by
  intro r x r' h
  rw [chain] at h
  split at h
  · cases h
  · rename_i y r1 h1
    exact (chainGo_ends hE _ _ _ _ _ h).trans (hE _ _ _ h1)
theorem cell_alloc_old {w w' : World} {o : Obj} (hb : Below (w.alloc o).heap.size (w.alloc o) w') {a : Addr} {v : Value} (h : w.cell? a = some v) : w'.cell? a = some v :=
  cell_old hb (cell_old ((Below.refl _ _).alloc (Nat.le_refl _) o) h)
theorem heap_alloc_keep {w w' : World} {o : Obj} (hb : Below (w.alloc o).heap.size (w.alloc o) w') {g : Nat} {x : Obj} (h : w.heap[g]? = some x) : w'.heap[g]? = some x :=
  (hb.block g (by have := heap_lt h; simp; omega)).trans ((Below.heap_alloc _ _ _ (heap_lt h)).trans h)
/-- How many words a reader has left. -/
def lenAt (w : World) (R : Nat) : Nat := match w.heap[R]? with | some (.cells c _ _) => (match (c[0]? : Option Value) with | some (Value.slice _ n _) => n | _ => 0) | _ => 0
theorem Rd.len {w0 w : World} {R T : Nat} {wd : Int} {r : RS} (h : Rd w0 w R T wd r) : lenAt w R = r.ts.length := by
  obtain ⟨v, dp, h1, A, c, rfl, _⟩ := h.at_
  simp [lenAt, h1]
structure ChainInv (m : Nums) (w0 : World) (R T : Nat) (wd : Int) (spec : RS → Option (Ex × RS)) (signs : Bs) (w : World) (r : RS) (X : Nat) (j : Nat) (x : Ex) (r' : RS) (k b : Int) (s : ByteArray) (A : Option Addr) (n c : Nat) (wr : World) : Prop where
  hX : wr.heap[X]? = some (.cells (four k b s (.slice A n c)) 36 (0, 0))
  hY : wr.heap[w.heap.size]? = some (.cells (four 0 0 ⟨#[]⟩ (.slice none 0 0)) 36 (0, 0))
  ex : ExAt wr (fun g => w.heap.size ≤ g ∧ g ≠ X ∧ g ≠ w.heap.size) x [.int .i64 k, .int .i64 b, .string s, .slice A n c]
  rd : Rd w0 wr R T wd r'
  gr : w.grownBy wr (some R)
  suf : r'.ts <:+ r.ts
  go : chainGo signs spec j x r' = chain signs spec r
  fuel : r'.ts.length < j
theorem chain_step {m : Nums} {w0 : World} {R T : Nat} {wd : Int} {spec : RS → Option (Ex × RS)} {signs : Bs} {w : World} {r r' r3 : RS} {X j n2 c ny cy : Nat} {x y : Ex} {k b ky by_ : Int} {s sy : ByteArray} {A Ay : Option Addr} {s1 : Bs} {wr w2 w3 w4 : World}
    (hi : ChainInv m w0 R T wd spec signs w r X (j + 1) x r' k b s A n2 c wr) (hRw : R < w.heap.size) (hTw : T < w.heap.size) (hBw : w0.heap.size ≤ w.heap.size) (hXw : w.heap.size < X)
    (hg2 : wr.grownBy w2 (some R)) (hg3 : w2.drew.grownBy w3 (some R))
    (hy : ExAt w3 (Since w2.drew.heap.size) y [.int .i64 ky, .int .i64 by_, .string sy, .slice Ay ny cy]) (hr3 : Rd w0 w3 R T wd r3)
    (hb4 : Below (w3.alloc (.cells #[.int .i64 k, .int .i64 b, .string s, .slice A n2 c, .int .i64 ky, .int .i64 by_, .string sy, .slice Ay ny cy] 36)).heap.size (w3.alloc (.cells #[.int .i64 k, .int .i64 b, .string s, .slice A n2 c, .int .i64 ky, .int .i64 by_, .string sy, .slice Ay ny cy] 36)) w4)
    (hsuf : r3.ts <:+ r'.ts) (hgo : chainGo signs spec j (Sp.call s1 [x, y]) r3 = chain signs spec r) (hl : r3.ts.length < j) :
    ChainInv m w0 R T wd spec signs w r X j (Sp.call s1 [x, y]) r3 3 0 (bstr s1) (some ⟨w3.heap.size, 0, none⟩) 2 2
      ((((w4.setCell ⟨X, 0, none⟩ (.int .i64 3)).setCell ⟨X, 1, none⟩ (.int .i64 0)).setCell ⟨X, 2, none⟩ (.string (bstr s1))).setCell ⟨X, 3, none⟩ (.slice (some ⟨w3.heap.size, 0, none⟩) 2 2)) := by
  have hXl := heap_lt hi.hX
  have hYl := heap_lt hi.hY
  have h23 : w2.heap.size ≤ w3.heap.size := hg3.size
  have h12 := hg2.size
  have h34 : w3.heap.size + 1 ≤ w4.heap.size := by have := hb4.size; simpa using this
  -- a block of w3, but X
  have k4 : ∀ g, g < w3.heap.size + 1 → w4.heap[g]? = (w3.alloc (.cells #[.int .i64 k, .int .i64 b, .string s, .slice A n2 c, .int .i64 ky, .int .i64 by_, .string sy, .slice Ay ny cy] 36)).heap[g]? := fun g hg => hb4.block g (by simpa using hg)
  have k34 : ∀ g, g < w3.heap.size → w4.heap[g]? = w3.heap[g]? := fun g hg => (k4 g (by omega)).trans (Below.heap_alloc _ _ _ hg)
  have k3 : ∀ g, g < wr.heap.size → g ≠ R → w3.heap[g]? = wr.heap[g]? := fun g hg hne =>
    (hg3.block g (by show g < w2.heap.size; omega) (by simpa using hne)).trans (hg2.block g hg (by simpa using hne))
  have m4 : w4.heap[X]? = some (.cells (four k b s (.slice A n2 c)) 36 (0, 0)) := (k34 X (by omega)).trans ((k3 X hXl (by omega)).trans hi.hX)
  have setk : ∀ g, g ≠ X → ((((w4.setCell ⟨X, 0, none⟩ (.int .i64 3)).setCell ⟨X, 1, none⟩ (.int .i64 0)).setCell ⟨X, 2, none⟩ (.string (bstr s1))).setCell ⟨X, 3, none⟩ (.slice (some ⟨w3.heap.size, 0, none⟩) 2 2)).heap[g]? = w4.heap[g]? := fun g hg => by
    rw [Below.heap_setCell _ _ _ _ hg, Below.heap_setCell _ _ _ _ hg, Below.heap_setCell _ _ _ _ hg, Below.heap_setCell _ _ _ _ hg]
  have hsz : w4.heap.size = ((((w4.setCell ⟨X, 0, none⟩ (.int .i64 3)).setCell ⟨X, 1, none⟩ (.int .i64 0)).setCell ⟨X, 2, none⟩ (.string (bstr s1))).setCell ⟨X, 3, none⟩ (.slice (some ⟨w3.heap.size, 0, none⟩) 2 2)).heap.size := by simp only [World.size_setCell]
  refine ⟨set4 m4, ?_, ?_, ?_, ?_, hsuf.trans hi.suf, hgo, hl⟩
  · rw [setk _ (by omega), k34 _ (by omega), k3 _ hYl (by omega)]
    exact hi.hY
  · refine .mk 3 0 s1 [x, y] (some ⟨w3.heap.size, 0, none⟩) 2 (fun j => (#[.int .i64 k, .int .i64 b, .string s, .slice A n2 c, .int .i64 ky, .int .i64 by_, .string sy, .slice Ay ny cy] : Array Value).getD j undef) (by simp) (by omega) (fun _ => ⟨w3.heap.size, 0, rfl, ⟨by omega, by omega, by omega⟩, by omega, fun j hj => ?_⟩) (fun i z hz => ?_)
    · have hb : ((((w4.setCell ⟨X, 0, none⟩ (.int .i64 3)).setCell ⟨X, 1, none⟩ (.int .i64 0)).setCell ⟨X, 2, none⟩ (.string (bstr s1))).setCell ⟨X, 3, none⟩ (.slice (some ⟨w3.heap.size, 0, none⟩) 2 2)).heap[w3.heap.size]? = some (.cells #[.int .i64 k, .int .i64 b, .string s, .slice A n2 c, .int .i64 ky, .int .i64 by_, .string sy, .slice Ay ny cy] 36 (0, 0)) := by
        rw [setk _ (by omega), k4 _ (by omega)]
        exact heap_alloc_new _ _
      rw [cell_heap hb, Nat.zero_add]
      have hj8 : j < 8 := by simpa using hj
      rw [Array.getElem?_eq_getElem (by simpa using hj8), Array.getD_eq_getD_getElem?, Array.getElem?_eq_getElem (by simpa using hj8)]
      rfl
    · rcases i with _ | _ | i
      · obtain rfl : x = z := by simpa using hz
        refine hi.ex.keep (by omega) (fun g hg hlt => ?_)
        rw [setk _ hg.2.1, k34 _ (by omega), k3 _ hlt (by omega)]
      · obtain rfl : y = z := by simpa using hz
        refine (hy.mono (fun g hg _ => ?_)).keep (by omega) (fun g hg hlt => ?_)
        · have : w2.heap.size ≤ g := hg
          exact ⟨by omega, by omega, by omega⟩
        · rw [setk _ hg.2.1, k34 _ hlt]
      · simp at hz
  · have h4 : Rd w0 w4 R T wd r3 := (hr3.keep ((Below.refl _ _).alloc (Nat.le_refl _) _)).keep hb4
    exact (((h4.other (by omega) (by omega) (by omega) _ _).other (by omega) (by omega) (by omega) _ _).other (by omega) (by omega) (by omega) _ _).other (by omega) (by omega) (by omega) _ _
  · have h4 : w.grownBy w4 (some R) := gr_trans (gr_trans hi.gr (gr_drew hg2)) (gr_trans (gr_app hg3 _) (gr_below hb4 _))
    exact gr_new (gr_new (gr_new (gr_new h4 (by show w.heap.size ≤ X; omega) _) (by show w.heap.size ≤ X; omega) _) (by show w.heap.size ≤ X; omega) _) (by show w.heap.size ≤ X; omega) _
set_option maxRecDepth 100000 in
set_option maxHeartbeats 4000000 in
theorem chain_any (m : Nums) (w0 : World) (R T : Nat) (wd : Int) (f n : Nat) (spec : RS → Option (Ex × RS)) (hE : Ends spec) (hP : PartC m w0 R T wd f n spec) (signs : Bs)
    (w : World) (r : RS) (hn : r.ts.length ≤ n) (hr : Rd w0 w R T wd r) (hN : NumsAt m r.ts)
    (hf : ∀ args W, (callFunc f args).run Tryz.prog W = .ok (.enter f args) W) :
    Calls Tryz.prog 57 #[.pointer (some ⟨R, 0, none⟩), .string (bstr signs), .func (.func f) #[.pointer (some ⟨R, 0, none⟩)] #[]] w (ExPost w0 R T wd w (chain signs spec r)) := by
  have HP := Lib.hid hP
  clear hP
  have hr0 := hr.keep ((Below.refl w.heap.size w).alloc (Nat.le_refl _) (.cells #[.int .i64 0, .int .i64 0, .string ⟨#[]⟩, .slice none 0 0] 36))
  go_enter Tryz.func57, Tryz.ntmps57
  go_wp2_with fail
  refine (HP.out _ r hn hr0 hN).mono ?_
  rintro e w1 ⟨hg, ⟨hsp, rfl⟩ | ⟨x, r1, k, b, s, A, n1, c, hsp, rfl, hx, hr1⟩⟩
  · have hsp' := Lib.hid hsp
    clear hsp
    go_wp2_with fail
    refine ⟨rfl, ?_, .inl ⟨by rw [chain, hsp'.out], rfl⟩⟩
    exact gr_trans (gr_alloc _ _ _) hg
  · have hXY : w.heap.size < w1.heap.size := by have := hg.size; simp at this; omega
    have hRw := hr.lt
    have hinv : ChainInv m w0 R T wd spec signs w r w1.heap.size (r1.ts.length + 1) x r1 k b s A n1 c (w1.alloc (.cells (four k b s (.slice A n1 c)) 36)) := by
      refine ⟨heap_alloc_new _ _, ?_, ?_, hr1.keep ((Below.refl _ _).alloc (Nat.le_refl _) _), gr_app (gr_trans (gr_alloc _ _ _) hg) _, hE _ _ _ hsp, by rw [chain, hsp], by omega⟩
      · rw [Below.heap_alloc _ _ _ hXY, hg.block _ (by simp) (by intro e; injection e with e; omega)]
        exact heap_alloc_new _ _
      · refine ExAt.old (hx.mono fun g hg1 hlt => ?_) ((Below.refl _ _).alloc (Nat.le_refl _) _)
        have h1 : w.heap.size + 1 ≤ g := by simpa using hg1
        omega
    have hinv' := Lib.hid hinv
    clear hsp hinv hx hg hr1
    go_wp2_with fail
    go_loopw [] (fun wr => ∃ j x r' k b s A n c, Hid (ChainInv m w0 R T wd spec signs w r w1.heap.size j x r' k b s A n c wr)) (fun wr => lenAt wr R)
    case atStart => exact ⟨_, _, _, _, _, _, _, _, _, hinv'⟩
    case round =>
      obtain ⟨j, x, r', k, b, s, A, n2, c, hi⟩ := hrel
      have hX := hi.out.hX
      have hXl := heap_lt hX
      have hYl := heap_lt hi.out.hY
      have c0 : wr.cell? ⟨w1.heap.size, 0, none⟩ = some (.int .i64 k) := cell_heap hX 0
      have c1 : wr.cell? ⟨w1.heap.size, 1, none⟩ = some (.int .i64 b) := cell_heap hX 1
      have c2 : wr.cell? ⟨w1.heap.size, 2, none⟩ = some (.string s) := cell_heap hX 2
      have c3 : wr.cell? ⟨w1.heap.size, 3, none⟩ = some (.slice A n2 c) := cell_heap hX 3
      clear hX
      cases hsg : Sp.sign signs r' with
      | none =>
        have H75 := Lib.hid (sign_no hi.out.rd hsg)
        have hgo := hi.out.go
        have hfu := hi.out.fuel
        obtain ⟨j, rfl⟩ : ∃ j', j = j' + 1 := ⟨j - 1, by omega⟩
        rw [chainGo, hsg] at hgo
        have hgo' := Lib.hid hgo
        have hY := hi.out.hY
        have d0 : wr.cell? ⟨w.heap.size, 0, none⟩ = some (.int .i64 0) := cell_heap hY 0
        have d1 : wr.cell? ⟨w.heap.size, 1, none⟩ = some (.int .i64 0) := cell_heap hY 1
        have d2 : wr.cell? ⟨w.heap.size, 2, none⟩ = some (.string ⟨#[]⟩) := cell_heap hY 2
        have d3 : wr.cell? ⟨w.heap.size, 3, none⟩ = some (.slice none 0 0) := cell_heap hY 3
        have df : ∀ i, wr.frozen? ⟨w.heap.size, i, none⟩ = false := fun i => free_heap hY i
        clear hY hgo hsg hfu
        go_wp2_with fail
        refine H75.out.mono ?_
        rintro e w2 ⟨rfl, rfl⟩
        go_wp2_with fail
        refine bodyPost_ret (results36 (p := 6) rfl _ _ w.heap.size k b s (.slice A n2 c) rfl (set4 hi.out.hY)) rfl ⟨?_, .inr ⟨x, r', k, b, s, A, n2, c, hgo'.out.symm, rfl, ?_, ?_⟩⟩
        · exact gr_new (gr_new (gr_new (gr_new hi.out.gr (Nat.le_refl _) _) (Nat.le_refl _) _) (Nat.le_refl _) _) (Nat.le_refl _) _
        · refine ExAt.mono ((((hi.out.ex.other ?_ _ _).other ?_ _ _).other ?_ _ _).other ?_ _ _) (fun g hg _ => hg.1) <;> exact fun h => h.2.2 rfl
        · have hTw := hr.ltT
          have hB := hr.below.size
          exact (((hi.out.rd.other (by omega) (by omega) hB _ _).other (by omega) (by omega) hB _ _).other (by omega) (by omega) hB _ _).other (by omega) (by omega) hB _ _
      | some p =>
        obtain ⟨s1, r2⟩ := p
        have H75 := Lib.hid (sign_ok hi.out.rd hsg)
        have hgo := hi.out.go
        have hfu := hi.out.fuel
        have hl2 := sign_len hsg
        obtain ⟨j, rfl⟩ : ∃ j', j = j' + 1 := ⟨j - 1, by omega⟩
        rw [chainGo, hsg] at hgo
        dsimp only at hgo
        have hsuf := sign_suffix hsg
        have hln : r2.ts.length ≤ n := by have := (hsuf.trans hi.out.suf).length_le; omega
        have hN2 : NumsAt m r2.ts := hN.suffix (hsuf.trans hi.out.suf)
        have HPw := fun W (hR : Rd w0 W R T wd r2) => HP.out W r2 hln hR hN2
        have HPw' := Lib.hid HPw
        clear hsg HPw
        cases hsp : spec r2 with
        | none =>
          rw [hsp] at hgo HPw'
          have hgo' := Lib.hid hgo
          have HPn : Hid (∀ W, Rd w0 W R T wd r2 → Calls Tryz.prog f #[.pointer (some ⟨R, 0, none⟩)] W fun e w' => e = .panicked (giv 70) ∧ W.grownBy w' (some R)) := fun W hW => by
            refine (HPw'.out W hW).mono ?_
            rintro e w' ⟨hg, ⟨_, rfl⟩ | ⟨_, _, _, _, _, _, _, _, h, _⟩⟩
            · exact ⟨rfl, hg⟩
            · cases h
          clear hgo hsp HPw'
          go_wp2_with fail
          refine H75.out.mono ?_
          rintro e w2 ⟨rfl, hg2, hr2⟩
          have hXR : w1.heap.size ≠ R := by omega
          have e0 := hg2.cell c0 (by simpa using hXR)
          have e1 := hg2.cell c1 (by simpa using hXR)
          have e2 := hg2.cell c2 (by simpa using hXR)
          have e3 := hg2.cell c3 (by simpa using hXR)
          have hr2' := hr2.drew
          go_wp2_with fail
          have hfin := hgo'.out.symm
          have hgr := gr_trans hi.out.gr (gr_drew hg2)
          have hfin' := Lib.hid hfin
          clear hfin
          refine wp_region_any (by kernel_rfl) ?_
          change wpAny _ _ _ _ _ _ _ (World.drew _)
          refine wpAny_take (i := 0) (v := .string (bstr s1)) rfl (by kernel_rfl) (by kernel_rfl) (by kernel_rfl) (fun _ _ _ h => h) (Or.inl ⟨by rfl, fun w => by go_simp⟩) ?_
          refine wpAny_take (i := 2) (v := .func (Fn.func f) #[.pointer (some ⟨R, 0, none⟩)] #[]) rfl (by kernel_rfl) (by kernel_rfl) (by kernel_rfl) (fun _ _ _ h => h) (Or.inl ⟨by rfl, fun w => by go_simp⟩) ?_
          refine wpAny_ready (rs := [1, 3]) (by kernel_rfl) (by simp) ?_
          refine AllReady.cons rfl (fun K hK => ?_) (AllReady.cons rfl (fun K hK => ?_) AllReady.nil)
          · go_simp
            refine hK _ _ ?_
            clear hK K
            refine wpAny_ready (rs := [3]) (by kernel_rfl) (by simp) ?_
            refine AllReady.cons rfl (fun K hK => ?_) AllReady.nil
            go_simp
            refine (HPn.out _ hr2').mono ?_
            rintro e w3 ⟨rfl, hg3⟩
            exact ⟨rfl, gr_trans hgr hg3, .inl ⟨hfin'.out, rfl⟩⟩
          · go_simp
            refine (HPn.out _ hr2').mono ?_
            rintro e w3 ⟨rfl, hg3⟩
            exact ⟨rfl, gr_trans hgr hg3, .inl ⟨hfin'.out, rfl⟩⟩
        | some p =>
          obtain ⟨y, r3⟩ := p
          rw [hsp] at hgo HPw'
          dsimp only at hgo
          have hgo' := Lib.hid hgo
          have HPs : Hid (∀ W, Rd w0 W R T wd r2 → Calls Tryz.prog f #[.pointer (some ⟨R, 0, none⟩)] W fun e w' => ∃ k b s A n c, e = .returned (.agg #[.int .i64 k, .int .i64 b, .string s, .slice A n c]) ∧ W.grownBy w' (some R) ∧ ExAt w' (Since W.heap.size) y [.int .i64 k, .int .i64 b, .string s, .slice A n c] ∧ Rd w0 w' R T wd r3) := fun W hW => by
            refine (HPw'.out W hW).mono ?_
            rintro e w' ⟨hg, ⟨h, _⟩ | ⟨x, r', k, b, s, A, n, c, h, rfl, h1, h2⟩⟩
            · cases h
            · simp only [Option.some.injEq, Prod.mk.injEq] at h
              obtain ⟨rfl, rfl⟩ := h
              exact ⟨k, b, s, A, n, c, rfl, hg, h1, h2⟩
          have hl3 := (hE _ _ _ hsp).length_le
          have hsuf3 := (hE _ _ _ hsp).trans hsuf
          clear hgo hsp HPw'
          go_wp2_with fail
          refine H75.out.mono ?_
          rintro e w2 ⟨rfl, hg2, hr2⟩
          have hXR : w1.heap.size ≠ R := by omega
          have e0 := hg2.cell c0 (by simpa using hXR)
          have e1 := hg2.cell c1 (by simpa using hXR)
          have e2 := hg2.cell c2 (by simpa using hXR)
          have e3 := hg2.cell c3 (by simpa using hXR)
          have hr2' := hr2.drew
          have hXl2 : w1.heap.size < w2.heap.size := Nat.lt_of_lt_of_le hXl hg2.size
          have hXR' : (some w1.heap.size : Option Nat) ≠ some R := by simpa using hXR
          have m2 : Hid (w2.heap[w1.heap.size]? = some (.cells (four k b s (.slice A n2 c)) 36 (0, 0))) := (hg2.block _ hXl hXR').trans hi.out.hX
          go_wp2_with fail
          go_region_with (first | (refine (HPs.out _ hr2').mono ?_; rintro e w3 ⟨ky, by_, sy, Ay, ny, cy, rfl, hg3, hy, hr3⟩; have i0 := hg3.cell (w := w2.drew) e0 hXR'; have i1 := hg3.cell (w := w2.drew) e1 hXR'; have i2 := hg3.cell (w := w2.drew) e2 hXR'; have i3 := hg3.cell (w := w2.drew) e3 hXR'; have m3 := Lib.hid ((hg3.block _ hXl2 hXR').trans m2.out)) | (go_at_call 78; refine (call_any _ _ _ _ _).mono ?_; rintro e w4 ⟨rfl, hb4⟩; have k0 := cell_alloc_old hb4 i0; have k1 := cell_alloc_old hb4 i1; have k2 := cell_alloc_old hb4 i2; have k3 := cell_alloc_old hb4 i3; have m4 := Lib.hid (heap_alloc_keep hb4 m3.out); have f4 := fun i => free_heap m4.out i))
          all_goals
            have hTw := hr.ltT
            have hBw := hr.below.size
            have hstep := Lib.hid (chain_step hi.out hRw hTw hBw hXY hg2 hg3 hy hr3 hb4 hsuf3 hgo'.out (by omega))
            have hlen0 := hi.out.rd.len
            have hlen1 := hstep.out.rd.len
            go_roundw
            case rel => (repeat apply Exists.intro); exact ⟨⟨_, _, _, _, _, _, _, _, _, hstep⟩, rfl⟩
            case measure => rw [hlen0, hlen1]; omega
end Go.Proofs.YtdkhedefcmjjgaaGreatDoor
/- term and expr, walked over any factor that keeps its contract.
Conditions: the factor's contract. -/
namespace Go.Proofs.YtdkhedefcmjjgaaGreatDoor
open Go.RowKit Sp
set_option linter.unusedVariables false
theorem enter79 (args : Array Value) (W : World) : (callFunc 79 args).run Tryz.prog W = .ok (.enter 79 args) W := by kernel_rfl
theorem enter58 (args : Array Value) (W : World) : (callFunc 58 args).run Tryz.prog W = .ok (.enter 58 args) W := by kernel_rfl
theorem term_ends {spec : RS → Option (Ex × RS)} (hE : Ends spec) : Ends (chain [42, 47, 64] spec) := chain_ends hE
/-- What comes out of a callee, laid into the caller's result. -/
theorem ret_step {w0 w w1 : World} {R T : Nat} {wd : Int} {r' : RS} {x : Ex} {k b : Int} {s : ByteArray} {A : Option Addr} {n c : Nat} {Y : Nat} (hY : w1.heap[Y]? = some (.cells (four 0 0 ⟨#[]⟩ (.slice none 0 0)) 36 (0, 0))) (hYw : w.heap.size ≤ Y)
    (hR : R < w.heap.size) (hT : T < w.heap.size) (hB : w0.heap.size ≤ w.heap.size) (hg : w.grownBy w1 (some R)) (B : Nat) (hBY : Y < B) (hBw : w.heap.size ≤ B)
    (hx : ExAt w1 (Since B) x [.int .i64 k, .int .i64 b, .string s, .slice A n c]) (hr : Rd w0 w1 R T wd r') :
    w.grownBy ((((w1.setCell ⟨Y, 0, none⟩ (.int .i64 k)).setCell ⟨Y, 1, none⟩ (.int .i64 b)).setCell ⟨Y, 2, none⟩ (.string s)).setCell ⟨Y, 3, none⟩ (.slice A n c)) (some R) ∧
    ((((w1.setCell ⟨Y, 0, none⟩ (.int .i64 k)).setCell ⟨Y, 1, none⟩ (.int .i64 b)).setCell ⟨Y, 2, none⟩ (.string s)).setCell ⟨Y, 3, none⟩ (.slice A n c)).heap[Y]? = some (.cells (four k b s (.slice A n c)) 36 (0, 0)) ∧
    ExAt ((((w1.setCell ⟨Y, 0, none⟩ (.int .i64 k)).setCell ⟨Y, 1, none⟩ (.int .i64 b)).setCell ⟨Y, 2, none⟩ (.string s)).setCell ⟨Y, 3, none⟩ (.slice A n c)) (Since w.heap.size) x [.int .i64 k, .int .i64 b, .string s, .slice A n c] ∧
    Rd w0 ((((w1.setCell ⟨Y, 0, none⟩ (.int .i64 k)).setCell ⟨Y, 1, none⟩ (.int .i64 b)).setCell ⟨Y, 2, none⟩ (.string s)).setCell ⟨Y, 3, none⟩ (.slice A n c)) R T wd r' := by
  refine ⟨gr_new (gr_new (gr_new (gr_new hg hYw _) hYw _) hYw _) hYw _, set4 hY, ?_, ?_⟩
  · have hno : ¬ Since B Y := by show ¬ B ≤ Y; omega
    exact ((((hx.other hno _ _).other hno _ _).other hno _ _).other hno _ _).lower hBw
  · exact (((hr.other (by omega) (by omega) (by omega) _ _).other (by omega) (by omega) (by omega) _ _).other (by omega) (by omega) (by omega) _ _).other (by omega) (by omega) (by omega) _ _
set_option maxHeartbeats 1000000 in
theorem term_any (m : Nums) (w0 : World) (R T : Nat) (wd : Int) (n : Nat) (spec : RS → Option (Ex × RS)) (hE : Ends spec) (hP : PartC m w0 R T wd 79 n spec) : PartC m w0 R T wd 58 n (chain [42, 47, 64] spec) := by
  intro w r hn hr hN
  have hr0 := hr.keep ((Below.refl w.heap.size w).alloc (Nat.le_refl _) (.cells #[.int .i64 0, .int .i64 0, .string ⟨#[]⟩, .slice none 0 0] 36))
  have H57 := Lib.hid (chain_any m w0 R T wd 79 n spec hE hP [42, 47, 64] _ r hn hr0 hN enter79)
  have hmf : ∀ (fn : Fn) (first cap : Array Value) (w : World), (Instr.makeFunc fn first cap).run Tryz.prog w = .ok (.func fn first cap) w := fun _ _ _ _ => rfl
  have hRw := hr.lt
  have hTw := hr.ltT
  have hBw := hr.below.size
  clear hP
  go_enter Tryz.func58, Tryz.ntmps58
  go_wp2_with fail
  refine H57.out.mono ?_
  rintro e w1 ⟨hg, ⟨hsp, rfl⟩ | ⟨x, r1, k, b, s, A, n1, c, hsp, rfl, hx, hr1⟩⟩
  · have hsp' := Lib.hid hsp
    clear hsp
    go_wp2_with fail
    exact ⟨rfl, gr_trans (gr_alloc _ _ _) hg, .inl ⟨hsp'.out, rfl⟩⟩
  · have hsp' := Lib.hid hsp
    clear hsp
    have hY : w1.heap[w.heap.size]? = some (.cells (four 0 0 ⟨#[]⟩ (.slice none 0 0)) 36 (0, 0)) := by
      rw [hg.block _ (by simp) (by intro e; injection e with e; omega)]
      exact heap_alloc_new _ _
    have hst := Lib.hid (ret_step hY (Nat.le_refl _) hRw hTw hBw (gr_trans (gr_alloc _ _ _) hg) _ (by simp) (by simp) hx hr1)
    obtain ⟨d0, d1, d2, d3⟩ := cells4 hY
    have df : ∀ i, w1.frozen? ⟨w.heap.size, i, none⟩ = false := fun i => free_heap hY i
    clear hY
    go_wp2_with fail
    exact bodyPost_ret (results36 (p := 2) rfl _ _ w.heap.size k b s (.slice A n1 c) rfl hst.out.2.1) rfl ⟨hst.out.1, .inr ⟨x, r1, k, b, s, A, n1, c, hsp'.out, rfl, hst.out.2.2.1, hst.out.2.2.2⟩⟩
set_option maxHeartbeats 1000000 in
theorem expr_any (m : Nums) (w0 : World) (R T : Nat) (wd : Int) (n : Nat) (spec : RS → Option (Ex × RS)) (hE : Ends spec) (hP : PartC m w0 R T wd 79 n spec) : PartC m w0 R T wd 41 n (exprOf spec) := by
  intro w r hn hr hN
  have hr0 := hr.keep ((Below.refl w.heap.size w).alloc (Nat.le_refl _) (.cells #[.int .i64 0, .int .i64 0, .string ⟨#[]⟩, .slice none 0 0] 36))
  have H57 := Lib.hid (chain_any m w0 R T wd 58 n (chain [42, 47, 64] spec) (term_ends hE) (term_any m w0 R T wd n spec hE hP) [43, 45] _ r hn hr0 hN enter58)
  have hmf : ∀ (fn : Fn) (first cap : Array Value) (w : World), (Instr.makeFunc fn first cap).run Tryz.prog w = .ok (.func fn first cap) w := fun _ _ _ _ => rfl
  have hRw := hr.lt
  have hTw := hr.ltT
  have hBw := hr.below.size
  clear hP
  go_enter Tryz.func41, Tryz.ntmps41
  go_wp2_with fail
  refine H57.out.mono ?_
  rintro e w1 ⟨hg, ⟨hsp, rfl⟩ | ⟨x, r1, k, b, s, A, n1, c, hsp, rfl, hx, hr1⟩⟩
  · have hsp' := Lib.hid hsp
    clear hsp
    go_wp2_with fail
    exact ⟨rfl, gr_trans (gr_alloc _ _ _) hg, .inl ⟨hsp'.out, rfl⟩⟩
  · have hsp' := Lib.hid hsp
    clear hsp
    have hY : w1.heap[w.heap.size]? = some (.cells (four 0 0 ⟨#[]⟩ (.slice none 0 0)) 36 (0, 0)) := by
      rw [hg.block _ (by simp) (by intro e; injection e with e; omega)]
      exact heap_alloc_new _ _
    have hst := Lib.hid (ret_step hY (Nat.le_refl _) hRw hTw hBw (gr_trans (gr_alloc _ _ _) hg) _ (by simp) (by simp) hx hr1)
    obtain ⟨d0, d1, d2, d3⟩ := cells4 hY
    have df : ∀ i, w1.frozen? ⟨w.heap.size, i, none⟩ = false := fun i => free_heap hY i
    clear hY
    go_wp2_with fail
    exact bodyPost_ret (results36 (p := 2) rfl _ _ w.heap.size k b s (.slice A n1 c) rfl hst.out.2.1) rfl ⟨hst.out.1, .inr ⟨x, r1, k, b, s, A, n1, c, hsp'.out, rfl, hst.out.2.2.1, hst.out.2.2.2⟩⟩
end Go.Proofs.YtdkhedefcmjjgaaGreatDoor
