/- SameExpr, walked: two memories of one expression are the same.
Conditions: both read as one expression. -/
import Derived.Test.YtdkhedefcmjjgaaGreatDoorMFac3
import Derived.StillTailTactics
import Derived.Test.YtdkhedefcmjjgaaGreatDoorMRead
import Derived.Test.YtdkhedefcmjjgaaGreatDoorMLine4
import Derived.Deep.MidRow
import Derived.Deep.WholeRow
import Derived.Deep.DeepCutAuto
import Derived.Tactics2
namespace Go.Proofs.YtdkhedefcmjjgaaGreatDoor
open Go.RowKit Sp
set_option linter.unusedSimpArgs false
set_option linter.unusedVariables false
set_option maxRecDepth 100000 in
set_option maxHeartbeats 4000000 in
theorem sameExpr_any : ∀ (N : Nat) (x : Ex), SizeOf.sizeOf x ≤ N → ∀ (w : World) (ok ok' : Nat → Prop) (k b : Int) (s : ByteArray) (A : Option Addr) (n c : Nat) (k' b' : Int) (s' : ByteArray) (A' : Option Addr) (n' c' : Nat), ExAt w ok x [.int .i64 k, .int .i64 b, .string s, .slice A n c] → ExAt w ok' x [.int .i64 k', .int .i64 b', .string s', .slice A' n' c'] →
    Calls Tryz.prog 11 #[.agg #[.int .i64 k, .int .i64 b, .string s, .slice A n c], .agg #[.int .i64 k', .int .i64 b', .string s', .slice A' n' c']] w fun e w' => e = .returned (.bool true) ∧ Below w.heap.size w w'
  | 0, x, hx => by cases x; simp at hx
  | N + 1, x, hx => by
    intro w ok ok' k b s A n c k' b' s' A' n' c' h h'
    cases h with
    | mk _ _ nm args _ _ f hc hm hA hargs =>
    cases h' with
    | mk _ _ _ _ _ _ f' hc' hm' hA' hargs' =>
    have IH := Lib.hid (fun (i : Nat) (y : Ex) (hi : args[i]? = some y) W (k b : Int) (s : ByteArray) (A : Option Addr) (n c : Nat) (k' b' : Int) (s' : ByteArray) (A' : Option Addr) (n' c' : Nat) (hy : ExAt W ok y [.int .i64 k, .int .i64 b, .string s, .slice A n c]) (hy' : ExAt W ok' y [.int .i64 k', .int .i64 b', .string s', .slice A' n' c']) =>
      sameExpr_any N y (by have := List.sizeOf_lt_of_mem (List.mem_of_getElem? hi); simp at hx; omega) W ok ok' k b s A n c k' b' s' A' n' c' hy hy')
    have HA := Lib.hid hA
    have HA' := Lib.hid hA'
    have HR := Lib.hid hargs
    have HR' := Lib.hid hargs'
    have HC : Hid (args.length ≤ c) := Lib.hid hc
    have HC' : Hid (args.length ≤ c') := Lib.hid hc'
    have hal : args.length ≤ 9223372036854775807 := by omega
    have hsn : ((bstr nm).toList == (bstr nm).toList) = true := by simp
    clear hA hargs hc hx hA' hargs' hc'
    generalize hn : args.length = n at *
    go_enter Tryz.func11, Tryz.ntmps11
    go_wp2_with fail
    go_loopw [5] (fun t5 wr => ∃ i : Nat, i ≤ n ∧ t5 = .int .i64 i ∧ Hid (Below ((w.alloc (.cells #[.int .i64 k, .int .i64 b, .string (bstr nm), .slice A n c] 36)).alloc (.cells #[.int .i64 k, .int .i64 b, .string (bstr nm), .slice A' n c'] 36)).heap.size ((w.alloc (.cells #[.int .i64 k, .int .i64 b, .string (bstr nm), .slice A n c] 36)).alloc (.cells #[.int .i64 k, .int .i64 b, .string (bstr nm), .slice A' n c'] 36)) wr)) (fun t5 _ => n - (intOf t5).toNat)
    case atStart => exact ⟨0, Nat.zero_le _, rfl, Below.refl _ _⟩
    case round =>
      obtain ⟨i, hi, rfl, hb⟩ := hrel
      have hs1 := hb.out.size
      simp only [World.size_alloc] at hs1
      have hm0 : wr.heap[w.heap.size]? = some (.cells (four k b (bstr nm) (.slice A n c)) 36 (0, 0)) := (hb.out.block _ (by simp <;> omega)).trans ((Below.heap_alloc _ _ _ (by simp)).trans (heap_alloc_new _ _))
      have hm1 : wr.heap[w.heap.size + 1]? = some (.cells (four k b (bstr nm) (.slice A' n c')) 36 (0, 0)) := (hb.out.block _ (by simp)).trans (by have := heap_alloc_new (w.alloc (.cells #[.int .i64 k, .int .i64 b, .string (bstr nm), .slice A n c] 36)) (.cells #[.int .i64 k, .int .i64 b, .string (bstr nm), .slice A' n c'] 36); rw [show (w.alloc (.cells #[.int .i64 k, .int .i64 b, .string (bstr nm), .slice A n c] 36)).heap.size = w.heap.size + 1 by simp] at this; exact this)
      have hk3 : wr.cell? ⟨w.heap.size, 3, none⟩ = some (.slice A n c) := cell_heap hm0 3
      have hk3' : wr.cell? ⟨w.heap.size + 1, 3, none⟩ = some (.slice A' n c') := cell_heap hm1 3
      clear hm0 hm1
      have hbw : Below w.heap.size w wr := (((Below.refl _ _).alloc (Nat.le_refl _) _).alloc (by simp) _).trans (hb.out.mono (by simp <;> omega))
      have HBW := Lib.hid hbw
      clear hbw
      rcases Nat.lt_or_ge i n with hin | hin
      · have hi1 : (i : Int) < (n : Int) := by omega
        have hi0 : (0 : Int) ≤ (i : Int) := by omega
        have hxi : args[i]? = some args[i] := List.getElem?_eq_getElem (by omega)
        obtain ⟨g, o, rfl, hok, hgl, hcell⟩ := HA.out (by intro e; simp [e] at hn; omega)
        obtain ⟨g', o', rfl, hok', hgl', hcell'⟩ := HA'.out (by intro e; simp [e] at hn; omega)
        have hy := (HR.out i _ hxi)
        have hy' := (HR'.out i _ hxi)
        obtain ⟨ky, by_, sy, Ay, ny, cy, hcs⟩ := inv36 hy
        obtain ⟨ky', by', sy', Ay', ny', cy', hcs'⟩ := inv36 hy'
        simp only [List.cons.injEq, and_true] at hcs hcs'
        obtain ⟨z0, z1, z2, z3⟩ := hcs
        obtain ⟨z0', z1', z2', z3'⟩ := hcs'
        rw [z0, z1, z2, z3] at hy
        rw [z0', z1', z2', z3'] at hy'
        have q0 := (HBW.out.cell (p := ⟨g, o + 4 * i, none⟩) hgl).trans (hcell (4 * i) (by omega))
        rw [z0, show o + 4 * i = o + i * 4 by omega] at q0
        have q1 := (HBW.out.cell (p := ⟨g, o + (4 * i + 1), none⟩) hgl).trans (hcell (4 * i + 1) (by omega))
        rw [z1, show o + (4 * i + 1) = o + i * 4 + 1 by omega] at q1
        have q2 := (HBW.out.cell (p := ⟨g, o + (4 * i + 2), none⟩) hgl).trans (hcell (4 * i + 2) (by omega))
        rw [z2, show o + (4 * i + 2) = o + i * 4 + 2 by omega] at q2
        have q3 := (HBW.out.cell (p := ⟨g, o + (4 * i + 3), none⟩) hgl).trans (hcell (4 * i + 3) (by omega))
        rw [z3, show o + (4 * i + 3) = o + i * 4 + 3 by omega] at q3
        have q0' := (HBW.out.cell (p := ⟨g', o' + 4 * i, none⟩) hgl').trans (hcell' (4 * i) (by omega))
        rw [z0', show o' + 4 * i = o' + i * 4 by omega] at q0'
        have q1' := (HBW.out.cell (p := ⟨g', o' + (4 * i + 1), none⟩) hgl').trans (hcell' (4 * i + 1) (by omega))
        rw [z1', show o' + (4 * i + 1) = o' + i * 4 + 1 by omega] at q1'
        have q2' := (HBW.out.cell (p := ⟨g', o' + (4 * i + 2), none⟩) hgl').trans (hcell' (4 * i + 2) (by omega))
        rw [z2', show o' + (4 * i + 2) = o' + i * 4 + 2 by omega] at q2'
        have q3' := (HBW.out.cell (p := ⟨g', o' + (4 * i + 3), none⟩) hgl').trans (hcell' (4 * i + 3) (by omega))
        rw [z3', show o' + (4 * i + 3) = o' + i * 4 + 3 by omega] at q3'
        have IHi := Lib.hid (IH.out i _ hxi wr.drew ky by_ sy Ay ny cy ky' by' sy' Ay' ny' cy' (hy.old (HBW.out.drew)) (hy'.old (HBW.out.drew)))
        clear hy hy' hxi z0 z1 z2 z3 z0' z1' z2' z3' hcell hcell'
        go_wp2_with fail
        go_still_tail 10, (by kernel_rfl)
        change wpList _ _ _ _ _ wr.drew
        go_wp2_with fail
        refine IHi.out.mono ?_
        rintro e w3 ⟨rfl, hb3⟩
        have HB3 := Lib.hid hb3
        clear hb3
        go_wp2_with fail
        go_roundw
        case rel =>
          refine ⟨i + 1, by omega, by go_num, ?_⟩
          exact hb.out.trans ((Below.refl _ _).drew.trans (HB3.out.mono (by simp; omega)))
        case measure => simp [intOf]; omega
      · have hi1 : ¬ ((i : Int) < (n : Int)) := by omega
        go_wp2_with fail
        go_ret
        exact ⟨rfl, HBW.out⟩
end Go.Proofs.YtdkhedefcmjjgaaGreatDoor
/- Same, walked: two memories of one model are the same, but for its lines where they are not asked.
Conditions: both read as models that are one, but for lines. -/
namespace Go.Proofs.YtdkhedefcmjjgaaGreatDoor
open Go.RowKit Sp
set_option linter.unusedSimpArgs false
set_option linter.unusedVariables false
/-- Two declarations that are one, but for their lines. -/
def SameD (lines : Bool) (d d' : Dc) : Prop := d' = { d with line := d'.line } ∧ (lines = true → d'.line = d.line)
theorem DRows.at_ {w : World} {ok : Nat → Prop} : ∀ {l : List Dc} {cs : List Value} {i : Nat} {d : Dc}, DRows w ok l cs → l[i]? = some d →
    ∃ k b en A n c, (∀ j v, (dcs d.kind d.line (bstr d.name) d.rows d.cols d.init d.a d.b k b en (.slice A n c)).toList[j]? = some v → cs[12 * i + j]? = some v) ∧ ExAt w ok d.expr [.int .i64 k, .int .i64 b, .string en, .slice A n c]
  | [], _, _, _, _, h => by simp at h
  | d0 :: l, cs, i, d, ⟨k, b, en, A, n, c, r, e, hx, hl⟩, h => by
    subst e
    cases i with
    | zero =>
      have e0 : d0 = d := by simpa using h
      subst e0
      refine ⟨k, b, en, A, n, c, fun j v hv => ?_, hx⟩
      have hj : j < 12 := by
        have := (List.getElem?_eq_some_iff.1 hv).1
        exact this
      rw [Nat.mul_zero, Nat.zero_add, List.getElem?_append_left (by exact hj)]
      exact hv
    | succ i =>
      obtain ⟨k', b', en', A', n', c', h1, h2⟩ := DRows.at_ hl (i := i) (d := d) (by simpa using h)
      refine ⟨k', b', en', A', n', c', fun j v hv => ?_, h2⟩
      have h12 : (dcs d0.kind d0.line (bstr d0.name) d0.rows d0.cols d0.init d0.a d0.b k b en (.slice A n c)).toList.length = 12 := rfl
      rw [List.getElem?_append_right (by rw [h12]; omega), h12, show 12 * (i + 1) + j - 12 = 12 * i + j by omega]
      exact h1 j v hv
/-- A model's i-th declaration, where it lies. -/
theorem MdAt.at_ {w : World} {B : Nat} {md : Md} {A : Option Addr} {n c i : Nat} {d : Dc} (h : MdAt w B md (.slice A n c)) (hd : md.decls[i]? = some d) :
    n = md.decls.length ∧ ∃ g, A = some ⟨g, 0, none⟩ ∧ n ≤ c ∧ ∃ k b en Ax nx cx, w.rangeAt g (i * 12) (dcs d.kind d.line (bstr d.name) d.rows d.cols d.init d.a d.b k b en (.slice Ax nx cx)).toList ∧ ExAt w (Since B) d.expr [.int .i64 k, .int .i64 b, .string en, .slice Ax nx cx] ∧ g < w.heap.size := by
  obtain ⟨cs, ho, hr⟩ := h
  have hi : i < md.decls.length := (List.getElem?_eq_some_iff.1 hd).1
  rcases ho.2 with ⟨e, h0⟩ | ⟨g, cap, cur, e, hb, hg, hn, hm, hs, ht⟩
  · omega
  · simp only [Value.slice.injEq] at e
    obtain ⟨rfl, rfl, rfl⟩ := e
    obtain ⟨k, b, en, Ax, nx, cx, h1, h2⟩ := hr.at_ hd
    refine ⟨rfl, g, rfl, hn, k, b, en, Ax, nx, cx, fun j v hv => ?_, h2, heap_lt hg⟩
    have := ho.cells (g := g) rfl _ _ (h1 j v hv)
    rw [add_plain'] at this
    rw [show i * 12 + j = 0 + (12 * i + j) by omega]
    exact this
theorem MdAt.len {w : World} {B : Nat} {md : Md} {A : Option Addr} {n c : Nat} (h : MdAt w B md (.slice A n c)) : n = md.decls.length := by
  obtain ⟨cs, ho, hr⟩ := h
  rcases ho.2 with ⟨e, h0⟩ | ⟨g, cap, cur, e, _⟩
  · simp only [Value.slice.injEq] at e; omega
  · simp only [Value.slice.injEq] at e; omega
theorem range_old {w w' : World} (hb : Below w.heap.size w w') {g o : Nat} {cs : List Value} (h : w.rangeAt g o cs) : w'.rangeAt g o cs := fun j v hv => cell_old hb (h j v hv)
def rowL (d : Dc) (ln k b : Int) (en : ByteArray) (A : Option Addr) (n c : Nat) : List Value := [.int .i64 d.kind, .int .i64 ln, .string (bstr d.name), .int .i64 d.rows, .int .i64 d.cols, .int .i64 d.init, .int .i64 d.a, .int .i64 d.b, .int .i64 k, .int .i64 b, .string en, .slice A n c]
theorem rowL_dcs (d : Dc) (ln k b : Int) (en : ByteArray) (A : Option Addr) (n c : Nat) : rowL d ln k b en A n c = (dcs d.kind ln (bstr d.name) d.rows d.cols d.init d.a d.b k b en (.slice A n c)).toList := rfl
theorem heap_alloc2 (w : World) (o o' : Obj) : ((w.alloc o).alloc o').heap[w.heap.size + 1]? = some o' := by
  have := heap_alloc_new (w.alloc o) o'
  rw [show (w.alloc o).heap.size = w.heap.size + 1 by simp] at this
  exact this
theorem setRow_alloc2 (w : World) (o : Obj) (c c' : Array Value) (t : TypeId) : ((w.alloc o).alloc (.cells c t)).setRow (w.heap.size + 1) c' = (w.alloc o).alloc (.cells c' t) := by
  have := World.setRow_alloc_new (w.alloc o) c c' t
  rw [show (w.alloc o).heap.size = w.heap.size + 1 by simp] at this
  exact this
set_option maxRecDepth 100000 in
set_option maxHeartbeats 4000000 in
theorem same_any (lines : Bool) (w : World) (B B' : Nat) (md md' : Md) (A A' : Option Addr) (n n' c c' : Nat) (h : MdAt w B md (.slice A n c)) (h' : MdAt w B' md' (.slice A' n' c')) (hnm : md'.name = md.name) (hwd : md'.width = md.width) (hdl : md'.decls.length = md.decls.length)
    (hD : ∀ (i : Nat) (d d' : Dc), md.decls[i]? = some d → md'.decls[i]? = some d' → SameD lines d d') (hlen : md.decls.length ≤ 1000000) :
    Calls Tryz.prog 8 #[.agg #[.string (bstr md.name), .int .i64 md.width, .slice A n c], .agg #[.string (bstr md'.name), .int .i64 md'.width, .slice A' n' c'], .bool lines] w fun e w' => e = .returned (.bool true) ∧ Below w.heap.size w w' := by
  rw [hnm, hwd]
  have e1 := h.len
  have e2 := h'.len
  obtain rfl : n' = n := by omega
  have hnb : n' ≤ 1000000 := by omega
  have HN := Lib.hid e1
  have HN' := Lib.hid e2
  have HM := Lib.hid h
  have HM' := Lib.hid h'
  have HD := Lib.hid hD
  have hsn : ((bstr md.name).toList == (bstr md.name).toList) = true := by simp
  clear h h' hD e1 e2 hnm hwd hdl hlen
  go_enter Tryz.func8, Tryz.ntmps8
  go_wp2_with fail
  go_loopw [7] (fun t7 wr => ∃ i : Nat, i ≤ n' ∧ t7 = .int .i64 i ∧ Hid (Below ((w.alloc (.cells #[.string (bstr md.name), .int .i64 md.width, .slice A n' c] 25)).alloc (.cells #[.string (bstr md.name), .int .i64 md.width, .slice A' n' c'] 25)).heap.size ((w.alloc (.cells #[.string (bstr md.name), .int .i64 md.width, .slice A n' c] 25)).alloc (.cells #[.string (bstr md.name), .int .i64 md.width, .slice A' n' c'] 25)) wr)) (fun t7 _ => n' - (intOf t7).toNat)
  case atStart => exact ⟨0, Nat.zero_le _, rfl, Below.refl _ _⟩
  case round =>
    obtain ⟨i, hi, rfl, hb⟩ := hrel
    have hs1 := hb.out.size
    simp only [World.size_alloc] at hs1
    have hm0 : wr.heap[w.heap.size]? = some (.cells #[.string (bstr md.name), .int .i64 md.width, .slice A n' c] 25 (0, 0)) := (hb.out.block _ (by simp <;> omega)).trans ((Below.heap_alloc _ _ _ (by simp)).trans (heap_alloc_new _ _))
    have hm1 : wr.heap[w.heap.size + 1]? = some (.cells #[.string (bstr md.name), .int .i64 md.width, .slice A' n' c'] 25 (0, 0)) := (hb.out.block _ (by simp)).trans (by have := heap_alloc_new (w.alloc (.cells #[.string (bstr md.name), .int .i64 md.width, .slice A n' c] 25)) (.cells #[.string (bstr md.name), .int .i64 md.width, .slice A' n' c'] 25); rw [show (w.alloc (.cells #[.string (bstr md.name), .int .i64 md.width, .slice A n' c] 25)).heap.size = w.heap.size + 1 by simp] at this; exact this)
    have k2 : wr.cell? ⟨w.heap.size, 2, none⟩ = some (.slice A n' c) := cell_heap hm0 2
    have k2' : wr.cell? ⟨w.heap.size + 1, 2, none⟩ = some (.slice A' n' c') := cell_heap hm1 2
    clear hm0 hm1
    have hbw : Below w.heap.size w wr := (((Below.refl _ _).alloc (Nat.le_refl _) _).alloc (by simp) _).trans (hb.out.mono (by simp <;> omega))
    have HBW := Lib.hid hbw
    clear hbw
    rcases Nat.lt_or_ge i n' with hin | hin
    · have hi1 : (i : Int) < (n' : Int) := by omega
      have hi0 : (0 : Int) ≤ (i : Int) := by omega
      have hd : md.decls[i]? = some (md.decls[i]'(by rw [← HN.out]; exact hin)) := List.getElem?_eq_getElem _
      have hd' : md'.decls[i]? = some (md'.decls[i]'(by rw [← HN'.out]; exact hin)) := List.getElem?_eq_getElem _
      generalize md.decls[i]'(by rw [← HN.out]; exact hin) = d at hd
      generalize md'.decls[i]'(by rw [← HN'.out]; exact hin) = d' at hd'
      obtain ⟨-, g, rfl, hc1, k, b, en, Ax, nx, cx, hr1, hx1, hg1⟩ := HM.out.at_ hd
      obtain ⟨-, g', rfl, hc2, k', b', en', Ax', nx', cx', hr2, hx2, hg2⟩ := HM'.out.at_ hd'
      have hsd := Lib.hid (HD.out i d d' hd hd')
      have R1 : Hid (wr.rangeAt g (i * 12) (rowL d d.line k b en Ax nx cx)) := Lib.hid (range_old HBW.out hr1)
      have R2 : Hid (wr.rangeAt g' (i * 12) (rowL d d'.line k' b' en' Ax' nx' cx')) := Lib.hid (range_old HBW.out (by
        have e := hsd.out.1
        rw [e] at hr2
        exact hr2))
      have X1 : Hid (ExAt wr (Since B) d.expr [.int .i64 k, .int .i64 b, .string en, .slice Ax nx cx]) := Lib.hid (hx1.old HBW.out)
      have X2 : Hid (ExAt wr (Since B') d.expr [.int .i64 k', .int .i64 b', .string en', .slice Ax' nx' cx']) := Lib.hid (by
        have e := hsd.out.1
        rw [e] at hx2
        exact hx2.old HBW.out)
      have HC1 : Hid (n' ≤ c) := Lib.hid hc1
      have HC2 : Hid (n' ≤ c') := Lib.hid hc2
      have HG1 := Lib.hid hg1
      have HG2 := Lib.hid hg2
      clear hr1 hr2 hx1 hx2 hc1 hc2 hg1 hg2 hd hd'
      have HLN : Hid (lines = true → d'.line = d.line) := Lib.hid hsd.out.2
      generalize d'.line = ln' at R2 HLN
      have k2b : (wr.alloc (Obj.cells (rowL d d.line k b en Ax nx cx).toArray 38)).cell? ⟨w.heap.size + 1, 2, none⟩ = some (.slice (some ⟨g', 0, none⟩) n' c') := cell_old ((Below.refl wr.heap.size wr).alloc (Nat.le_refl _) _) k2'
      go_upto_region 7 with (first | (refine wpList_load_mid rfl 38 _ rfl g (i * 12) (by first | rfl | simp) (rowL d d.line k b en Ax nx cx) _ R1.out und38 rfl info38s ?_) | (refine wpList_store_row rfl 38 _ _ rfl _ (rowL d d.line k b en Ax nx cx).toArray rfl rfl 38 _ (heap_alloc_new _ _) info38s rfl (by simp [rowL, Value.oneCell']) ?_; rw [World.setRow_alloc_new]))
      go_upto_region 8 with (first | (refine wpList_load_mid rfl 38 _ rfl g' (i * 12) (by first | rfl | simp) (rowL d ln' k' b' en' Ax' nx' cx') _ (range_old ((Below.refl wr.heap.size wr).alloc (Nat.le_refl _) _) R2.out) und38 rfl info38s ?_) | (refine wpList_store_row rfl 38 _ _ rfl _ (rowL d ln' k' b' en' Ax' nx' cx').toArray rfl rfl 38 _ (heap_alloc2 _ _ _) info38s rfl (by simp [rowL, Value.oneCell']) ?_; rw [setRow_alloc2]))
      obtain ⟨W2, hW2⟩ : ∃ W2, W2 = (wr.alloc (.cells (rowL d d.line k b en Ax nx cx).toArray 38)).alloc (.cells (rowL d ln' k' b' en' Ax' nx' cx').toArray 38) := ⟨_, rfl⟩
      have hA0 : W2.heap[wr.heap.size]? = some (.cells (rowL d d.line k b en Ax nx cx).toArray 38 (0, 0)) := by rw [hW2]; exact (Below.heap_alloc _ _ _ (by simp)).trans (heap_alloc_new _ _)
      have hA1 : W2.heap[wr.heap.size + 1]? = some (.cells (rowL d ln' k' b' en' Ax' nx' cx').toArray 38 (0, 0)) := by rw [hW2]; exact heap_alloc2 _ _ _
      have hB2 : Below wr.heap.size wr W2 := by rw [hW2]; exact ((Below.refl _ _).alloc (Nat.le_refl _) _).alloc (by simp) _
      rw [← hW2]
      clear hW2
      have IE := Lib.hid (sameExpr_any _ d.expr (Nat.le_refl _) W2 (Since B) (Since B') k b en Ax nx cx k' b' en' Ax' nx' cx' (X1.out.old hB2) (X2.out.old hB2))
      have HA0 := Lib.hid hA0
      have HA1 := Lib.hid hA1
      have HB2 := Lib.hid hB2
      have p8 : W2.cell? ⟨wr.heap.size, 8, none⟩ = some (.int .i64 k) := cell_heap hA0 8
      have p9 : W2.cell? ⟨wr.heap.size, 9, none⟩ = some (.int .i64 b) := cell_heap hA0 9
      have p10 : W2.cell? ⟨wr.heap.size, 10, none⟩ = some (.string en) := cell_heap hA0 10
      have p11 : W2.cell? ⟨wr.heap.size, 11, none⟩ = some (.slice Ax nx cx) := cell_heap hA0 11
      have q8 : W2.cell? ⟨wr.heap.size + 1, 8, none⟩ = some (.int .i64 k') := cell_heap hA1 8
      have q9 : W2.cell? ⟨wr.heap.size + 1, 9, none⟩ = some (.int .i64 b') := cell_heap hA1 9
      have q10 : W2.cell? ⟨wr.heap.size + 1, 10, none⟩ = some (.string en') := cell_heap hA1 10
      have q11 : W2.cell? ⟨wr.heap.size + 1, 11, none⟩ = some (.slice Ax' nx' cx') := cell_heap hA1 11
      clear hA0 hA1 hB2
      go_wp2_with fail
      refine IE.out.mono ?_
      rintro e w3 ⟨rfl, hb3⟩
      have hS2 : wr.heap.size + 1 < W2.heap.size := heap_lt HA1.out
      have hA0 := (hb3.block wr.heap.size (by omega)).trans HA0.out
      have hA1 := (hb3.block (wr.heap.size + 1) hS2).trans HA1.out
      have hB3 : Below wr.heap.size wr w3 := HB2.out.trans (hb3.mono HB2.out.size)
      have HB3 := Lib.hid hB3
      have m2 : w3.cell? ⟨w.heap.size, 2, none⟩ = some (.slice (some ⟨g, 0, none⟩) n' c) := (hB3.cell (p := ⟨w.heap.size, 2, none⟩) (by show w.heap.size < wr.heap.size; omega)).trans k2
      have p0 : w3.cell? ⟨wr.heap.size, 0, none⟩ = some (.int .i64 d.kind) := cell_heap hA0 0
      have p1 : w3.cell? ⟨wr.heap.size, 1, none⟩ = some (.int .i64 d.line) := cell_heap hA0 1
      have p2 : w3.cell? ⟨wr.heap.size, 2, none⟩ = some (.string (bstr d.name)) := cell_heap hA0 2
      have p3 : w3.cell? ⟨wr.heap.size, 3, none⟩ = some (.int .i64 d.rows) := cell_heap hA0 3
      have p4 : w3.cell? ⟨wr.heap.size, 4, none⟩ = some (.int .i64 d.cols) := cell_heap hA0 4
      have p5 : w3.cell? ⟨wr.heap.size, 5, none⟩ = some (.int .i64 d.init) := cell_heap hA0 5
      have p6 : w3.cell? ⟨wr.heap.size, 6, none⟩ = some (.int .i64 d.a) := cell_heap hA0 6
      have p7 : w3.cell? ⟨wr.heap.size, 7, none⟩ = some (.int .i64 d.b) := cell_heap hA0 7
      have q0 : w3.cell? ⟨wr.heap.size + 1, 0, none⟩ = some (.int .i64 d.kind) := cell_heap hA1 0
      have q1 : w3.cell? ⟨wr.heap.size + 1, 1, none⟩ = some (.int .i64 ln') := cell_heap hA1 1
      have q2 : w3.cell? ⟨wr.heap.size + 1, 2, none⟩ = some (.string (bstr d.name)) := cell_heap hA1 2
      have q3 : w3.cell? ⟨wr.heap.size + 1, 3, none⟩ = some (.int .i64 d.rows) := cell_heap hA1 3
      have q4 : w3.cell? ⟨wr.heap.size + 1, 4, none⟩ = some (.int .i64 d.cols) := cell_heap hA1 4
      have q5 : w3.cell? ⟨wr.heap.size + 1, 5, none⟩ = some (.int .i64 d.init) := cell_heap hA1 5
      have q6 : w3.cell? ⟨wr.heap.size + 1, 6, none⟩ = some (.int .i64 d.a) := cell_heap hA1 6
      have q7 : w3.cell? ⟨wr.heap.size + 1, 7, none⟩ = some (.int .i64 d.b) := cell_heap hA1 7
      have hsn2 : ((bstr d.name).toList == (bstr d.name).toList) = true := by simp
      clear hA0 hA1 hb3 hB3 p8 p9 p10 p11 q8 q9 q10 q11 k2 k2' k2b
      cases lines with
      | true =>
        obtain rfl : ln' = d.line := HLN.out rfl
        go_wp2_with fail
        go_roundw
        case rel =>
          refine ⟨i + 1, by omega, by go_num, ?_⟩
          exact hb.out.trans (HB3.out.mono (by simp; omega))
        case measure => simp [intOf]; omega
      | false =>
        go_wp2_with fail
        go_roundw
        case rel =>
          refine ⟨i + 1, by omega, by go_num, ?_⟩
          exact hb.out.trans (HB3.out.mono (by simp; omega))
        case measure => simp [intOf]; omega
    · have hi1 : ¬ ((i : Int) < (n' : Int)) := by omega
      go_wp2_with fail
      go_ret
      exact ⟨rfl, HBW.out⟩
end Go.Proofs.YtdkhedefcmjjgaaGreatDoor
