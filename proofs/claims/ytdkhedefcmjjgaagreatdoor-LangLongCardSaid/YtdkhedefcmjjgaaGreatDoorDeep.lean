/- deep, walked: how deep an expression is.
Conditions: none. -/
import Derived.Test.YtdkhedefcmjjgaaGreatDoorTree
namespace Go.Proofs.YtdkhedefcmjjgaaGreatDoor
open Go.RowKit Sp
set_option linter.unusedSimpArgs false
set_option linter.unusedVariables false
theorem deepAll_snoc : ∀ (l : List Ex) (x : Ex) (n : Int), deepAll (l ++ [x]) n = max (deepAll l n) (deep x)
  | [], x, n => by simp [deepAll]
  | y :: l, x, n => by simp only [List.cons_append, deepAll]; exact deepAll_snoc l x _
theorem deepAll_ge : ∀ (l : List Ex) (n : Int), n ≤ deepAll l n
  | [], n => by simp [deepAll]
  | y :: l, n => by rw [deepAll]; exact Int.le_trans (Int.le_max_left _ _) (deepAll_ge l _)
theorem deepAll_take (l : List Ex) (i : Nat) (x : Ex) (h : l[i]? = some x) : deepAll (l.take (i + 1)) 0 = max (deepAll (l.take i) 0) (deep x) := by
  rw [List.take_add_one, h]; exact deepAll_snoc _ _ _
theorem deepAll_mono : ∀ (l : List Ex) (n k : Int), n ≤ k → deepAll l n ≤ deepAll l k
  | [], n, k, h => by simpa [deepAll] using h
  | y :: l, n, k, h => by rw [deepAll, deepAll]; exact deepAll_mono l _ _ (by omega)
theorem deepAll_append : ∀ (l k : List Ex) (n : Int), deepAll (l ++ k) n = deepAll k (deepAll l n)
  | [], k, n => by simp [deepAll]
  | y :: l, k, n => by simp only [List.cons_append, deepAll]; exact deepAll_append l k _
theorem deepAll_take_le (l : List Ex) (i : Nat) : deepAll (l.take i) 0 ≤ deepAll l 0 := by
  conv => rhs; rw [← List.take_append_drop i l, deepAll_append]
  exact deepAll_ge _ _
theorem deep_nn : ∀ (k b : Int) (s : Bs) (l : List Ex), deepAll l 0 ≤ deep (.mk k b s l) ∧ deep (.mk k b s l) ≤ deepAll l 0 + 1 := by
  intro k b s l
  rw [deep]
  split <;> omega
theorem inv36 {w : World} {ok : Nat → Prop} {x : Ex} {cs : List Value} (h : ExAt w ok x cs) : ∃ k b s A n c, cs = [.int .i64 k, .int .i64 b, .string s, .slice A n c] := by
  cases h; exact ⟨_, _, _, _, _, _, rfl⟩
set_option maxHeartbeats 2000000 in
theorem deep_any : ∀ (N : Nat) (x : Ex), SizeOf.sizeOf x ≤ N → ∀ (w : World) (ok : Nat → Prop) (k b : Int) (s : ByteArray) (A : Option Addr) (n c : Nat), ExAt w ok x [.int .i64 k, .int .i64 b, .string s, .slice A n c] → deep x ≤ 1000000 →
    Calls Tryz.prog 42 #[.agg #[.int .i64 k, .int .i64 b, .string s, .slice A n c]] w fun e w' => e = .returned (.int .i64 (deep x)) ∧ Below w.heap.size w w'
  | 0, x, hx => by cases x; simp at hx
  | N + 1, x, hx => by
    intro w ok k b s A n c h hd
    cases h with
    | mk _ _ nm args _ _ f hc hm hA hargs =>
    have hdn := deep_nn k b nm args
    have hd0 := deepAll_ge args 0
    have IH := Lib.hid (fun (i : Nat) (y : Ex) (hi : args[i]? = some y) W (hb : Below w.heap.size w W) (k b : Int) (s : ByteArray) (A : Option Addr) (n c : Nat) (hy : ExAt W ok y [.int .i64 k, .int .i64 b, .string s, .slice A n c]) =>
      deep_any N y (by have := List.sizeOf_lt_of_mem (List.mem_of_getElem? hi); simp at hx; omega) W ok k b s A n c hy (by
        have h1 := deepAll_take args i y hi
        have h2 := deepAll_take_le args (i + 1)
        omega))
    have hA' := Lib.hid hA
    have hargs' := Lib.hid hargs
    have hc' : Hid (args.length ≤ c) := Lib.hid hc
    have hal : args.length ≤ 9223372036854775807 := by omega
    clear hA hargs hc hx
    generalize hn : args.length = n at *
    go_enter Tryz.func42, Tryz.ntmps42
    go_wp2_with fail
    go_loopw [3, 9] (fun t3 t9 wr => ∃ i : Nat, i ≤ n ∧ t3 = .int .i64 (deepAll (args.take i) 0) ∧ t9 = .int .i64 i ∧ Hid (Below (w.alloc (.cells #[.int .i64 k, .int .i64 b, .string (bstr nm), .slice A n c] 36)).heap.size (w.alloc (.cells #[.int .i64 k, .int .i64 b, .string (bstr nm), .slice A n c] 36)) wr)) (fun _ t9 _ => n - (intOf t9).toNat)
    case atStart => exact ⟨0, Nat.zero_le _, by simp [deepAll], rfl, Below.refl _ _⟩
    case round =>
      obtain ⟨i, hi, rfl, rfl, hb⟩ := hrel
      have hs1 := hb.out.size
      simp only [World.size_alloc] at hs1
      have hm0 : wr.heap[w.heap.size]? = some (.cells (four k b (bstr nm) (.slice A n c)) 36 (0, 0)) := (hb.out.block _ (by simp)).trans (heap_alloc_new _ _)
      have hk0 : wr.cell? ⟨w.heap.size, 0, none⟩ = some (.int .i64 k) := cell_heap hm0 0
      clear hm0
      have hbw : Below w.heap.size w wr := ((Below.refl _ _).alloc (Nat.le_refl _) _).trans (hb.out.mono (by simp))
      have hbw' := Lib.hid hbw
      clear hbw
      rcases Nat.lt_or_ge i n with hin | hin
      · have hi1 : (i : Int) < (n : Int) := by omega
        have hxi : args[i]? = some args[i] := List.getElem?_eq_getElem (by omega)
        obtain ⟨g, o, rfl, hok, hgl, hcell⟩ := hA'.out (by intro e; simp [e] at hn; omega)
        have hy := (hargs'.out i _ hxi)
        obtain ⟨ky, by_, sy, Ay, ny, cy, hcs⟩ := inv36 hy
        simp only [List.cons.injEq, and_true] at hcs
        obtain ⟨z0, z1, z2, z3⟩ := hcs
        rw [z0, z1, z2, z3] at hy
        have q0 := (hbw'.out.cell (p := ⟨g, o + 4 * i, none⟩) hgl).trans (hcell (4 * i) (by omega))
        rw [z0, show o + 4 * i = o + i * 4 by omega] at q0
        have q1 := (hbw'.out.cell (p := ⟨g, o + (4 * i + 1), none⟩) hgl).trans (hcell (4 * i + 1) (by omega))
        rw [z1, show o + (4 * i + 1) = o + i * 4 + 1 by omega] at q1
        have q2 := (hbw'.out.cell (p := ⟨g, o + (4 * i + 2), none⟩) hgl).trans (hcell (4 * i + 2) (by omega))
        rw [z2, show o + (4 * i + 2) = o + i * 4 + 2 by omega] at q2
        have q3 := (hbw'.out.cell (p := ⟨g, o + (4 * i + 3), none⟩) hgl).trans (hcell (4 * i + 3) (by omega))
        rw [z3, show o + (4 * i + 3) = o + i * 4 + 3 by omega] at q3
        have IHi := Lib.hid (IH.out i _ hxi (wr.alloc (.cells #[.int .i64 ky, .int .i64 by_, .string sy, .slice Ay ny cy] 36)) (hbw'.out.alloc (by omega) _) ky by_ sy Ay ny cy ((hy.old hbw'.out).old ((Below.refl _ _).alloc (Nat.le_refl _) _)))
        have hdt := deepAll_take args i _ hxi
        have hle := deepAll_take_le args (i + 1)
        have hy' := Lib.hid hy
        have hdt' := Lib.hid hdt
        clear hy hdt hxi z0 z1 z2 z3
        go_wp2_with fail
        refine IHi.out.mono ?_
        rintro e w3 ⟨rfl, hb3⟩
        have hb3' := Lib.hid hb3
        have hs3 := hb3.size
        simp only [World.size_alloc] at hs3
        clear hb3
        go_wp2_with fail
        go_roundw
        case rel =>
          refine ⟨i + 1, by omega, by rw [hdt'.out], by go_num, ?_⟩
          exact hb.out.trans (((Below.refl _ _).alloc (by simp; omega) _).trans (hb3'.out.mono (by simp; omega)))
        case measure => simp [intOf]; omega
      · have hi1 : ¬ ((i : Int) < (n : Int)) := by omega
        obtain rfl : i = n := by omega
        have htk : args.take i = args := by rw [← hn]; exact List.take_length
        rw [htk]
        have hdl : deepAll args 0 ≤ 1000000 := by omega
        by_cases hk3 : k = 3
        · have hfin : deep (.mk k b nm args) = deepAll args 0 + 1 := by rw [deep, if_pos hk3]
          have hfin' := Lib.hid hfin
          have hkb : (k == 3) = true := by simpa using hk3
          clear hfin hk3 hdn hd
          go_wp2_with fail
          go_returns
          exact ⟨by rw [hfin'.out]; rfl, hbw'.out⟩
        · have hfin : deep (.mk k b nm args) = deepAll args 0 := by rw [deep, if_neg hk3]
          have hfin' := Lib.hid hfin
          have hkb : (k == 3) = false := by simpa using hk3
          clear hfin hk3 hdn hd
          go_wp2_with fail
          go_returns
          exact ⟨by rw [hfin'.out]; rfl, hbw'.out⟩
end Go.Proofs.YtdkhedefcmjjgaaGreatDoor
