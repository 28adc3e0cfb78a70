/- A reader's smallest steps, walked: it gives up; it takes the next word.
Conditions: the reader lies behind its pointer as the words of Mem say. -/
import Derived.Test.YtdkhedefcmjjgaaGreatDoorProg
import Derived.Test.YtdkhedefcmjjgaaGreatDoorMem
import Derived.WalkLawsBesides
import Derived.WalkSpells
import Derived.Handy
import Derived.Lib.Hide
namespace Go.Proofs.YtdkhedefcmjjgaaGreatDoor
open Go.RowKit Sp
set_option linter.unusedVariables false
theorem und51 : Tryz.prog.underlying 51 = some (.slice 70) := by kernel_rfl
theorem elem51 : Tryz.prog.elem 51 = 70 := by kernel_rfl
theorem info70 : (Tryz.prog.info? 70).map (fun i => (i.size, i.bytes)) = some (2, 24) := by kernel_rfl
theorem drop51 (A : Option Addr) (n c : Nat) (h : n + 1 ≤ c) : ∃ A', (∀ W, (Instr.slice 51 (.slice A (n + 1) c) (some (.int .i64 1)) none none).run Tryz.prog W = .ok (.slice A' n (c - 1)) W) ∧ (0 < n → A' = A.map (·.add 2)) := by
  have hi := info70
  cases h70 : Tryz.prog.info? 70 with
  | none => rw [h70] at hi; simp at hi
  | some i =>
    rw [h70] at hi
    simp only [Option.map_some, Option.some.injEq, Prod.mk.injEq] at hi
    refine ⟨if c = 1 then A else A.map (·.add 2), fun W => ?_, fun hn => by rw [if_neg (by omega)]⟩
    have hu : Tryz.prog.underlying 51 = some (.slice (Tryz.prog.elem 51)) := by rw [elem51]; exact und51
    rw [run_slice_l W 51 A (n + 1) c hu .i64 1 (by omega) (by omega), elem51]
    simp [sizeOf, typeInfo, h70, hi.1, sliced, Result.andThen]
/-- syntax: it gives up. -/
theorem syntax_any (p : Value) (w : World) : Calls Tryz.prog 17 #[p] w fun e w' => e = .panicked (giv 70) ∧ w = w' := by
  go_enter Tryz.func17, Tryz.ntmps17
  go_wp2
  exact ⟨rfl, rfl, rfl⟩
set_option maxHeartbeats 1000000 in
theorem next_walk (R T o c n : Nat) (k q : Int) (s : ByteArray) (A' : Option Addr) (w : World) (hR : w.cell? ⟨R, 0, none⟩ = some (.slice (some ⟨T, o, none⟩) (n+1) c))
    (hT0 : w.cell? ⟨T, o, none⟩ = some (.int .u8 q)) (hT1 : w.cell? ⟨T, o + 1, none⟩ = some (.string s)) (hf : w.frozen? ⟨R, 0, none⟩ = false)
    (hRl : R < w.heap.size) (hTl : T < w.heap.size) (hcs : n + 1 ≤ c) (hc : c ≤ 9223372036854775807)
    (hsl : ∀ W, (Instr.slice 51 (.slice (some ⟨T, o, none⟩) (n + 1) c) (some (.int .i64 1)) none none).run Tryz.prog W = .ok (.slice A' n (c - 1)) W)
    (hk : (k != 0) = false ∨ (k != 0) = true ∧ (q != k) = false) :
     Calls Tryz.prog 16 #[.pointer (some ⟨R, 0, none⟩), .int .u8 k] w fun e w' => e = .returned (.string s) ∧ (w.setCell ⟨R, 0, none⟩ (.slice A' n (c - 1))).alloc (.cells #[.int .u8 q, .string s] 70) = w' := by
  have hn0 : ((n : Int) + 1 == 0) = false := beq_eq_false_iff_ne.2 (by omega)
  rcases hk with hk | ⟨hk, hq⟩
  · go_enter Tryz.func16, Tryz.ntmps16
    go_wp2
    go_ret
    exact ⟨rfl, rfl⟩
  · go_enter Tryz.func16, Tryz.ntmps16
    go_wp2
    go_ret
    exact ⟨rfl, rfl⟩
set_option maxHeartbeats 1000000 in
theorem next_walk_empty (R c : Nat) (k : Int) (A : Option Addr) (w : World) (hR : w.cell? ⟨R, 0, none⟩ = some (.slice A 0 c)) :
     Calls Tryz.prog 16 #[.pointer (some ⟨R, 0, none⟩), .int .u8 k] w fun e w' => e = .panicked (giv 70) ∧ w = w' := by
  go_enter Tryz.func16, Tryz.ntmps16
  go_wp2_with (go_at_call 17; refine (syntax_any _ _).mono ?_; rintro e w' ⟨rfl, rfl⟩)
  exact ⟨rfl, rfl, rfl⟩
set_option maxHeartbeats 1000000 in
theorem next_walk_other (R T o c n : Nat) (k q : Int) (A' : Option Addr) (w : World) (hR : w.cell? ⟨R, 0, none⟩ = some (.slice (some ⟨T, o, none⟩) (n+1) c))
    (hT0 : w.cell? ⟨T, o, none⟩ = some (.int .u8 q)) (hk : (k != 0) = true) (hq : (q != k) = true) :
     Calls Tryz.prog 16 #[.pointer (some ⟨R, 0, none⟩), .int .u8 k] w fun e w' => e = .panicked (giv 70) ∧ w = w' := by
  have hn0 : ((n : Int) + 1 == 0) = false := beq_eq_false_iff_ne.2 (by omega)
  go_enter Tryz.func16, Tryz.ntmps16
  go_wp2_with (go_at_call 17; refine (syntax_any _ _).mono ?_; rintro e w' ⟨rfl, rfl⟩)
  exact ⟨rfl, rfl, rfl⟩

theorem u8_ne (a b : UInt8) : (((a.toNat : Int) != (b.toNat : Int)) = (a != b)) := by
  by_cases h : a = b
  · subst h; simp
  · have : (a.toNat : Int) ≠ (b.toNat : Int) := fun e => h (UInt8.toNat_inj.1 (by omega))
    rw [bne_iff_ne.2 h, bne_iff_ne.2 this]
theorem u8_ne0 (a : UInt8) : (((a.toNat : Int) != 0) = (a != 0)) := u8_ne a 0

theorem next_no {w0 w : World} {R T : Nat} {wd kk : Int} {k : UInt8} {r : RS} (hr : Rd w0 w R T wd r) (hk : kk = (k.toNat : Int)) (h : Sp.next k r = none) :
    Calls Tryz.prog 16 #[.pointer (some ⟨R, 0, none⟩), .int .u8 kk] w fun e w' => e = .panicked (giv 70) ∧ w = w' := by
  subst hk
  obtain ⟨v, dp, hh, ht⟩ := hr.at_
  have hc := cell_heap hh 0
  obtain ⟨ts, st⟩ := r
  cases ts with
  | nil =>
    obtain ⟨A, c, rfl, _⟩ := ht.nil
    exact next_walk_empty R c _ A w hc
  | cons t l =>
    obtain ⟨o, c, rfl, h1, h2, h3, h4, h5⟩ := ht.cons
    simp only [Sp.next] at h
    split at h
    · rename_i hb
      rw [Bool.and_eq_true] at hb
      exact next_walk_other R T o c l.length _ _ none w hc h3 (by rw [u8_ne0]; exact hb.1) (by rw [u8_ne]; exact hb.2)
    · cases h
theorem next_ok {w0 w : World} {R T : Nat} {wd kk : Int} {k : UInt8} {r r' : RS} {s : Bs} (hr : Rd w0 w R T wd r) (hk : kk = (k.toNat : Int)) (h : Sp.next k r = some (s, r')) :
    Calls Tryz.prog 16 #[.pointer (some ⟨R, 0, none⟩), .int .u8 kk] w fun e w' => e = .returned (.string (bstr s)) ∧ w.grownBy w' (some R) ∧ Rd w0 w' R T wd r' := by
  subst hk
  have hRl := hr.lt
  obtain ⟨v, dp, hh, ht⟩ := hr.at_
  have hc := cell_heap hh 0
  obtain ⟨ts, st⟩ := r
  cases ts with
  | nil => simp [Sp.next] at h
  | cons t l =>
    obtain ⟨o, c, rfl, h1, h2, h3, h4, h5⟩ := ht.cons
    simp only [Sp.next] at h
    split at h
    · cases h
    · rename_i hb
      simp only [Option.some.injEq, Prod.mk.injEq] at h
      obtain ⟨rfl, rfl⟩ := h
      obtain ⟨A', hsl, hA'⟩ := drop51 (some ⟨T, o, none⟩) l.length c h1
      have hk : ((k.toNat : Int) != 0) = false ∨ ((k.toNat : Int) != 0) = true ∧ ((t.kind.toNat : Int) != (k.toNat : Int)) = false := by
        rw [u8_ne0, u8_ne]
        cases h0 : (k != 0) with
        | false => exact .inl rfl
        | true => exact .inr ⟨rfl, by simpa [h0] using hb⟩
      refine (next_walk R T o c l.length _ _ _ A' w hc h3 h4 (free_heap hh 0) hRl hr.ltT h1 h2 hsl hk).mono ?_
      rintro e w' ⟨rfl, rfl⟩
      refine ⟨rfl, gr_app (gr_set 0 _) _, hr.env, (hr.below.setCell hr.hR _).alloc (by have := hr.below.size; simp only [World.size_setCell]; omega) _, hr.hR, hr.hT, hr.ok.tail, hr.ne, by simp only [World.size_alloc, World.size_setCell]; have := hr.ltT; omega, .slice A' l.length (c - 1), dp, ?_, ?_⟩
      · rw [Below.heap_alloc _ _ _ (by simpa [World.setCell] using hRl)]
        exact set_heap hh 0 _
      · refine (h5 A' (fun h0 => ?_)).keep ?_
        · rw [hA' h0]; simp [add_plain']
        · rw [Below.heap_alloc _ _ _ (by simpa [World.setCell] using hr.ltT)]
          exact Below.heap_setCell _ _ _ _ hr.ne
end Go.Proofs.YtdkhedefcmjjgaaGreatDoor
