/- A reader's sign, walked: the next word, if it is one of some signs.
Conditions: the reader lies behind its pointer as the words of Mem say. -/
import Derived.Test.YtdkhedefcmjjgaaGreatDoorNext
import Derived.Test.YtdkhedefcmjjgaaGreatDoorShelf
import Derived.Lib.IndexAny
namespace Go.Proofs.YtdkhedefcmjjgaaGreatDoor
open Go.RowKit Sp
set_option linter.unusedVariables false
theorem und9 : Tryz.prog.underlying 9 = some .string := by kernel_rfl
theorem encode_byte (k : UInt8) (hk : k.toNat < 128) : Utf8.encode (k.toNat : Int) = bstr [k] := by
  unfold Utf8.encode
  have hv : Utf8.valid (k.toNat : Int) = true := by simp [Utf8.valid]; omega
  simp only [hv, if_true, Int.toNat_natCast, hk]
  simp [bstr]
theorem run_byte_string (k : UInt8) (hk : k.toNat < 128) (w : World) : (convert 5 9 (.int .u8 (k.toNat : Int))).run Tryz.prog w = .ok (.string (bstr [k])) w := by
  rw [run_convert_int_string w 5 9 .u8 _ (by kernel_rfl) und9, encode_byte k hk]
theorem contains_byte (sg : Bs) (k : UInt8) (W : World) : Calls Tryz.prog 90 #[.string (bstr sg), .string (bstr [k])] W fun e w' => e = .returned (.bool (sg.contains k)) ∧ W = w' := by
  refine (Tryz.strings_Contains_one (bstr sg) k W).mono ?_
  rintro e w' ⟨rfl, rfl⟩
  exact ⟨by rw [Lib.contains_iff_indexByte, bstr_data], rfl⟩
set_option maxHeartbeats 1000000 in
theorem sign_walk_empty (R c : Nat) (sg : ByteArray) (A : Option Addr) (w : World) (hR : w.cell? ⟨R, 0, none⟩ = some (.slice A 0 c)) :
     Calls Tryz.prog 75 #[.pointer (some ⟨R, 0, none⟩), .string sg] w fun e w' => e = .returned (.tuple #[.string ⟨#[]⟩, .bool false]) ∧ w = w' := by
  go_enter Tryz.func75, Tryz.ntmps75
  go_wp2_with fail
  go_ret2
  exact ⟨rfl, rfl⟩
set_option maxHeartbeats 1000000 in
theorem sign_walk_other (R T o c n : Nat) (k : UInt8) (sg : ByteArray) (w : World) (hR : w.cell? ⟨R, 0, none⟩ = some (.slice (some ⟨T, o, none⟩) (n+1) c))
    (hT0 : w.cell? ⟨T, o, none⟩ = some (.int .u8 k.toNat)) (hk : k.toNat < 128) (hn : n + 1 ≤ c) (hc : c ≤ 9223372036854775807)
    (H90 : ∀ W, Calls Tryz.prog 90 #[.string sg, .string (bstr [k])] W fun e w' => e = .returned (.bool false) ∧ W = w') :
     Calls Tryz.prog 75 #[.pointer (some ⟨R, 0, none⟩), .string sg] w fun e w' => e = .returned (.tuple #[.string ⟨#[]⟩, .bool false]) ∧ w = w' := by
  have hn0 : ((n : Int) + 1 == 0) = false := beq_eq_false_iff_ne.2 (by omega)
  have hcv := fun W => run_byte_string k hk W
  have H90' := Lib.hid H90
  clear H90
  go_enter Tryz.func75, Tryz.ntmps75
  go_wp2_with fail
  refine (H90'.out _).mono ?_
  rintro e w' ⟨rfl, rfl⟩
  go_wp2_with fail
  go_ret2
  exact ⟨rfl, rfl⟩
set_option maxHeartbeats 1000000 in
theorem sign_walk_hit (R T o c n : Nat) (k : UInt8) (sg s : ByteArray) (w : World) (Q : World → Prop) (hR : w.cell? ⟨R, 0, none⟩ = some (.slice (some ⟨T, o, none⟩) (n+1) c))
    (hT0 : w.cell? ⟨T, o, none⟩ = some (.int .u8 k.toNat)) (hk : k.toNat < 128) (hn : n + 1 ≤ c) (hc : c ≤ 9223372036854775807)
    (H90 : ∀ W, Calls Tryz.prog 90 #[.string sg, .string (bstr [k])] W fun e w' => e = .returned (.bool true) ∧ W = w')
    (H16 : Calls Tryz.prog 16 #[.pointer (some ⟨R, 0, none⟩), .int .u8 0] w fun e w' => e = .returned (.string s) ∧ Q w') :
     Calls Tryz.prog 75 #[.pointer (some ⟨R, 0, none⟩), .string sg] w fun e w' => e = .returned (.tuple #[.string s, .bool true]) ∧ Q w' := by
  have hn0 : ((n : Int) + 1 == 0) = false := beq_eq_false_iff_ne.2 (by omega)
  have hcv := fun W => run_byte_string k hk W
  have H90' := Lib.hid H90
  have H16' := Lib.hid H16
  clear H90 H16
  go_enter Tryz.func75, Tryz.ntmps75
  go_wp2_with fail
  refine (H90'.out _).mono ?_
  rintro e w' ⟨rfl, rfl⟩
  go_wp2_with fail
  refine H16'.out.mono ?_
  rintro e w' ⟨rfl, hq⟩
  go_wp2_with fail
  go_ret2
  exact ⟨rfl, hq⟩

theorem sign_no {w0 w : World} {R T : Nat} {wd : Int} {sg : Bs} {r : RS} (hr : Rd w0 w R T wd r) (h : Sp.sign sg r = none) :
    Calls Tryz.prog 75 #[.pointer (some ⟨R, 0, none⟩), .string (bstr sg)] w fun e w' => e = .returned (.tuple #[.string ⟨#[]⟩, .bool false]) ∧ w = w' := by
  obtain ⟨v, dp, hh, ht⟩ := hr.at_
  have hok := hr.ok
  have hc := cell_heap hh 0
  obtain ⟨ts, st⟩ := r
  cases ts with
  | nil =>
    obtain ⟨A, c, rfl, _⟩ := ht.nil
    exact sign_walk_empty R c _ A w hc
  | cons t l =>
    obtain ⟨o, c, rfl, h1, h2, h3, h4, h5⟩ := ht.cons
    simp only [Sp.sign] at h
    split at h
    · cases h
    · rename_i hb
      refine sign_walk_other R T o c l.length t.kind _ w hc h3 (hok.2 t (by simp)).1 h1 h2 (fun W => ?_)
      have := contains_byte sg t.kind W
      rwa [Bool.eq_false_iff.2 hb] at this
theorem sign_ok {w0 w : World} {R T : Nat} {wd : Int} {sg s : Bs} {r r' : RS} (hr : Rd w0 w R T wd r) (h : Sp.sign sg r = some (s, r')) :
    Calls Tryz.prog 75 #[.pointer (some ⟨R, 0, none⟩), .string (bstr sg)] w fun e w' => e = .returned (.tuple #[.string (bstr s), .bool true]) ∧ w.grownBy w' (some R) ∧ Rd w0 w' R T wd r' := by
  have hr0 := hr
  obtain ⟨v, dp, hh, ht⟩ := hr.at_
  have hok := hr.ok
  have hc := cell_heap hh 0
  obtain ⟨ts, st⟩ := r
  cases ts with
  | nil => simp [Sp.sign] at h
  | cons t l =>
    obtain ⟨o, c, rfl, h1, h2, h3, h4, h5⟩ := ht.cons
    simp only [Sp.sign] at h
    split at h
    · rename_i hb
      simp only [Option.some.injEq, Prod.mk.injEq] at h
      obtain ⟨rfl, rfl⟩ := h
      refine sign_walk_hit R T o c l.length t.kind _ _ w (fun w' => w.grownBy w' (some R) ∧ Rd w0 w' R T wd ⟨l, st⟩) hc h3 (hok.2 t (by simp)).1 h1 h2 (fun W => ?_) (next_ok (k := 0) hr0 rfl (by simp [Sp.next]))
      have := contains_byte sg t.kind W
      rwa [hb] at this
    · cases h
theorem sign_len {sg s : Bs} {r r' : RS} (h : Sp.sign sg r = some (s, r')) : r'.ts.length < r.ts.length := by
  obtain ⟨ts, st⟩ := r
  cases ts with
  | nil => simp [Sp.sign] at h
  | cons t l =>
    simp only [Sp.sign] at h
    split at h
    · simp only [Option.some.injEq, Prod.mk.injEq] at h
      obtain ⟨rfl, rfl⟩ := h
      simp
    · cases h
theorem next_len {k : UInt8} {s : Bs} {r r' : RS} (h : Sp.next k r = some (s, r')) : r'.ts.length < r.ts.length := by
  obtain ⟨ts, st⟩ := r
  cases ts with
  | nil => simp [Sp.next] at h
  | cons t l =>
    simp only [Sp.next] at h
    split at h
    · cases h
    · simp only [Option.some.injEq, Prod.mk.injEq] at h
      obtain ⟨rfl, rfl⟩ := h
      simp
end Go.Proofs.YtdkhedefcmjjgaaGreatDoor
