/- A reader's sign, walked: the next word, if it is one of some signs.
Conditions: the reader lies behind its pointer as the words of Mem say. -/
import Derived.Test.YtdkhedefcmjjgaaGreatDoorMSpec
import Derived.Test.YtdkhedefcmjjgaaGreatDoorMShelf
import Derived.Lib.IndexAny
namespace Go.Proofs.YtdkhedefcmjjgaaGreatDoor
open Go.RowKit Sp
set_option linter.unusedVariables false
theorem und9 : Tryz.prog.underlying 9 = some .string := by kernel_rfl
theorem encode_byte (k : UInt8) (hk : k.toNat < 128) : Utf8.encode (k.toNat : Int) = bstr [k] := by
  unfold Utf8.encode
  have hv : Utf8.valid (k.toNat : Int) = true := by simp [Utf8.valid]; omega
  simp only [hv, if_true, Int.toNat_natCast, hk]
  simp [bstr]
theorem run_byte_string (k : UInt8) (hk : k.toNat < 128) (w : World) : (convert 5 9 (.int .u8 (k.toNat : Int))).run Tryz.prog w = .ok (.string (bstr [k])) w := by
  rw [run_convert_int_string w 5 9 .u8 _ (by kernel_rfl) und9, encode_byte k hk]
theorem contains_byte (sg : Bs) (k : UInt8) (W : World) : Calls Tryz.prog 90 #[.string (bstr sg), .string (bstr [k])] W fun e w' => e = .returned (.bool (sg.contains k)) ∧ W = w' := by
  refine (Tryz.strings_Contains_one (bstr sg) k W).mono ?_
  rintro e w' ⟨rfl, rfl⟩
  exact ⟨by rw [Lib.contains_iff_indexByte, bstr_data], rfl⟩
set_option maxHeartbeats 1000000 in
theorem sign_walk_empty (R c : Nat) (sg : ByteArray) (A : Option Addr) (w : World) (hR : w.cell? ⟨R, 0, none⟩ = some (.slice A 0 c)) :
     Calls Tryz.prog 75 #[.pointer (some ⟨R, 0, none⟩), .string sg] w fun e w' => e = .returned (.tuple #[.string ⟨#[]⟩, .bool false]) ∧ w = w' := by
  go_enter Tryz.func75, Tryz.ntmps75
  go_wp2_with fail
  go_ret2
  exact ⟨rfl, rfl⟩
set_option maxHeartbeats 1000000 in
theorem sign_walk_other (R T o c n : Nat) (k : UInt8) (sg : ByteArray) (w : World) (hR : w.cell? ⟨R, 0, none⟩ = some (.slice (some ⟨T, o, none⟩) (n+1) c))
    (hT0 : w.cell? ⟨T, o, none⟩ = some (.int .u8 k.toNat)) (hk : k.toNat < 128) (hn : n + 1 ≤ c) (hc : c ≤ 9223372036854775807)
    (H90 : ∀ W, Calls Tryz.prog 90 #[.string sg, .string (bstr [k])] W fun e w' => e = .returned (.bool false) ∧ W = w') :
     Calls Tryz.prog 75 #[.pointer (some ⟨R, 0, none⟩), .string sg] w fun e w' => e = .returned (.tuple #[.string ⟨#[]⟩, .bool false]) ∧ w = w' := by
  have hn0 : ((n : Int) + 1 == 0) = false := beq_eq_false_iff_ne.2 (by omega)
  have hcv := fun W => run_byte_string k hk W
  have H90' := Lib.hid H90
  clear H90
  go_enter Tryz.func75, Tryz.ntmps75
  go_wp2_with fail
  refine (H90'.out _).mono ?_
  rintro e w' ⟨rfl, rfl⟩
  go_wp2_with fail
  go_ret2
  exact ⟨rfl, rfl⟩
set_option maxHeartbeats 1000000 in
theorem sign_walk_hit (R T o c n : Nat) (k : UInt8) (sg s : ByteArray) (w : World) (Q : World → Prop) (hR : w.cell? ⟨R, 0, none⟩ = some (.slice (some ⟨T, o, none⟩) (n+1) c))
    (hT0 : w.cell? ⟨T, o, none⟩ = some (.int .u8 k.toNat)) (hk : k.toNat < 128) (hn : n + 1 ≤ c) (hc : c ≤ 9223372036854775807)
    (H90 : ∀ W, Calls Tryz.prog 90 #[.string sg, .string (bstr [k])] W fun e w' => e = .returned (.bool true) ∧ W = w')
    (H16 : Calls Tryz.prog 16 #[.pointer (some ⟨R, 0, none⟩), .int .u8 0] w fun e w' => e = .returned (.string s) ∧ Q w') :
     Calls Tryz.prog 75 #[.pointer (some ⟨R, 0, none⟩), .string sg] w fun e w' => e = .returned (.tuple #[.string s, .bool true]) ∧ Q w' := by
  have hn0 : ((n : Int) + 1 == 0) = false := beq_eq_false_iff_ne.2 (by omega)
  have hcv := fun W => run_byte_string k hk W
  have H90' := Lib.hid H90
  have H16' := Lib.hid H16
  clear H90 H16
  go_enter Tryz.func75, Tryz.ntmps75
  go_wp2_with fail
  refine (H90'.out _).mono ?_
  rintro e w' ⟨rfl, rfl⟩
  go_wp2_with fail
  refine H16'.out.mono ?_
  rintro e w' ⟨rfl, hq⟩
  go_wp2_with fail
  go_ret2
  exact ⟨rfl, hq⟩

theorem sign_no {w0 w : World} {R T : Nat} {wd : Int} {sg : Bs} {r : RS} (hr : Rd w0 w R T wd r) (h : Sp.sign sg r = none) :
    Calls Tryz.prog 75 #[.pointer (some ⟨R, 0, none⟩), .string (bstr sg)] w fun e w' => e = .returned (.tuple #[.string ⟨#[]⟩, .bool false]) ∧ w = w' := by
  obtain ⟨v, dp, hh, ht⟩ := hr.at_
  have hok := hr.ok
  have hc := cell_heap hh 0
  obtain ⟨ts, st⟩ := r
  cases ts with
  | nil =>
    obtain ⟨A, c, rfl, _⟩ := ht.nil
    exact sign_walk_empty R c _ A w hc
  | cons t l =>
    obtain ⟨o, c, rfl, h1, h2, h3, h4, h5⟩ := ht.cons
    simp only [Sp.sign] at h
    split at h
    · cases h
    · rename_i hb
      refine sign_walk_other R T o c l.length t.kind _ w hc h3 (hok.2 t (by simp)).1 h1 h2 (fun W => ?_)
      have := contains_byte sg t.kind W
      rwa [Bool.eq_false_iff.2 hb] at this
theorem sign_ok {w0 w : World} {R T : Nat} {wd : Int} {sg s : Bs} {r r' : RS} (hr : Rd w0 w R T wd r) (h : Sp.sign sg r = some (s, r')) :
    Calls Tryz.prog 75 #[.pointer (some ⟨R, 0, none⟩), .string (bstr sg)] w fun e w' => e = .returned (.tuple #[.string (bstr s), .bool true]) ∧ w.grownBy w' (some R) ∧ Rd w0 w' R T wd r' := by
  have hr0 := hr
  obtain ⟨v, dp, hh, ht⟩ := hr.at_
  have hok := hr.ok
  have hc := cell_heap hh 0
  obtain ⟨ts, st⟩ := r
  cases ts with
  | nil => simp [Sp.sign] at h
  | cons t l =>
    obtain ⟨o, c, rfl, h1, h2, h3, h4, h5⟩ := ht.cons
    simp only [Sp.sign] at h
    split at h
    · rename_i hb
      simp only [Option.some.injEq, Prod.mk.injEq] at h
      obtain ⟨rfl, rfl⟩ := h
      refine sign_walk_hit R T o c l.length t.kind _ _ w (fun w' => w.grownBy w' (some R) ∧ Rd w0 w' R T wd ⟨l, st⟩) hc h3 (hok.2 t (by simp)).1 h1 h2 (fun W => ?_) (next_ok (k := 0) hr0 rfl (by simp [Sp.next]))
      have := contains_byte sg t.kind W
      rwa [hb] at this
    · cases h
theorem sign_len {sg s : Bs} {r r' : RS} (h : Sp.sign sg r = some (s, r')) : r'.ts.length < r.ts.length := by
  obtain ⟨ts, st⟩ := r
  cases ts with
  | nil => simp [Sp.sign] at h
  | cons t l =>
    simp only [Sp.sign] at h
    split at h
    · simp only [Option.some.injEq, Prod.mk.injEq] at h
      obtain ⟨rfl, rfl⟩ := h
      simp
    · cases h
theorem next_len {k : UInt8} {s : Bs} {r r' : RS} (h : Sp.next k r = some (s, r')) : r'.ts.length < r.ts.length := by
  obtain ⟨ts, st⟩ := r
  cases ts with
  | nil => simp [Sp.next] at h
  | cons t l =>
    simp only [Sp.next] at h
    split at h
    · cases h
    · simp only [Option.some.injEq, Prod.mk.injEq] at h
      obtain ⟨rfl, rfl⟩ := h
      simp
end Go.Proofs.YtdkhedefcmjjgaaGreatDoor
/- Which words are functions, which are reserved: walked, a word at a time.
Conditions: none. -/
namespace Go.Proofs.YtdkhedefcmjjgaaGreatDoor
open Go.RowKit Sp
set_option linter.unusedVariables false
def fnT (o : Option FnS) : Int := match o with | some f => f.takes | none => 0
def fnW (o : Option FnS) : Bool := match o with | some f => f.whole | none => false
def fnN (o : Option FnS) : Bool := match o with | some f => f.number | none => false
def fnV (o : Option FnS) : Value := .tuple #[.agg #[.int .i64 (fnT o), .bool (fnW o), .bool (fnN o)], .bool o.isSome]
theorem beq_false_of {s : ByteArray} {l : Bs} (h : ¬ s.data.toList = l) : (s.toList == l) = false := by
  rw [ByteArray.toList_eq]; exact beq_eq_false_iff_ne.2 h
theorem known_0 (w : World) : Calls Tryz.prog 50 #[.string ⟨#[114, 101, 108, 117]⟩] w fun e w' => e = .returned (.tuple #[.agg #[.int .i64 1, .bool false, .bool false], .bool true]) ∧ Below w.heap.size w w' := by
  go_enter Tryz.func50, Tryz.ntmps50
  go_wp2
  go_returns
  exact ⟨rfl, by go_grown⟩
theorem known_1 (w : World) : Calls Tryz.prog 50 #[.string ⟨#[97, 98, 115]⟩] w fun e w' => e = .returned (.tuple #[.agg #[.int .i64 1, .bool false, .bool false], .bool true]) ∧ Below w.heap.size w w' := by
  go_enter Tryz.func50, Tryz.ntmps50
  go_wp2
  go_returns
  exact ⟨rfl, by go_grown⟩
theorem known_2 (w : World) : Calls Tryz.prog 50 #[.string ⟨#[101, 120, 112]⟩] w fun e w' => e = .returned (.tuple #[.agg #[.int .i64 1, .bool false, .bool false], .bool true]) ∧ Below w.heap.size w w' := by
  go_enter Tryz.func50, Tryz.ntmps50
  go_wp2
  go_returns
  exact ⟨rfl, by go_grown⟩
theorem known_3 (w : World) : Calls Tryz.prog 50 #[.string ⟨#[108, 111, 103]⟩] w fun e w' => e = .returned (.tuple #[.agg #[.int .i64 1, .bool false, .bool false], .bool true]) ∧ Below w.heap.size w w' := by
  go_enter Tryz.func50, Tryz.ntmps50
  go_wp2
  go_returns
  exact ⟨rfl, by go_grown⟩
theorem known_4 (w : World) : Calls Tryz.prog 50 #[.string ⟨#[116, 97, 110, 104]⟩] w fun e w' => e = .returned (.tuple #[.agg #[.int .i64 1, .bool false, .bool false], .bool true]) ∧ Below w.heap.size w w' := by
  go_enter Tryz.func50, Tryz.ntmps50
  go_wp2
  go_returns
  exact ⟨rfl, by go_grown⟩
theorem known_5 (w : World) : Calls Tryz.prog 50 #[.string ⟨#[115, 105, 103, 109, 111, 105, 100]⟩] w fun e w' => e = .returned (.tuple #[.agg #[.int .i64 1, .bool false, .bool false], .bool true]) ∧ Below w.heap.size w w' := by
  go_enter Tryz.func50, Tryz.ntmps50
  go_wp2
  go_returns
  exact ⟨rfl, by go_grown⟩
theorem known_6 (w : World) : Calls Tryz.prog 50 #[.string ⟨#[115, 111, 102, 116, 112, 108, 117, 115]⟩] w fun e w' => e = .returned (.tuple #[.agg #[.int .i64 1, .bool false, .bool false], .bool true]) ∧ Below w.heap.size w w' := by
  go_enter Tryz.func50, Tryz.ntmps50
  go_wp2
  go_returns
  exact ⟨rfl, by go_grown⟩
theorem known_7 (w : World) : Calls Tryz.prog 50 #[.string ⟨#[115, 113, 114, 116]⟩] w fun e w' => e = .returned (.tuple #[.agg #[.int .i64 1, .bool false, .bool false], .bool true]) ∧ Below w.heap.size w w' := by
  go_enter Tryz.func50, Tryz.ntmps50
  go_wp2
  go_returns
  exact ⟨rfl, by go_grown⟩
theorem known_8 (w : World) : Calls Tryz.prog 50 #[.string ⟨#[116, 117, 114, 110]⟩] w fun e w' => e = .returned (.tuple #[.agg #[.int .i64 1, .bool false, .bool false], .bool true]) ∧ Below w.heap.size w w' := by
  go_enter Tryz.func50, Tryz.ntmps50
  go_wp2
  go_returns
  exact ⟨rfl, by go_grown⟩
theorem known_9 (w : World) : Calls Tryz.prog 50 #[.string ⟨#[115, 117, 109]⟩] w fun e w' => e = .returned (.tuple #[.agg #[.int .i64 1, .bool false, .bool false], .bool true]) ∧ Below w.heap.size w w' := by
  go_enter Tryz.func50, Tryz.ntmps50
  go_wp2
  go_returns
  exact ⟨rfl, by go_grown⟩
theorem known_10 (w : World) : Calls Tryz.prog 50 #[.string ⟨#[115, 117, 109, 114, 111, 119, 115]⟩] w fun e w' => e = .returned (.tuple #[.agg #[.int .i64 1, .bool false, .bool false], .bool true]) ∧ Below w.heap.size w w' := by
  go_enter Tryz.func50, Tryz.ntmps50
  go_wp2
  go_returns
  exact ⟨rfl, by go_grown⟩
theorem known_11 (w : World) : Calls Tryz.prog 50 #[.string ⟨#[115, 117, 109, 99, 111, 108, 115]⟩] w fun e w' => e = .returned (.tuple #[.agg #[.int .i64 1, .bool false, .bool false], .bool true]) ∧ Below w.heap.size w w' := by
  go_enter Tryz.func50, Tryz.ntmps50
  go_wp2
  go_returns
  exact ⟨rfl, by go_grown⟩
theorem known_12 (w : World) : Calls Tryz.prog 50 #[.string ⟨#[109, 101, 97, 110]⟩] w fun e w' => e = .returned (.tuple #[.agg #[.int .i64 1, .bool false, .bool false], .bool true]) ∧ Below w.heap.size w w' := by
  go_enter Tryz.func50, Tryz.ntmps50
  go_wp2
  go_returns
  exact ⟨rfl, by go_grown⟩
theorem known_13 (w : World) : Calls Tryz.prog 50 #[.string ⟨#[103, 114, 101, 97, 116, 101, 115, 116]⟩] w fun e w' => e = .returned (.tuple #[.agg #[.int .i64 1, .bool false, .bool false], .bool true]) ∧ Below w.heap.size w w' := by
  go_enter Tryz.func50, Tryz.ntmps50
  go_wp2
  go_returns
  exact ⟨rfl, by go_grown⟩
theorem known_14 (w : World) : Calls Tryz.prog 50 #[.string ⟨#[115, 111, 102, 116, 109, 97, 120]⟩] w fun e w' => e = .returned (.tuple #[.agg #[.int .i64 1, .bool false, .bool false], .bool true]) ∧ Below w.heap.size w w' := by
  go_enter Tryz.func50, Tryz.ntmps50
  go_wp2
  go_returns
  exact ⟨rfl, by go_grown⟩
theorem known_15 (w : World) : Calls Tryz.prog 50 #[.string ⟨#[108, 111, 103, 115, 111, 102, 116]⟩] w fun e w' => e = .returned (.tuple #[.agg #[.int .i64 1, .bool false, .bool false], .bool true]) ∧ Below w.heap.size w w' := by
  go_enter Tryz.func50, Tryz.ntmps50
  go_wp2
  go_returns
  exact ⟨rfl, by go_grown⟩
theorem known_16 (w : World) : Calls Tryz.prog 50 #[.string ⟨#[119, 105, 100, 101]⟩] w fun e w' => e = .returned (.tuple #[.agg #[.int .i64 1, .bool false, .bool false], .bool true]) ∧ Below w.heap.size w w' := by
  go_enter Tryz.func50, Tryz.ntmps50
  go_wp2
  go_returns
  exact ⟨rfl, by go_grown⟩
theorem known_17 (w : World) : Calls Tryz.prog 50 #[.string ⟨#[110, 97, 114, 114, 111, 119]⟩] w fun e w' => e = .returned (.tuple #[.agg #[.int .i64 1, .bool false, .bool false], .bool true]) ∧ Below w.heap.size w w' := by
  go_enter Tryz.func50, Tryz.ntmps50
  go_wp2
  go_returns
  exact ⟨rfl, by go_grown⟩
theorem known_18 (w : World) : Calls Tryz.prog 50 #[.string ⟨#[102, 111, 114, 109]⟩] w fun e w' => e = .returned (.tuple #[.agg #[.int .i64 3, .bool true, .bool false], .bool true]) ∧ Below w.heap.size w w' := by
  go_enter Tryz.func50, Tryz.ntmps50
  go_wp2
  go_returns
  exact ⟨rfl, by go_grown⟩
theorem known_19 (w : World) : Calls Tryz.prog 50 #[.string ⟨#[99, 117, 116, 99, 111, 108, 115]⟩] w fun e w' => e = .returned (.tuple #[.agg #[.int .i64 3, .bool true, .bool false], .bool true]) ∧ Below w.heap.size w w' := by
  go_enter Tryz.func50, Tryz.ntmps50
  go_wp2
  go_returns
  exact ⟨rfl, by go_grown⟩
theorem known_20 (w : World) : Calls Tryz.prog 50 #[.string ⟨#[99, 117, 116, 114, 111, 119, 115]⟩] w fun e w' => e = .returned (.tuple #[.agg #[.int .i64 3, .bool true, .bool false], .bool true]) ∧ Below w.heap.size w w' := by
  go_enter Tryz.func50, Tryz.ntmps50
  go_wp2
  go_returns
  exact ⟨rfl, by go_grown⟩
theorem known_21 (w : World) : Calls Tryz.prog 50 #[.string ⟨#[119, 105, 110, 100, 111, 119]⟩] w fun e w' => e = .returned (.tuple #[.agg #[.int .i64 3, .bool true, .bool false], .bool true]) ∧ Below w.heap.size w w' := by
  go_enter Tryz.func50, Tryz.ntmps50
  go_wp2
  go_returns
  exact ⟨rfl, by go_grown⟩
theorem known_22 (w : World) : Calls Tryz.prog 50 #[.string ⟨#[103, 108, 117, 101, 99, 111, 108, 115]⟩] w fun e w' => e = .returned (.tuple #[.agg #[.int .i64 (-1), .bool false, .bool false], .bool true]) ∧ Below w.heap.size w w' := by
  go_enter Tryz.func50, Tryz.ntmps50
  go_wp2
  go_returns
  exact ⟨rfl, by go_grown⟩
theorem known_23 (w : World) : Calls Tryz.prog 50 #[.string ⟨#[103, 108, 117, 101, 114, 111, 119, 115]⟩] w fun e w' => e = .returned (.tuple #[.agg #[.int .i64 (-1), .bool false, .bool false], .bool true]) ∧ Below w.heap.size w w' := by
  go_enter Tryz.func50, Tryz.ntmps50
  go_wp2
  go_returns
  exact ⟨rfl, by go_grown⟩
theorem known_24 (w : World) : Calls Tryz.prog 50 #[.string ⟨#[115, 113, 117, 97, 114, 101, 100]⟩] w fun e w' => e = .returned (.tuple #[.agg #[.int .i64 2, .bool false, .bool false], .bool true]) ∧ Below w.heap.size w w' := by
  go_enter Tryz.func50, Tryz.ntmps50
  go_wp2
  go_returns
  exact ⟨rfl, by go_grown⟩
theorem known_25 (w : World) : Calls Tryz.prog 50 #[.string ⟨#[97, 98, 115, 111, 108, 117, 116, 101]⟩] w fun e w' => e = .returned (.tuple #[.agg #[.int .i64 2, .bool false, .bool false], .bool true]) ∧ Below w.heap.size w w' := by
  go_enter Tryz.func50, Tryz.ntmps50
  go_wp2
  go_returns
  exact ⟨rfl, by go_grown⟩
theorem known_26 (w : World) : Calls Tryz.prog 50 #[.string ⟨#[99, 114, 111, 115, 115]⟩] w fun e w' => e = .returned (.tuple #[.agg #[.int .i64 2, .bool false, .bool false], .bool true]) ∧ Below w.heap.size w w' := by
  go_enter Tryz.func50, Tryz.ntmps50
  go_wp2
  go_returns
  exact ⟨rfl, by go_grown⟩
theorem known_27 (w : World) : Calls Tryz.prog 50 #[.string ⟨#[108, 111, 103, 105, 115, 116, 105, 99]⟩] w fun e w' => e = .returned (.tuple #[.agg #[.int .i64 2, .bool false, .bool false], .bool true]) ∧ Below w.heap.size w w' := by
  go_enter Tryz.func50, Tryz.ntmps50
  go_wp2
  go_returns
  exact ⟨rfl, by go_grown⟩
theorem known_28 (w : World) : Calls Tryz.prog 50 #[.string ⟨#[104, 105, 110, 103, 101]⟩] w fun e w' => e = .returned (.tuple #[.agg #[.int .i64 2, .bool false, .bool false], .bool true]) ∧ Below w.heap.size w w' := by
  go_enter Tryz.func50, Tryz.ntmps50
  go_wp2
  go_returns
  exact ⟨rfl, by go_grown⟩
theorem known_29 (w : World) : Calls Tryz.prog 50 #[.string ⟨#[100, 101, 110, 115, 101]⟩] w fun e w' => e = .returned (.tuple #[.agg #[.int .i64 3, .bool false, .bool false], .bool true]) ∧ Below w.heap.size w w' := by
  go_enter Tryz.func50, Tryz.ntmps50
  go_wp2
  go_returns
  exact ⟨rfl, by go_grown⟩
theorem known_30 (w : World) : Calls Tryz.prog 50 #[.string ⟨#[104, 117, 98, 101, 114]⟩] w fun e w' => e = .returned (.tuple #[.agg #[.int .i64 3, .bool false, .bool true], .bool true]) ∧ Below w.heap.size w w' := by
  go_enter Tryz.func50, Tryz.ntmps50
  go_wp2
  go_returns
  exact ⟨rfl, by go_grown⟩
set_option maxHeartbeats 1000000 in
theorem known_none (s : ByteArray) (w : World)
    (h0 : (s.toList == [114, 101, 108, 117]) = false)
    (h1 : (s.toList == [97, 98, 115]) = false)
    (h2 : (s.toList == [101, 120, 112]) = false)
    (h3 : (s.toList == [108, 111, 103]) = false)
    (h4 : (s.toList == [116, 97, 110, 104]) = false)
    (h5 : (s.toList == [115, 105, 103, 109, 111, 105, 100]) = false)
    (h6 : (s.toList == [115, 111, 102, 116, 112, 108, 117, 115]) = false)
    (h7 : (s.toList == [115, 113, 114, 116]) = false)
    (h8 : (s.toList == [116, 117, 114, 110]) = false)
    (h9 : (s.toList == [115, 117, 109]) = false)
    (h10 : (s.toList == [115, 117, 109, 114, 111, 119, 115]) = false)
    (h11 : (s.toList == [115, 117, 109, 99, 111, 108, 115]) = false)
    (h12 : (s.toList == [109, 101, 97, 110]) = false)
    (h13 : (s.toList == [103, 114, 101, 97, 116, 101, 115, 116]) = false)
    (h14 : (s.toList == [115, 111, 102, 116, 109, 97, 120]) = false)
    (h15 : (s.toList == [108, 111, 103, 115, 111, 102, 116]) = false)
    (h16 : (s.toList == [119, 105, 100, 101]) = false)
    (h17 : (s.toList == [110, 97, 114, 114, 111, 119]) = false)
    (h18 : (s.toList == [102, 111, 114, 109]) = false)
    (h19 : (s.toList == [99, 117, 116, 99, 111, 108, 115]) = false)
    (h20 : (s.toList == [99, 117, 116, 114, 111, 119, 115]) = false)
    (h21 : (s.toList == [119, 105, 110, 100, 111, 119]) = false)
    (h22 : (s.toList == [103, 108, 117, 101, 99, 111, 108, 115]) = false)
    (h23 : (s.toList == [103, 108, 117, 101, 114, 111, 119, 115]) = false)
    (h24 : (s.toList == [115, 113, 117, 97, 114, 101, 100]) = false)
    (h25 : (s.toList == [97, 98, 115, 111, 108, 117, 116, 101]) = false)
    (h26 : (s.toList == [99, 114, 111, 115, 115]) = false)
    (h27 : (s.toList == [108, 111, 103, 105, 115, 116, 105, 99]) = false)
    (h28 : (s.toList == [104, 105, 110, 103, 101]) = false)
    (h29 : (s.toList == [100, 101, 110, 115, 101]) = false)
    (h30 : (s.toList == [104, 117, 98, 101, 114]) = false)
    : Calls Tryz.prog 50 #[.string s] w fun e w' => e = .returned (.tuple #[.agg #[.int .i64 0, .bool false, .bool false], .bool false]) ∧ Below w.heap.size w w' := by
  go_enter Tryz.func50, Tryz.ntmps50
  go_wp2
  go_returns
  exact ⟨rfl, by go_grown⟩
set_option maxHeartbeats 1000000 in
theorem known_any (s : ByteArray) (w : World) : Calls Tryz.prog 50 #[.string s] w fun e w' => e = .returned (fnV (known s.data.toList)) ∧ Below w.heap.size w w' := by
  by_cases h0 : s.data.toList = [114, 101, 108, 117]
  · obtain rfl : s = ⟨#[114, 101, 108, 117]⟩ := eq_bstr h0
    exact known_0 w
  by_cases h1 : s.data.toList = [97, 98, 115]
  · obtain rfl : s = ⟨#[97, 98, 115]⟩ := eq_bstr h1
    exact known_1 w
  by_cases h2 : s.data.toList = [101, 120, 112]
  · obtain rfl : s = ⟨#[101, 120, 112]⟩ := eq_bstr h2
    exact known_2 w
  by_cases h3 : s.data.toList = [108, 111, 103]
  · obtain rfl : s = ⟨#[108, 111, 103]⟩ := eq_bstr h3
    exact known_3 w
  by_cases h4 : s.data.toList = [116, 97, 110, 104]
  · obtain rfl : s = ⟨#[116, 97, 110, 104]⟩ := eq_bstr h4
    exact known_4 w
  by_cases h5 : s.data.toList = [115, 105, 103, 109, 111, 105, 100]
  · obtain rfl : s = ⟨#[115, 105, 103, 109, 111, 105, 100]⟩ := eq_bstr h5
    exact known_5 w
  by_cases h6 : s.data.toList = [115, 111, 102, 116, 112, 108, 117, 115]
  · obtain rfl : s = ⟨#[115, 111, 102, 116, 112, 108, 117, 115]⟩ := eq_bstr h6
    exact known_6 w
  by_cases h7 : s.data.toList = [115, 113, 114, 116]
  · obtain rfl : s = ⟨#[115, 113, 114, 116]⟩ := eq_bstr h7
    exact known_7 w
  by_cases h8 : s.data.toList = [116, 117, 114, 110]
  · obtain rfl : s = ⟨#[116, 117, 114, 110]⟩ := eq_bstr h8
    exact known_8 w
  by_cases h9 : s.data.toList = [115, 117, 109]
  · obtain rfl : s = ⟨#[115, 117, 109]⟩ := eq_bstr h9
    exact known_9 w
  by_cases h10 : s.data.toList = [115, 117, 109, 114, 111, 119, 115]
  · obtain rfl : s = ⟨#[115, 117, 109, 114, 111, 119, 115]⟩ := eq_bstr h10
    exact known_10 w
  by_cases h11 : s.data.toList = [115, 117, 109, 99, 111, 108, 115]
  · obtain rfl : s = ⟨#[115, 117, 109, 99, 111, 108, 115]⟩ := eq_bstr h11
    exact known_11 w
  by_cases h12 : s.data.toList = [109, 101, 97, 110]
  · obtain rfl : s = ⟨#[109, 101, 97, 110]⟩ := eq_bstr h12
    exact known_12 w
  by_cases h13 : s.data.toList = [103, 114, 101, 97, 116, 101, 115, 116]
  · obtain rfl : s = ⟨#[103, 114, 101, 97, 116, 101, 115, 116]⟩ := eq_bstr h13
    exact known_13 w
  by_cases h14 : s.data.toList = [115, 111, 102, 116, 109, 97, 120]
  · obtain rfl : s = ⟨#[115, 111, 102, 116, 109, 97, 120]⟩ := eq_bstr h14
    exact known_14 w
  by_cases h15 : s.data.toList = [108, 111, 103, 115, 111, 102, 116]
  · obtain rfl : s = ⟨#[108, 111, 103, 115, 111, 102, 116]⟩ := eq_bstr h15
    exact known_15 w
  by_cases h16 : s.data.toList = [119, 105, 100, 101]
  · obtain rfl : s = ⟨#[119, 105, 100, 101]⟩ := eq_bstr h16
    exact known_16 w
  by_cases h17 : s.data.toList = [110, 97, 114, 114, 111, 119]
  · obtain rfl : s = ⟨#[110, 97, 114, 114, 111, 119]⟩ := eq_bstr h17
    exact known_17 w
  by_cases h18 : s.data.toList = [102, 111, 114, 109]
  · obtain rfl : s = ⟨#[102, 111, 114, 109]⟩ := eq_bstr h18
    exact known_18 w
  by_cases h19 : s.data.toList = [99, 117, 116, 99, 111, 108, 115]
  · obtain rfl : s = ⟨#[99, 117, 116, 99, 111, 108, 115]⟩ := eq_bstr h19
    exact known_19 w
  by_cases h20 : s.data.toList = [99, 117, 116, 114, 111, 119, 115]
  · obtain rfl : s = ⟨#[99, 117, 116, 114, 111, 119, 115]⟩ := eq_bstr h20
    exact known_20 w
  by_cases h21 : s.data.toList = [119, 105, 110, 100, 111, 119]
  · obtain rfl : s = ⟨#[119, 105, 110, 100, 111, 119]⟩ := eq_bstr h21
    exact known_21 w
  by_cases h22 : s.data.toList = [103, 108, 117, 101, 99, 111, 108, 115]
  · obtain rfl : s = ⟨#[103, 108, 117, 101, 99, 111, 108, 115]⟩ := eq_bstr h22
    exact known_22 w
  by_cases h23 : s.data.toList = [103, 108, 117, 101, 114, 111, 119, 115]
  · obtain rfl : s = ⟨#[103, 108, 117, 101, 114, 111, 119, 115]⟩ := eq_bstr h23
    exact known_23 w
  by_cases h24 : s.data.toList = [115, 113, 117, 97, 114, 101, 100]
  · obtain rfl : s = ⟨#[115, 113, 117, 97, 114, 101, 100]⟩ := eq_bstr h24
    exact known_24 w
  by_cases h25 : s.data.toList = [97, 98, 115, 111, 108, 117, 116, 101]
  · obtain rfl : s = ⟨#[97, 98, 115, 111, 108, 117, 116, 101]⟩ := eq_bstr h25
    exact known_25 w
  by_cases h26 : s.data.toList = [99, 114, 111, 115, 115]
  · obtain rfl : s = ⟨#[99, 114, 111, 115, 115]⟩ := eq_bstr h26
    exact known_26 w
  by_cases h27 : s.data.toList = [108, 111, 103, 105, 115, 116, 105, 99]
  · obtain rfl : s = ⟨#[108, 111, 103, 105, 115, 116, 105, 99]⟩ := eq_bstr h27
    exact known_27 w
  by_cases h28 : s.data.toList = [104, 105, 110, 103, 101]
  · obtain rfl : s = ⟨#[104, 105, 110, 103, 101]⟩ := eq_bstr h28
    exact known_28 w
  by_cases h29 : s.data.toList = [100, 101, 110, 115, 101]
  · obtain rfl : s = ⟨#[100, 101, 110, 115, 101]⟩ := eq_bstr h29
    exact known_29 w
  by_cases h30 : s.data.toList = [104, 117, 98, 101, 114]
  · obtain rfl : s = ⟨#[104, 117, 98, 101, 114]⟩ := eq_bstr h30
    exact known_30 w
  have hk : known s.data.toList = none := by
    unfold known
    rw [Option.map_eq_none_iff, List.find?_eq_none]
    intro p hp
    simp only [fns, List.mem_cons, List.mem_nil_iff, or_false] at hp
    rcases hp with rfl | rfl | rfl | rfl | rfl | rfl | rfl | rfl | rfl | rfl | rfl | rfl | rfl | rfl | rfl | rfl | rfl | rfl | rfl | rfl | rfl | rfl | rfl | rfl | rfl | rfl | rfl | rfl | rfl | rfl | rfl
    all_goals (intro e; have e := eq_of_beq e; exact absurd e.symm (by assumption))
  rw [hk]
  exact known_none s w (beq_false_of h0) (beq_false_of h1) (beq_false_of h2) (beq_false_of h3) (beq_false_of h4) (beq_false_of h5) (beq_false_of h6) (beq_false_of h7) (beq_false_of h8) (beq_false_of h9) (beq_false_of h10) (beq_false_of h11) (beq_false_of h12) (beq_false_of h13) (beq_false_of h14) (beq_false_of h15) (beq_false_of h16) (beq_false_of h17) (beq_false_of h18) (beq_false_of h19) (beq_false_of h20) (beq_false_of h21) (beq_false_of h22) (beq_false_of h23) (beq_false_of h24) (beq_false_of h25) (beq_false_of h26) (beq_false_of h27) (beq_false_of h28) (beq_false_of h29) (beq_false_of h30)
theorem reserved_0 (w : World) : Calls Tryz.prog 51 #[.string ⟨#[109, 111, 100, 101, 108]⟩] w fun e w' => e = .returned (.bool true) ∧ w = w' := by
  go_enter Tryz.func51, Tryz.ntmps51
  go_wp2
  go_ret
  exact ⟨rfl, rfl⟩
theorem reserved_1 (w : World) : Calls Tryz.prog 51 #[.string ⟨#[119, 105, 100, 116, 104]⟩] w fun e w' => e = .returned (.bool true) ∧ w = w' := by
  go_enter Tryz.func51, Tryz.ntmps51
  go_wp2
  go_ret
  exact ⟨rfl, rfl⟩
theorem reserved_2 (w : World) : Calls Tryz.prog 51 #[.string ⟨#[105, 110, 112, 117, 116]⟩] w fun e w' => e = .returned (.bool true) ∧ w = w' := by
  go_enter Tryz.func51, Tryz.ntmps51
  go_wp2
  go_ret
  exact ⟨rfl, rfl⟩
theorem reserved_3 (w : World) : Calls Tryz.prog 51 #[.string ⟨#[108, 97, 98, 101, 108]⟩] w fun e w' => e = .returned (.bool true) ∧ w = w' := by
  go_enter Tryz.func51, Tryz.ntmps51
  go_wp2
  go_ret
  exact ⟨rfl, rfl⟩
theorem reserved_4 (w : World) : Calls Tryz.prog 51 #[.string ⟨#[112, 97, 114, 97, 109]⟩] w fun e w' => e = .returned (.bool true) ∧ w = w' := by
  go_enter Tryz.func51, Tryz.ntmps51
  go_wp2
  go_ret
  exact ⟨rfl, rfl⟩
theorem reserved_5 (w : World) : Calls Tryz.prog 51 #[.string ⟨#[108, 101, 116]⟩] w fun e w' => e = .returned (.bool true) ∧ w = w' := by
  go_enter Tryz.func51, Tryz.ntmps51
  go_wp2
  go_ret
  exact ⟨rfl, rfl⟩
theorem reserved_6 (w : World) : Calls Tryz.prog 51 #[.string ⟨#[111, 117, 116]⟩] w fun e w' => e = .returned (.bool true) ∧ w = w' := by
  go_enter Tryz.func51, Tryz.ntmps51
  go_wp2
  go_ret
  exact ⟨rfl, rfl⟩
theorem reserved_7 (w : World) : Calls Tryz.prog 51 #[.string ⟨#[108, 111, 115, 115]⟩] w fun e w' => e = .returned (.bool true) ∧ w = w' := by
  go_enter Tryz.func51, Tryz.ntmps51
  go_wp2
  go_ret
  exact ⟨rfl, rfl⟩
theorem reserved_8 (w : World) : Calls Tryz.prog 51 #[.string ⟨#[122, 101, 114, 111]⟩] w fun e w' => e = .returned (.bool true) ∧ w = w' := by
  go_enter Tryz.func51, Tryz.ntmps51
  go_wp2
  go_ret
  exact ⟨rfl, rfl⟩
theorem reserved_9 (w : World) : Calls Tryz.prog 51 #[.string ⟨#[99, 111, 110, 115, 116]⟩] w fun e w' => e = .returned (.bool true) ∧ w = w' := by
  go_enter Tryz.func51, Tryz.ntmps51
  go_wp2
  go_ret
  exact ⟨rfl, rfl⟩
theorem reserved_10 (w : World) : Calls Tryz.prog 51 #[.string ⟨#[117, 110, 105, 102, 111, 114, 109]⟩] w fun e w' => e = .returned (.bool true) ∧ w = w' := by
  go_enter Tryz.func51, Tryz.ntmps51
  go_wp2
  go_ret
  exact ⟨rfl, rfl⟩
theorem reserved_11 (w : World) : Calls Tryz.prog 51 #[.string ⟨#[103, 108, 111, 114, 111, 116]⟩] w fun e w' => e = .returned (.bool true) ∧ w = w' := by
  go_enter Tryz.func51, Tryz.ntmps51
  go_wp2
  go_ret
  exact ⟨rfl, rfl⟩
theorem reserved_12 (w : World) : Calls Tryz.prog 51 #[.string ⟨#[104, 101]⟩] w fun e w' => e = .returned (.bool true) ∧ w = w' := by
  go_enter Tryz.func51, Tryz.ntmps51
  go_wp2
  go_ret
  exact ⟨rfl, rfl⟩
theorem reserved_13 (w : World) : Calls Tryz.prog 51 #[.string ⟨#[110, 111, 114, 109, 97, 108]⟩] w fun e w' => e = .returned (.bool true) ∧ w = w' := by
  go_enter Tryz.func51, Tryz.ntmps51
  go_wp2
  go_ret
  exact ⟨rfl, rfl⟩
theorem reserved_14 (w : World) : Calls Tryz.prog 51 #[.string ⟨#[110, 101, 103]⟩] w fun e w' => e = .returned (.bool true) ∧ w = w' := by
  go_enter Tryz.func51, Tryz.ntmps51
  go_wp2
  go_ret
  exact ⟨rfl, rfl⟩
set_option maxHeartbeats 1000000 in
theorem reserved_none (s : ByteArray) (w : World)
    (h0 : (s.toList == [109, 111, 100, 101, 108]) = false)
    (h1 : (s.toList == [119, 105, 100, 116, 104]) = false)
    (h2 : (s.toList == [105, 110, 112, 117, 116]) = false)
    (h3 : (s.toList == [108, 97, 98, 101, 108]) = false)
    (h4 : (s.toList == [112, 97, 114, 97, 109]) = false)
    (h5 : (s.toList == [108, 101, 116]) = false)
    (h6 : (s.toList == [111, 117, 116]) = false)
    (h7 : (s.toList == [108, 111, 115, 115]) = false)
    (h8 : (s.toList == [122, 101, 114, 111]) = false)
    (h9 : (s.toList == [99, 111, 110, 115, 116]) = false)
    (h10 : (s.toList == [117, 110, 105, 102, 111, 114, 109]) = false)
    (h11 : (s.toList == [103, 108, 111, 114, 111, 116]) = false)
    (h12 : (s.toList == [104, 101]) = false)
    (h13 : (s.toList == [110, 111, 114, 109, 97, 108]) = false)
    (h14 : (s.toList == [110, 101, 103]) = false)
    : Calls Tryz.prog 51 #[.string s] w fun e w' => e = .returned (.bool false) ∧ w = w' := by
  go_enter Tryz.func51, Tryz.ntmps51
  go_wp2
  go_ret
  exact ⟨rfl, rfl⟩
set_option maxHeartbeats 1000000 in
theorem reserved_any (s : ByteArray) (w : World) : Calls Tryz.prog 51 #[.string s] w fun e w' => e = .returned (.bool (reserved s.data.toList)) ∧ w = w' := by
  by_cases h0 : s.data.toList = [109, 111, 100, 101, 108]
  · obtain rfl : s = ⟨#[109, 111, 100, 101, 108]⟩ := eq_bstr h0
    exact reserved_0 w
  by_cases h1 : s.data.toList = [119, 105, 100, 116, 104]
  · obtain rfl : s = ⟨#[119, 105, 100, 116, 104]⟩ := eq_bstr h1
    exact reserved_1 w
  by_cases h2 : s.data.toList = [105, 110, 112, 117, 116]
  · obtain rfl : s = ⟨#[105, 110, 112, 117, 116]⟩ := eq_bstr h2
    exact reserved_2 w
  by_cases h3 : s.data.toList = [108, 97, 98, 101, 108]
  · obtain rfl : s = ⟨#[108, 97, 98, 101, 108]⟩ := eq_bstr h3
    exact reserved_3 w
  by_cases h4 : s.data.toList = [112, 97, 114, 97, 109]
  · obtain rfl : s = ⟨#[112, 97, 114, 97, 109]⟩ := eq_bstr h4
    exact reserved_4 w
  by_cases h5 : s.data.toList = [108, 101, 116]
  · obtain rfl : s = ⟨#[108, 101, 116]⟩ := eq_bstr h5
    exact reserved_5 w
  by_cases h6 : s.data.toList = [111, 117, 116]
  · obtain rfl : s = ⟨#[111, 117, 116]⟩ := eq_bstr h6
    exact reserved_6 w
  by_cases h7 : s.data.toList = [108, 111, 115, 115]
  · obtain rfl : s = ⟨#[108, 111, 115, 115]⟩ := eq_bstr h7
    exact reserved_7 w
  by_cases h8 : s.data.toList = [122, 101, 114, 111]
  · obtain rfl : s = ⟨#[122, 101, 114, 111]⟩ := eq_bstr h8
    exact reserved_8 w
  by_cases h9 : s.data.toList = [99, 111, 110, 115, 116]
  · obtain rfl : s = ⟨#[99, 111, 110, 115, 116]⟩ := eq_bstr h9
    exact reserved_9 w
  by_cases h10 : s.data.toList = [117, 110, 105, 102, 111, 114, 109]
  · obtain rfl : s = ⟨#[117, 110, 105, 102, 111, 114, 109]⟩ := eq_bstr h10
    exact reserved_10 w
  by_cases h11 : s.data.toList = [103, 108, 111, 114, 111, 116]
  · obtain rfl : s = ⟨#[103, 108, 111, 114, 111, 116]⟩ := eq_bstr h11
    exact reserved_11 w
  by_cases h12 : s.data.toList = [104, 101]
  · obtain rfl : s = ⟨#[104, 101]⟩ := eq_bstr h12
    exact reserved_12 w
  by_cases h13 : s.data.toList = [110, 111, 114, 109, 97, 108]
  · obtain rfl : s = ⟨#[110, 111, 114, 109, 97, 108]⟩ := eq_bstr h13
    exact reserved_13 w
  by_cases h14 : s.data.toList = [110, 101, 103]
  · obtain rfl : s = ⟨#[110, 101, 103]⟩ := eq_bstr h14
    exact reserved_14 w
  have hk : reserved s.data.toList = false := by
    unfold reserved
    rw [Bool.eq_false_iff]
    intro e
    rw [List.contains_iff_mem] at e
    simp only [reservedWords, List.mem_cons, List.mem_nil_iff, or_false] at e
    rcases e with e | e | e | e | e | e | e | e | e | e | e | e | e | e | e
    all_goals exact absurd e (by assumption)
  rw [hk]
  exact reserved_none s w (beq_false_of h0) (beq_false_of h1) (beq_false_of h2) (beq_false_of h3) (beq_false_of h4) (beq_false_of h5) (beq_false_of h6) (beq_false_of h7) (beq_false_of h8) (beq_false_of h9) (beq_false_of h10) (beq_false_of h11) (beq_false_of h12) (beq_false_of h13) (beq_false_of h14)
end Go.Proofs.YtdkhedefcmjjgaaGreatDoor
