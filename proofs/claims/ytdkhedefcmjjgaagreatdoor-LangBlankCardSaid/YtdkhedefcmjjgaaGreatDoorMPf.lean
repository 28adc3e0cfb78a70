/- ParseFloat, walked, at a decimal number's text.
Conditions: the text has the form, and at most 40 bytes; the width is 32 or 64. -/
import Derived.Test.YtdkhedefcmjjgaaGreatDoorMAtD
import Derived.Test.YtdkhedefcmjjgaaGreatDoorMFpK
import Derived.LaidEql
import Derived.Shelf.Strings.OnBuilder
import Derived.Shelf.LaysM
import Derived.Shelf.LaysC
import Derived.Test.YtdkhedefcmjjgaaGreatDoorProg
namespace Go.Proofs.YtdkhedefcmjjgaaGreatDoor
open Go.RowKit Sp
set_option linter.unusedSimpArgs false
set_option linter.unusedVariables false
/-- No error, or the one of what is too great. -/
def ErR (er : Value) : Prop := er = .nilIface ∨ er = .iface 100 (.int .i64 1)
/-- What a float64 is that came of a float32. -/
def Back (wd : Int) (v : Nat) : Prop := wd = 32 → ∃ z, floatToFloatBits .f64 v .f32 = some z
theorem conv32 (x y : Nat) (h : floatToFloatBits .f32 x .f64 = some y) (w : World) : (convert 170 165 (.float .f32 x)).run Tryz.prog w = .ok (.float .f64 y) w := by
  have hs : Tryz.prog.underlying 170 = some (.float .f32) := by kernel_rfl
  have hd : Tryz.prog.underlying 165 = some (.float .f64) := by kernel_rfl
  simp [convert, run_underlying hs, run_underlying hd, run_floatToFloat w h]
theorem conv64 (x y : Nat) (h : floatToFloatBits .f64 x .f32 = some y) (w : World) : (convert 165 170 (.float .f64 x)).run Tryz.prog w = .ok (.float .f32 y) w := by
  have hs : Tryz.prog.underlying 165 = some (.float .f64) := by kernel_rfl
  have hd : Tryz.prog.underlying 170 = some (.float .f32) := by kernel_rfl
  simp [convert, run_underlying hs, run_underlying hd, run_floatToFloat w h]
theorem prefix129 (s : ByteArray) (a m : Nat) (F : Form s a m) (hs : s.size ≤ 40) (wd : Int) (hw : wd = 32 ∨ wd = 64) : ∃ (v : Nat) (er : Value), Back wd v ∧ ErR er ∧ ∀ w, Tabs w →
    Calls Tryz.prog 129 #[.string s, .int .i64 wd] w fun e w' => e = .returned (.tuple #[.float .f64 v, .int .i64 s.size, er]) ∧ Below w.heap.size w w' := by
  rcases hw with rfl | rfl
  · obtain ⟨v, er, hfn, her, hc⟩ := atof32_any s a m F hs
    obtain ⟨y, z, h1, h2⟩ := conv_ok v hfn
    refine ⟨y, er, fun _ => ⟨z, h2⟩, her, fun w hT => ?_⟩
    have HC := Lib.hid (hc w hT)
    have hcv := conv32 v y h1
    clear hc hfn h1 h2 her hT F
    go_enter Tryz.func129, Tryz.ntmps129
    go_wp2_with fail
    refine HC.out.mono ?_
    rintro e w1 ⟨rfl, hb1⟩
    have HB1 := Lib.hid hb1
    clear hb1
    go_wp2_with fail
    go_returns
    exact ⟨rfl, HB1.out⟩
  · obtain ⟨v, er, her, hc⟩ := atof64_any s a m F hs
    refine ⟨v, er, (fun h => by cases h), her, fun w hT => ?_⟩
    have HC := Lib.hid (hc w hT)
    clear hc her hT F
    go_enter Tryz.func129, Tryz.ntmps129
    go_wp2_with fail
    refine HC.out.mono ?_
    rintro e w1 ⟨rfl, hb1⟩
    have HB1 := Lib.hid hb1
    clear hb1
    go_wp2_with fail
    go_returns
    exact ⟨rfl, HB1.out⟩
theorem parse119 (s : ByteArray) (a m : Nat) (F : Form s a m) (hs : s.size ≤ 40) (wd : Int) (hw : wd = 32 ∨ wd = 64) : ∃ (v : Nat) (er : Value), Back wd v ∧ ErR er ∧ ∀ w, Tabs w →
    Calls Tryz.prog 119 #[.string s, .int .i64 wd] w fun e w' => e = .returned (.tuple #[.float .f64 v, er]) ∧ Below w.heap.size w w' := by
  obtain ⟨v, er, hbk, her, hc⟩ := prefix129 s a m F hs wd hw
  refine ⟨v, er, hbk, her, fun w hT => ?_⟩
  have HC := Lib.hid (hc w hT)
  clear hc her hT F hbk hw
  go_enter Tryz.func119, Tryz.ntmps119
  go_wp2_with fail
  refine HC.out.mono ?_
  rintro e w1 ⟨rfl, hb1⟩
  have HB1 := Lib.hid hb1
  clear hb1
  go_wp2_with fail
  go_returns
  exact ⟨rfl, HB1.out⟩
/-- An error whose Err is ErrRange. -/
def RangeAt (w w' : World) (s : ByteArray) (wd : Int) (ev : Value) : Prop := ∃ N te p fn, ev = .iface 103 (.pointer (some ⟨N, 0, none⟩)) ∧ w'.heap[N]? = some (.cells #[.string fn, .string s, .iface te p] 124 (0, 0)) ∧ w'.cell? ⟨5, 0, none⟩ = some (.iface te p)
end Go.Proofs.YtdkhedefcmjjgaaGreatDoor
/- strconv.ParseFloat, isRange, bits.Of, bits.Of32, walked.
Conditions: what the inner ParseFloat tells is known. -/
namespace Go.Proofs.YtdkhedefcmjjgaaGreatDoor
open Go.RowKit Sp
set_option linter.unusedSimpArgs false
set_option linter.unusedVariables false
theorem parse108_nil (s : ByteArray) (wd : Int) (v : Nat) (hc : ∀ w, Tabs w → Calls Tryz.prog 119 #[.string s, .int .i64 wd] w fun e w' => e = .returned (.tuple #[.float .f64 v, .nilIface]) ∧ Below w.heap.size w w') (w : World) (hE : Env w) :
    Calls Tryz.prog 108 #[.string s, .int .i64 wd] w fun e w' => e = .returned (.tuple #[.float .f64 v, .nilIface]) ∧ Below w.heap.size w w' := by
  have HC := Lib.hid (hc w hE.tabs)
  clear hc hE
  go_enter Tryz.func108, Tryz.ntmps108
  go_wp2_with fail
  refine HC.out.mono ?_
  rintro e w1 ⟨rfl, hb1⟩
  have HB1 := Lib.hid hb1
  clear hb1
  go_wp2_with fail
  go_returns
  exact ⟨rfl, HB1.out⟩
/-- ParseFloat's own error. -/
def RngP (s : ByteArray) (v : Nat) (w : World) (e : Ending) (w' : World) : Prop :=
  Below w.heap.size w w' ∧ ∃ N fn a, e = .returned (.tuple #[.float .f64 v, .iface 103 (.pointer (some ⟨N, 0, none⟩))]) ∧ w'.heap[N]? = some (.cells #[.string fn, .string s, .iface 145 (.pointer (some a))] 124 (0, 0)) ∧ w'.cell? ⟨5, 0, none⟩ = some (.iface 145 (.pointer (some a)))
theorem parse108_range (s : ByteArray) (hs : s.size ≤ 40) (wd : Int) (v : Nat) (hc : ∀ w, Tabs w → Calls Tryz.prog 119 #[.string s, .int .i64 wd] w fun e w' => e = .returned (.tuple #[.float .f64 v, .iface 100 (.int .i64 1)]) ∧ Below w.heap.size w w') (w : World) (hE : Env w) :
    Calls Tryz.prog 108 #[.string s, .int .i64 wd] w (RngP s v w) := by
  have HC := Lib.hid (hc w hE.tabs)
  have HE := Lib.hid hE
  clear hc hE
  go_enter Tryz.func108, Tryz.ntmps108
  go_wp2_with fail
  refine HC.out.mono ?_
  rintro e w1 ⟨rfl, hb1⟩
  have HB1 := Lib.hid hb1
  clear hb1
  obtain ⟨a, ha⟩ := (HE.out.old HB1.out).rng
  have HA := Lib.hid ha
  clear ha
  go_wp2_with fail
  refine (Tryz.strconv_toError_range _ s 0 wd (.iface 145 (.pointer (some a))) w1 (by omega) HA.out (.inr ⟨_, _, rfl⟩)).mono ?_
  rintro e w2 ⟨N, rfl, hN, hH, hb2⟩
  have HB2 := Lib.hid hb2
  have HH := Lib.hid hH
  clear hb2 hH hN
  go_wp2_with fail
  go_returns
  exact ⟨HB1.out.trans (HB2.out.mono HB1.out.size), N, _, a, rfl, HH.out, cell_old HB2.out HA.out⟩
theorem ta103 (v : Value) (w : World) : (Instr.typeAssert (.iface 103 v) 75 103 true).run Tryz.prog w = .ok (.tuple #[v, .bool true]) w := by kernel_rfl
theorem eq145 (a : Addr) (w : World) : (binOp .eql 75 (.iface 145 (.pointer (some a))) (.iface 145 (.pointer (some a)))).run Tryz.prog w = .ok (.bool true) w :=
  run_eql_iface_ptr_same (i := Tryz.t145) (j := Tryz.t147) w a Tryz.underlying75 Tryz.underlying145 (by kernel_rfl) (by kernel_rfl) (by kernel_rfl)
set_option maxRecDepth 100000 in
theorem isRange_any (N : Nat) (fn s : ByteArray) (a : Addr) (w : World) (hH : w.heap[N]? = some (.cells #[.string fn, .string s, .iface 145 (.pointer (some a))] 124 (0, 0))) (h5 : w.cell? ⟨5, 0, none⟩ = some (.iface 145 (.pointer (some a)))) :
    Calls Tryz.prog 109 #[.iface 103 (.pointer (some ⟨N, 0, none⟩))] w fun e w' => e = .returned (.bool true) ∧ Below w.heap.size w w' := by
  have k2 : w.cell? ⟨N, 2, none⟩ = some (.iface 145 (.pointer (some a))) := cell_heap hH 2
  clear hH
  have hta := ta103
  have heq := eq145 a
  go_enter Tryz.func109, Tryz.ntmps109
  go_wp2_with fail
  go_region
  go_wp2_with fail
  go_returns
  exact ⟨rfl, by first | exact Below.refl _ _ | exact (Below.refl _ _).drew⟩
theorem of64_any (v : Nat) : ∃ b : Int, ∀ w, Calls Tryz.prog 111 #[.float .f64 v] w fun e w' => e = .returned (.int .i64 b) ∧ w' = w := by
  have hb := bits64
  cases h : (FloatKind.f64.format.order v v != some .eq) with
  | true =>
    apply Exists.intro
    case h =>
      intro w
      go_enter Tryz.func111, Tryz.ntmps111
      go_wp2_with fail
      go_returns
      exact ⟨rfl, rfl⟩
  | false =>
    apply Exists.intro
    case h =>
      intro w
      go_enter Tryz.func111, Tryz.ntmps111
      go_wp2_with fail
      go_returns
      exact ⟨rfl, rfl⟩
theorem of32_any (v : Nat) : ∃ b : Int, ∀ w, Calls Tryz.prog 110 #[.float .f32 v] w fun e w' => e = .returned (.int .i64 b) ∧ w' = w := by
  have hb := bits32
  cases h : (FloatKind.f32.format.order v v != some .eq) with
  | true =>
    apply Exists.intro
    case h =>
      intro w
      go_enter Tryz.func110, Tryz.ntmps110
      go_wp2_with fail
      go_returns
      exact ⟨rfl, rfl⟩
  | false =>
    apply Exists.intro
    case h =>
      intro w
      go_enter Tryz.func110, Tryz.ntmps110
      go_wp2_with fail
      go_returns
      exact ⟨rfl, rfl⟩
end Go.Proofs.YtdkhedefcmjjgaaGreatDoor
/- strings.ToUpper's contract at this program, printed by lay-shelf.mjs and lay-plain.mjs.
Conditions: ASCII text. -/
namespace Go.Proofs
open Go.Shelf
def Tryz.lays158_ren : Go.Shelf.Ren := ⟨fun | 158 => 116 | 165 => 123 | 166 => 124 | 167 => 125 | 169 => 126 | 230 => 127 | 203 => 128 | 240 => 130 | 241 => 131 | 197 => 44 | 118 => 132 | 168 => 133 | 270 => 134 | 262 => 135 | 276 => 138 | 277 => 139 | 260 => 59 | 242 => 140 | 313 => 141 | 278 => 155 | 274 => 156 | 275 => 157 | n => n, fun | 9 => 9 | 4 => 4 | 3 => 3 | 5 => 5 | 72 => 182 | 0 => 0 | 76 => 76 | 75 => 75 | 107 => 185 | 70 => 180 | 20 => 20 | 37 => 32 | 127 => 144 | 21 => 21 | 105 => 85 | 164 => 194 | 162 => 200 | 203 => 198 | 119 => 107 | 46 => 98 | 139 => 115 | 138 => 114 | 51 => 116 | 160 => 225 | 208 => 247 | 206 => 245 | 80 => 56 | n => n, fun | 13 => 11 | 3 => 2 | 4 => 3 | n => n⟩
theorem Tryz.lays158 : Go.Proofs.Lays.n158 Tryz.prog Tryz.lays158_ren := {
  mixed := by kernel_rfl
  f118 := Tryz.func132.trans (congrArg some (by kernel_rfl))
  f158 := Tryz.func116.trans (congrArg some (by kernel_rfl))
  f165 := Tryz.func123.trans (congrArg some (by kernel_rfl))
  f166 := Tryz.func124.trans (congrArg some (by kernel_rfl))
  f167 := Tryz.func125.trans (congrArg some (by kernel_rfl))
  f168 := Tryz.func133.trans (congrArg some (by kernel_rfl))
  f169 := Tryz.func126.trans (congrArg some (by kernel_rfl))
  f197 := Tryz.func44.trans (congrArg some (by kernel_rfl))
  f203 := Tryz.func128.trans (congrArg some (by kernel_rfl))
  f230 := Tryz.func127.trans (congrArg some (by kernel_rfl))
  f240 := Tryz.func130.trans (congrArg some (by kernel_rfl))
  f241 := Tryz.func131.trans (congrArg some (by kernel_rfl))
  f242 := Tryz.func140.trans (congrArg some (by kernel_rfl))
  f260 := Tryz.func59.trans (congrArg some (by kernel_rfl))
  f262 := Tryz.func135.trans (congrArg some (by kernel_rfl))
  f270 := Tryz.func134.trans (congrArg some (by kernel_rfl))
  f274 := Tryz.func156.trans (congrArg some (by kernel_rfl))
  f275 := Tryz.func157.trans (congrArg some (by kernel_rfl))
  f276 := Tryz.func138.trans (congrArg some (by kernel_rfl))
  f277 := Tryz.func139.trans (congrArg some (by kernel_rfl))
  f278 := Tryz.func155.trans (congrArg some (by kernel_rfl))
  f313 := Tryz.func141.trans (congrArg some (by kernel_rfl))
  t0 := Tryz.underlying0
  a0 := Tryz.isAgg0
  z0 := Tryz.sizeOf0
  v0 := Tryz.zeroValue0
  t3 := Tryz.underlying3
  a3 := Tryz.isAgg3
  z3 := Tryz.sizeOf3
  v3 := Tryz.zeroValue3
  t4 := Tryz.underlying4
  a4 := Tryz.isAgg4
  z4 := Tryz.sizeOf4
  v4 := Tryz.zeroValue4
  t5 := Tryz.underlying5
  a5 := Tryz.isAgg5
  z5 := Tryz.sizeOf5
  v5 := Tryz.zeroValue5
  t9 := Tryz.underlying9
  a9 := Tryz.isAgg9
  z9 := Tryz.sizeOf9
  v9 := Tryz.zeroValue9
  t20 := Tryz.underlying20
  a20 := Tryz.isAgg20
  z20 := Tryz.sizeOf20
  v20 := Tryz.zeroValue20
  t21 := Tryz.underlying21
  a21 := Tryz.isAgg21
  z21 := Tryz.sizeOf21
  v21 := Tryz.zeroValue21
  t37 := Tryz.underlying32
  a37 := Tryz.isAgg32
  z37 := Tryz.sizeOf32
  v37 := Tryz.zeroValue32
  t46 := Tryz.underlying98
  a46 := Tryz.isAgg98
  z46 := Tryz.sizeOf98
  v46 := Tryz.zeroValue98
  t51 := Tryz.underlying116
  a51 := Tryz.isAgg116
  z51 := Tryz.sizeOf116
  v51 := Tryz.zeroValue116
  t70 := Tryz.underlying180
  a70 := Tryz.isAgg180
  z70 := Tryz.sizeOf180
  v70 := Tryz.zeroValue180
  t72 := Tryz.underlying182
  a72 := Tryz.isAgg182
  z72 := Tryz.sizeOf182
  v72 := Tryz.zeroValue182
  t75 := Tryz.underlying75
  a75 := Tryz.isAgg75
  z75 := Tryz.sizeOf75
  v75 := Tryz.zeroValue75
  t76 := Tryz.underlying76
  a76 := Tryz.isAgg76
  z76 := Tryz.sizeOf76
  v76 := Tryz.zeroValue76
  t105 := Tryz.underlying85
  a105 := Tryz.isAgg85
  z105 := Tryz.sizeOf85
  v105 := Tryz.zeroValue85
  t107 := Tryz.underlying185
  a107 := Tryz.isAgg185
  z107 := Tryz.sizeOf185
  v107 := Tryz.zeroValue185
  t119 := Tryz.underlying107
  a119 := Tryz.isAgg107
  z119 := Tryz.sizeOf107
  t127 := Tryz.underlying144
  a127 := Tryz.isAgg144
  z127 := Tryz.sizeOf144
  v127 := Tryz.zeroValue144
  t138 := Tryz.underlying114
  a138 := Tryz.isAgg114
  z138 := Tryz.sizeOf114
  v138 := Tryz.zeroValue114
  t139 := Tryz.underlying115
  a139 := Tryz.isAgg115
  z139 := Tryz.sizeOf115
  v139 := Tryz.zeroValue115
  t160 := Tryz.underlying225
  a160 := Tryz.isAgg225
  z160 := Tryz.sizeOf225
  v160 := Tryz.zeroValue225
  t162 := Tryz.underlying200
  a162 := Tryz.isAgg200
  z162 := Tryz.sizeOf200
  v162 := Tryz.zeroValue200
  t164 := Tryz.underlying194
  a164 := Tryz.isAgg194
  z164 := Tryz.sizeOf194
  v164 := Tryz.zeroValue194
  t203 := Tryz.underlying198
  a203 := Tryz.isAgg198
  z203 := Tryz.sizeOf198
  v203 := Tryz.zeroValue198
  t206 := Tryz.underlying245
  a206 := Tryz.isAgg245
  z206 := Tryz.sizeOf245
  v206 := Tryz.zeroValue245
  t208 := Tryz.underlying247
  a208 := Tryz.isAgg247
  z208 := Tryz.sizeOf247
  v208 := Tryz.zeroValue247
  g3 := by kernel_rfl
  g4 := by kernel_rfl
  g13 := by kernel_rfl }
theorem Tryz.Builder_Extra_158 : Builder.Extra Tryz.prog Tryz.lays158_ren := {
  sizeBuilder := by kernel_rfl
  liesBuilder := by kernel_rfl
  t5 := Tryz.underlying5
  a5 := Tryz.isAgg5
  z5 := Tryz.sizeOf5
  v5 := Tryz.zeroValue5
  infoByte := by kernel_rfl
  cellsByte := by kernel_rfl
  sizeByte := by kernel_rfl
  neB5 := by decide }
open Go.RowKit in
/-- strings.ToUpper: "ToUpper returns s with all Unicode letters mapped to their upper case.": ON ASCII TEXT OF AT MOST 2^47 BYTES. Below the heap's end the world is as it was: where a letter turns, the call makes a builder and its buffer. (LAID: no walk: one application.) -/
theorem Tryz.strings_ToUpper_ascii (s : ByteArray) (w : World) (hs : s.size ≤ 140737488355328) (hascii : ∀ (j : Nat) (b : UInt8), s.data.toList[j]? = some b → b.toNat < 128) :
    Calls Tryz.prog 116 #[.string s] w fun e w' => e = .returned (.string ⟨(Lib.toUpperA s.data.toList).toArray⟩) ∧ Below w.heap.size w w' := Any.strings_ToUpper_ascii Tryz.lays158 Tryz.Builder_Extra_158 s w hs hascii
end Go.Proofs
