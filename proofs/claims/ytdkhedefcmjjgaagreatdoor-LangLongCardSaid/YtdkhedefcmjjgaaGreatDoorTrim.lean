/- strings.Trim at blanks and tabs, by the library's own contract.
Conditions: the line's length is a number that an int holds. -/
import Derived.Test.YtdkhedefcmjjgaaGreatDoorMem
import Derived.Shelf.Strings.SlTrimAscii
namespace Go.Proofs
open Go.Shelf
def Tryz.lays160_ren : Go.Shelf.Ren := ⟨fun | 160 => 14 | 232 => 25 | 231 => 24 | 227 => 26 | 234 => 28 | 233 => 27 | 236 => 30 | 235 => 29 | 228 => 47 | 271 => 48 | 151 => 33 | 197 => 44 | 120 => 64 | 152 => 49 | 260 => 59 | 137 => 65 | 119 => 66 | 224 => 62 | 225 => 61 | 217 => 60 | 266 => 80 | n => n, fun | 9 => 9 | 4 => 4 | 3 => 3 | 5 => 5 | 117 => 65 | 116 => 64 | 0 => 0 | 124 => 68 | 21 => 21 | 105 => 85 | 46 => 98 | 119 => 107 | 139 => 115 | 138 => 114 | n => n, fun | 3 => 2 | 4 => 3 | n => n⟩
theorem Tryz.lays160 : Go.Proofs.Lays.n160 Tryz.prog Tryz.lays160_ren := {
  mixed := by kernel_rfl
  f119 := Tryz.func66.trans (congrArg some (by kernel_rfl))
  f120 := Tryz.func64.trans (congrArg some (by kernel_rfl))
  f137 := Tryz.func65.trans (congrArg some (by kernel_rfl))
  f151 := Tryz.func33.trans (congrArg some (by kernel_rfl))
  f152 := Tryz.func49.trans (congrArg some (by kernel_rfl))
  f160 := Tryz.func14.trans (congrArg some (by kernel_rfl))
  f197 := Tryz.func44.trans (congrArg some (by kernel_rfl))
  f217 := Tryz.func60.trans (congrArg some (by kernel_rfl))
  f224 := Tryz.func62.trans (congrArg some (by kernel_rfl))
  f225 := Tryz.func61.trans (congrArg some (by kernel_rfl))
  f227 := Tryz.func26.trans (congrArg some (by kernel_rfl))
  f228 := Tryz.func47.trans (congrArg some (by kernel_rfl))
  f231 := Tryz.func24.trans (congrArg some (by kernel_rfl))
  f232 := Tryz.func25.trans (congrArg some (by kernel_rfl))
  f233 := Tryz.func27.trans (congrArg some (by kernel_rfl))
  f234 := Tryz.func28.trans (congrArg some (by kernel_rfl))
  f235 := Tryz.func29.trans (congrArg some (by kernel_rfl))
  f236 := Tryz.func30.trans (congrArg some (by kernel_rfl))
  f260 := Tryz.func59.trans (congrArg some (by kernel_rfl))
  f266 := Tryz.func80.trans (congrArg some (by kernel_rfl))
  f271 := Tryz.func48.trans (congrArg some (by kernel_rfl))
  t0 := Tryz.underlying0
  a0 := Tryz.isAgg0
  z0 := Tryz.sizeOf0
  v0 := Tryz.zeroValue0
  t3 := Tryz.underlying3
  a3 := Tryz.isAgg3
  z3 := Tryz.sizeOf3
  v3 := Tryz.zeroValue3
  t4 := Tryz.underlying4
  a4 := Tryz.isAgg4
  z4 := Tryz.sizeOf4
  v4 := Tryz.zeroValue4
  t5 := Tryz.underlying5
  a5 := Tryz.isAgg5
  z5 := Tryz.sizeOf5
  v5 := Tryz.zeroValue5
  t9 := Tryz.underlying9
  a9 := Tryz.isAgg9
  z9 := Tryz.sizeOf9
  v9 := Tryz.zeroValue9
  t21 := Tryz.underlying21
  a21 := Tryz.isAgg21
  z21 := Tryz.sizeOf21
  v21 := Tryz.zeroValue21
  t46 := Tryz.underlying98
  a46 := Tryz.isAgg98
  z46 := Tryz.sizeOf98
  v46 := Tryz.zeroValue98
  t105 := Tryz.underlying85
  a105 := Tryz.isAgg85
  z105 := Tryz.sizeOf85
  v105 := Tryz.zeroValue85
  t116 := Tryz.underlying64
  a116 := Tryz.isAgg64
  z116 := Tryz.sizeOf64
  t117 := Tryz.underlying65
  a117 := Tryz.isAgg65
  z117 := Tryz.sizeOf65
  v117 := Tryz.zeroValue65
  t119 := Tryz.underlying107
  a119 := Tryz.isAgg107
  z119 := Tryz.sizeOf107
  t124 := Tryz.underlying68
  a124 := Tryz.isAgg68
  z124 := Tryz.sizeOf68
  v124 := Tryz.zeroValue68
  t138 := Tryz.underlying114
  a138 := Tryz.isAgg114
  z138 := Tryz.sizeOf114
  v138 := Tryz.zeroValue114
  t139 := Tryz.underlying115
  a139 := Tryz.isAgg115
  z139 := Tryz.sizeOf115
  v139 := Tryz.zeroValue115
  g3 := by kernel_rfl
  g4 := by kernel_rfl }
end Go.Proofs
namespace Go.Proofs.YtdkhedefcmjjgaaGreatDoor
open Go.RowKit Sp
set_option linter.unusedSimpArgs false
theorem zero64 (w : World) : (zeroValue 64).run Tryz.prog w = .ok (.agg (Array.replicate 256 (.bool false))) w := by kernel_rfl
theorem trim_any (l : Bs) (w : World) (hl : l.length ≤ 1000000) : Calls Tryz.prog 14 #[.string (bstr l), .string (bstr [32, 9])] w fun e w' => e = .returned (.string (bstr (Lib.trimS l [32, 9]))) ∧ Below w.heap.size w w' := by
  have h := Any.strings_Trim_ascii Tryz.lays160 zero64 (by kernel_rfl) (bstr l) (bstr [32, 9]) w (by rw [bstr_size]; omega) (by rw [bstr_size]; decide) (by
    intro j b hb
    rw [bstr_data] at hb
    rcases j with _ | _ | j
    · simp at hb; subst hb; decide
    · simp at hb; subst hb; decide
    · simp at hb)
  rw [bstr_data, bstr_data] at h
  exact h
/-- Does a line mean nothing? By its trimmed text. -/
theorem void_trim (l : Bs) : void l = match Lib.trimS l [32, 9] with | [] => true | c :: _ => c == 35 := by
  have hb : ∀ c : UInt8, ([32, 9] : List UInt8).contains c = Sp.blank c := fun c => by
    simp [Sp.blank]; rfl
  have hf : (fun c : UInt8 => ([32, 9] : List UInt8).contains c) = Sp.blank := funext hb
  unfold void trimL Lib.trimS Lib.trimLeftS Lib.trimRightS
  rw [hf]
  -- what is dropped at the end stands behind what is not blank
  have key : ∀ m : Bs, m.dropWhile Sp.blank = [] ↔ ∀ c ∈ m, Sp.blank c = true := fun m => by
    induction m with
    | nil => simp
    | cons c m ih => by_cases hc : Sp.blank c = true <;> simp [List.dropWhile_cons, hc, ih]
  have main : ∀ m : Bs, ∀ k : Bs, (∀ c ∈ k, Sp.blank c = true) → (match (m ++ k).dropWhile Sp.blank with | [] => true | c :: _ => c == 35) = (match m.dropWhile Sp.blank with | [] => true | c :: _ => c == 35) := fun m => by
    induction m with
    | nil => intro k hk; rw [List.nil_append, (key k).2 hk]; rfl
    | cons c m ih => intro k hk; by_cases hc : Sp.blank c = true <;> simp [List.dropWhile_cons, hc, ih k hk]
  have hsplit : l = (l.reverse.dropWhile Sp.blank).reverse ++ (l.reverse.takeWhile Sp.blank).reverse := by
    rw [← List.reverse_append, List.takeWhile_append_dropWhile, List.reverse_reverse]
  have hk : ∀ c ∈ (l.reverse.takeWhile Sp.blank).reverse, Sp.blank c = true := fun c hc => by
    rw [List.mem_reverse] at hc
    exact List.all_eq_true.1 (List.all_takeWhile) c hc
  have := main ((l.reverse.dropWhile Sp.blank).reverse) ((l.reverse.takeWhile Sp.blank).reverse) hk
  rw [← hsplit] at this
  exact this
end Go.Proofs.YtdkhedefcmjjgaaGreatDoor
