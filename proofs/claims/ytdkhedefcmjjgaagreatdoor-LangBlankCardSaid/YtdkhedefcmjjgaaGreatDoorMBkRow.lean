/- LangBlank: for every text the law returns true; the tied card.
Conditions: none beyond the row's own cells (the listed variables of Go's library start as the program's text lays them). -/
import Derived.Test.YtdkhedefcmjjgaaGreatDoorRows
import Derived.Test.YtdkhedefcmjjgaaGreatDoorCards
import Derived.Test.YtdkhedefcmjjgaaGreatDoorTie
import Derived.Test.YtdkhedefcmjjgaaGreatDoorMShelf
import Derived.Test.YtdkhedefcmjjgaaGreatDoorMBk1
import Derived.Test.YtdkhedefcmjjgaaGreatDoorMLaid
import Derived.ProofKit
import Derived.OpenShut
import Derived.ChangeMaps5
import Derived.LaidMore
import Derived.LaidSub
import Derived.Lay
import Derived.HandedShaped
import Derived.Stop.LaidErr
import Derived.SevenTiedAt
namespace Go.Proofs.YtdkhedefcmjjgaaGreatDoor
open Go.ChangeShapes Go.WideShapes Go.ChangeAt Go.RowKit Sp
set_option linter.unusedVariables false
set_option linter.unusedSimpArgs false
theorem star : ("*" ++ "errors.errorString" : String) = "*errors.errorString" := by decide
theorem row145 (u : TypeId) (h : Tryz.prog.typeName? 3 u = some "*errors.errorString") : u = 145 :=
  typeName_ptr_named (nm := "errors.errorString") (by rw [star]; kernel_rfl) (by kernel_rfl) (by decide) u (by rw [star]; exact h)
theorem cells147 : Tryz.prog.cellsOf 147 = 1 := by kernel_rfl
theorem cells9 : Tryz.prog.cellsOf 9 = 1 := by kernel_rfl
theorem cells_p10 : Tryz.prog.cellsOf 249 = 2 := by kernel_rfl
theorem cells_u64 : Tryz.prog.cellsOf 119 = 1 := by kernel_rfl
theorem cells_uint : Tryz.prog.cellsOf 98 = 1 := by kernel_rfl
theorem cells_i64 : Tryz.prog.cellsOf 3 = 1 := by kernel_rfl
theorem cells_str : Tryz.prog.cellsOf 9 = 1 := by kernel_rfl
theorem cheat_len : Go.Pinned.cheatRows.length = 61 := by kernel_rfl
theorem info_reads {W : World} {g : Nat} {cs : Array Value} {fu : Nat} {p : List MemPlace} {a b c : Int} (hc : ∀ i, W.cell? ⟨g, i, none⟩ = cs[i]?) (hr : rd0 Tryz.prog W fu 208 cs.toList = some (.agg [.lit (.int .u64 a), .lit (.int .u64 b), .lit (.int .i64 c)], p)) :
    W.cell? ⟨g, 0, none⟩ = some (.int .u64 a) ∧ W.cell? ⟨g, 1, none⟩ = some (.int .u64 b) ∧ W.cell? ⟨g, 2, none⟩ = some (.int .i64 c) := by
  obtain ⟨fu2, q0, q1, q2, g0, g1, g2⟩ := three_reads Tryz.underlying208 rfl rfl rfl rfl rfl rfl cells_uint cells_uint cells_i64 hr
  have a0 := int_at Tryz.underlying98 g0
  have a1 := int_at Tryz.underlying98 g1
  have a2 := int_at Tryz.underlying3 g2
  rw [hc, hc, hc, ← Array.getElem?_toList, ← Array.getElem?_toList, ← Array.getElem?_toList]
  exact ⟨a0, a1, a2⟩
/-- The kinds of the listed tables. -/
theorem tabs_of {laid : List (String × DataW Unit)} {W : World} (hL : laidMet Tryz.prog laid W)
    (h12 : laid.filter (fun x => x.1 == "internal/strconv.float32info") = [("internal/strconv.float32info", Rows.laid_internal_strconv_float32info)])
    (h13 : laid.filter (fun x => x.1 == "internal/strconv.optimize") = [("internal/strconv.optimize", Rows.laid_internal_strconv_optimize)])
    (h14 : laid.filter (fun x => x.1 == "internal/strconv.float64info") = [("internal/strconv.float64info", Rows.laid_internal_strconv_float64info)])
    (h15 : laid.filter (fun x => x.1 == "internal/strconv.float32pow10") = [("internal/strconv.float32pow10", Rows.laid_internal_strconv_float32pow10)])
    (h16 : laid.filter (fun x => x.1 == "internal/strconv.powtab") = [("internal/strconv.powtab", Rows.laid_internal_strconv_powtab)])
    (h17 : laid.filter (fun x => x.1 == "internal/strconv.float64pow10") = [("internal/strconv.float64pow10", Rows.laid_internal_strconv_float64pow10)])
    (h18 : laid.filter (fun x => x.1 == "internal/strconv.pow10Tab") = [("internal/strconv.pow10Tab", Rows.laid_internal_strconv_pow10Tab)])
    (h19 : laid.filter (fun x => x.1 == "internal/strconv.leftcheats") = [("internal/strconv.leftcheats", Rows.laid_internal_strconv_leftcheats)]) : Tabs W := by
  have p12 := hL.filter (fun x => x.1 == "internal/strconv.float32info")
  have p13 := hL.filter (fun x => x.1 == "internal/strconv.optimize")
  have p14 := hL.filter (fun x => x.1 == "internal/strconv.float64info")
  have p15 := hL.filter (fun x => x.1 == "internal/strconv.float32pow10")
  have p16 := hL.filter (fun x => x.1 == "internal/strconv.powtab")
  have p17 := hL.filter (fun x => x.1 == "internal/strconv.float64pow10")
  have p18 := hL.filter (fun x => x.1 == "internal/strconv.pow10Tab")
  have p19 := hL.filter (fun x => x.1 == "internal/strconv.leftcheats")
  rw [h12] at p12
  rw [h13] at p13
  rw [h14] at p14
  rw [h15] at p15
  rw [h16] at p16
  rw [h17] at p17
  rw [h18] at p18
  rw [h19] at p19
  refine ⟨?_, ?_, ?_, ?_, ?_, ?_, ?_, ?_⟩
  · obtain ⟨cs, fu, p, hc, hr⟩ := reads1 (g := 13) (t := 4) (by kernel_rfl) (by kernel_rfl) p13
    obtain ⟨b, hb, hx⟩ := DataW.trod_bool (by kernel_rfl) hr
    cases hx
    rw [hc 0, ← Array.getElem?_toList, hb]
    rfl
  · obtain ⟨cs, fu, p, hc, hr⟩ := reads1 (g := 12) (t := 208) (by kernel_rfl) (by kernel_rfl) p12
    exact info_reads hc hr
  · obtain ⟨cs, fu, p, hc, hr⟩ := reads1 (g := 14) (t := 208) (by kernel_rfl) (by kernel_rfl) p14
    exact info_reads hc hr
  · exact slT_float (l := [1065353216, 1092616192, 1120403456, 1148846080, 1176256512, 1203982336, 1232348160, 1259902592, 1287568416, 1315859240, 1343554297]) (g := 15) (t := 230) (e := 170) (by kernel_rfl) (by kernel_rfl) (by kernel_rfl) (by kernel_rfl) (by kernel_rfl) (by decide) p15
  · exact slT_int (l := [1, 3, 6, 9, 13, 16, 19, 23, 26]) (g := 16) (t := 241) (e := 3) (by kernel_rfl) (by kernel_rfl) (by kernel_rfl) (by kernel_rfl) (by kernel_rfl) (by decide) p16
  · exact slT_float (l := PW64) (g := 17) (t := 242) (e := 165) (by kernel_rfl) (by kernel_rfl) (by kernel_rfl) (by kernel_rfl) (by kernel_rfl) (by decide) p17
  · intro i x hx
    obtain ⟨cs, fu, p, hc, hr⟩ := reads1 (g := 18) (t := 250) (by kernel_rfl) (by kernel_rfl) p18
    obtain ⟨fu', q, h1⟩ := array_reads (e := 249) Tryz.underlying250 hr i (.agg [.lit (.int .u64 x.1), .lit (.int .u64 x.2)]) (by rw [List.getElem?_map, hx]; rfl)
    rw [cells_p10] at h1
    obtain ⟨fu2, q0, q1, g0, g1⟩ := two_reads Tryz.underlying249 rfl rfl rfl rfl cells_u64 cells_u64 h1
    have a0 := int_at Tryz.underlying119 g0
    have a1 := int_at Tryz.underlying119 g1
    rw [List.getElem?_take, if_pos (by omega), List.getElem?_drop] at a0 a1
    refine ⟨?_, ?_⟩
    · rw [hc, ← Array.getElem?_toList, ← a0, Nat.mul_comm]
      rfl
    · rw [hc, ← Array.getElem?_toList, ← a1, Nat.mul_comm]
  · obtain ⟨R, o, c, h1, h2, h3⟩ := slice_reads (m := 1) (g := 19) (t := 257) (e := 256) (by kernel_rfl) (by kernel_rfl) (by kernel_rfl) (by kernel_rfl) (by rw [List.length_map, cheat_len]; omega) p19
    rw [List.length_map, cheat_len] at h1 h2
    refine ⟨R, o, c, h1, h2, fun i x hx => ?_⟩
    obtain ⟨cs, fu, q, hl, hcc, hr⟩ := h3 i (.agg [.lit (.int .i64 x.1), .lit (.string x.2)]) (by rw [List.getElem?_map, hx]; rfl)
    obtain ⟨fu2, q0, q1, g0, g1⟩ := two_reads Tryz.underlying256 rfl rfl rfl rfl cells_i64 cells_str hr
    have a0 := int_at Tryz.underlying3 g0
    have a1 := str_at Tryz.underlying9 g1
    have b0 := hcc 0 (by omega)
    have b1 := hcc 1 (by omega)
    rw [a0] at b0
    rw [a1] at b1
    rw [Nat.mul_comm 2 i]
    exact ⟨b0, b1⟩
/-- What the listed variables and the world's shape give. -/
theorem env_of {laid : List (String × DataW Unit)} {W : World} (hL : laidMet Tryz.prog laid W) (hsh : W.ShapedOpen Tryz.prog) (hT : Tabs W)
    (hp : laid.filter (fun x => x.1 == "internal/strconv.uint64pow10") = [("internal/strconv.uint64pow10", Lib.tabData .u64 Lib.pow10Tab)])
    (hs : laid.filter (fun x => x.1 == "strings.asciiSpace") = [("strings.asciiSpace", Lib.tabData .u8 Lib.asciiSpaceTab)])
    (hy : laid.filter (fun x => x.1 == "strconv.ErrSyntax") = [("strconv.ErrSyntax", Rows.laid_strconv_ErrSyntax)])
    (hr : laid.filter (fun x => x.1 == "strconv.ErrRange") = [("strconv.ErrRange", Rows.laid_strconv_ErrRange)]) : Env W := by
  have p1 := hL.filter (fun x => x.1 == "internal/strconv.uint64pow10")
  have p2 := hL.filter (fun x => x.1 == "strings.asciiSpace")
  have p3 := hL.filter (fun x => x.1 == "strconv.ErrSyntax")
  have p4 := hL.filter (fun x => x.1 == "strconv.ErrRange")
  rw [hp] at p1
  rw [hs] at p2
  rw [hy] at p3
  rw [hr] at p4
  refine ⟨Tryz.laysM146.s1_3 W hsh, ?_, ?_, ?_, ?_, hT⟩
  · obtain ⟨a, s, hv, _⟩ := laid_sentinel p3 (g := 4) (by kernel_rfl) (by kernel_rfl) Tryz.underlying75 row145 Tryz.underlying145 Tryz.underlying147 rfl rfl Tryz.underlying9 cells147 cells9
    exact ⟨145, .pointer (some a), by simpa using World.var?_cell (show Tryz.prog.globalNamed "strconv.ErrSyntax" = some 4 by kernel_rfl) hv 0⟩
  · obtain ⟨a, s, hv, _⟩ := laid_sentinel p4 (g := 5) (by kernel_rfl) (by kernel_rfl) Tryz.underlying75 row145 Tryz.underlying145 Tryz.underlying147 rfl rfl Tryz.underlying9 cells147 cells9
    exact ⟨a, by simpa using World.var?_cell (show Tryz.prog.globalNamed "strconv.ErrRange" = some 5 by kernel_rfl) hv 0⟩
  · exact Lib.tabIs_of_head (g := 7) (t := 149) (e := 119) (n := 20) (by kernel_rfl) (by kernel_rfl) (by kernel_rfl) (by kernel_rfl) (by kernel_rfl) (by kernel_rfl) p1
  · exact Lib.tabIs_of_head (g := 1) (t := 107) (e := 5) (n := 256) (by kernel_rfl) (by kernel_rfl) (by kernel_rfl) (by kernel_rfl) (by kernel_rfl) (by kernel_rfl) p2
/-- The wrap of a row that lists variables, with the world's shape handed on. -/
theorem returns_and_shaped {H : Type} {enc : TypeId × Value → H} {a : Assume} {C : Checked} {os : Os} {f : FuncId} {fn : Func} {s : ChangeSpec} {conds : List PathCond} {apart fresh handsOn again : Bool} {X : World → Array Value → Prop}
    (hX : ∀ (w w' : World) (args : Array Value), w.heap = w'.heap → X w args → X w' args)
    (own : ownKnob C.prog.godebug = none) (started : os.Started) (noInit : C.prog.inits.idxOf? f = none) (hfn : C.prog.funcs[f]? = some fn)
    (witness : ∃ (w : World) (tape : Tape) (i : Input), w.os = os ∧ (w.forCall tape i).Shaped C.prog ∧ i.vars = [] ∧ Input.okWide C.prog (w.forCall tape i) .any w.heap.size f i ∧
      ((s.pre enc C.prog fn conds apart (w.forCall tape i).memory i.args ∧ X (w.forCall tape i).memory i.args) ∧ sizedMet enc C.prog fn (OpenSpec.ofChange s) apart (w.forCall tape i).memory i.args) ∧ a.holds C.prog (lone (Frame.enter C.prog f i.args .normal) [] (w.forCall tape i)))
    (contract : ∀ (W : World) (base : Nat) (args : Array Value) (ds gs : List (DataW H)) (before : List MemPlace),
      (∀ (j : Nat) t v, fn.params[j]? = some t → args[j]? = some v → Value.okWide C.prog W .any base t v) →
      DataW.Whole enc C.prog fn.params.toList s.vars apart W args.toList ds gs before →
      conds.all (PathCond.test C.prog ⟨fn.params.toList, ds, s.plain.varTypes C.prog, gs⟩) = true →
      (DataW.weightsEach C.prog (fn.params.toList ++ s.plain.varTypes C.prog) (ds ++ gs)).all (· ≤ reachBytes) = true → X W args → W.ShapedOpen C.prog →
      a.holds C.prog (lone (Frame.enter C.prog f args .normal) [] W) →
      Calls C.prog f args W fun e W' => ∃ v, e = .returned v ∧ s.post enc C.prog fn apart fresh handsOn again W args v W') :
    ReturnsInHanded a C os f .any (fun w args => (s.pre enc C.prog fn conds apart w args ∧ X w args) ∧ sizedMet enc C.prog fn (OpenSpec.ofChange s) apart w args) (s.post enc C.prog fn apart fresh handsOn again) := by
  refine returnsInHanded_of_calls own started noInit witness ?_
  intro w tape i _ hsh _ hok hpre hholds
  obtain ⟨_, _, _, fn', hfn', _, _, _, _, hval⟩ := hok
  have e : fn' = fn := Option.some.inj (hfn'.symm.trans hfn)
  subst e
  obtain ⟨⟨⟨ds, gs, before, hw, hc⟩, hx⟩, hz⟩ := hpre
  have hw' := DataW.Whole.of_heap (w' := w.forCall tape i) (by rfl) hw
  refine (contract (w.forCall tape i) w.heap.size i.args ds gs before hval hw' hc (hz.weights hw) (hX _ _ _ (by rfl) hx) hsh hholds).mono fun e W' ⟨v, he, hp⟩ => ?_
  subst he
  exact ChangeSpec.post_blind hp
theorem own : ownKnob Tryz.prog.godebug = none := by kernel_rfl
set_option maxRecDepth 100000 in
theorem lifted (os : Os) (started : os.Started) (H : Type) (enc : TypeId × Value → H) :
    ReturnsInHanded {} Tryz.checked os 3 .any (fun w args => (Rows.langBlankSpec.pre enc Tryz.prog Tryz.f3 [] false w args ∧ laidMetH Tryz.prog Rows.langBlankRow.laid w) ∧ sizedMet enc Tryz.prog Tryz.f3 (OpenSpec.ofChange Rows.langBlankSpec) false w args)
      (Rows.langBlankSpec.post enc Tryz.prog Tryz.f3 false true false false) := by
  refine returns_and_shaped (C := Tryz.checked) (X := fun w _ => laidMetH Tryz.prog Rows.langBlankRow.laid w) (fun _ _ _ hh h => h.of_heap hh) own started (by kernel_rfl) Tryz.func3
    (ChangeSpec.witness_shaped (enc := enc) (C := Tryz.checked) (os := os) (X := fun w _ => laidMetH Tryz.prog Rows.langBlankRow.laid w) false (World.laidAll Tryz.prog os Rows.langBlankRow.laid) #[.string ⟨#[]⟩] 8 (World.laidAll_os _ _ _)
      (World.shaped_of_ZipB (by kernel_rfl) (by kernel_rfl)) (by kernel_rfl) (by kernel_rfl) (by kernel_rfl)
      (by rw [MakeChecks.laidMetH_plain _ _ _ (by kernel_rfl)]; exact laidMet_laidAll _ (by kernel_rfl) (by kernel_rfl))) ?_
  intro W base args ds gs before hval0 hW _ _ hL hsh _
  have hval : ∀ (j : Nat) t v, Tryz.f3.params[j]? = some t → args[j]? = some v → Value.okWide Tryz.prog W .any base t v := hval0
  have hW' := hW
  obtain ⟨p, q, hA0, hV, rfl, _, _⟩ := hW
  have hA : DataW.TrodAll enc Tryz.prog W 0 (fun _ => true) true Tryz.f3.params.toList args.toList ds p := hA0
  rw [Tryz.params3] at hA hval
  obtain ⟨v0, vs0, d0, ds0, p0, q0, hargs, rfl, rfl, h0, r0⟩ := trodAll_cons hA
  obtain ⟨rfl, rfl, rfl⟩ := trodAll_nil r0
  obtain rfl : args = #[v0] := by cases args; simp_all
  obtain ⟨rfl, rfl⟩ := trodVars_none hV
  obtain ⟨s0, rfl, rfl, rfl, w0⟩ := Go.ChangeMaps.open_string Tryz.underlying9 (hval 0 9 v0 rfl rfl) h0
  clear hA0 hval0
  simp only [List.append_nil] at hW'
  rw [MakeChecks.laidMetH_plain _ _ _ (by kernel_rfl)] at hL
  have hT : Tabs W := tabs_of hL (by kernel_rfl) (by kernel_rfl) (by kernel_rfl) (by kernel_rfl) (by kernel_rfl) (by kernel_rfl) (by kernel_rfl) (by kernel_rfl)
  have hE : Env W := env_of hL hsh hT (by kernel_rfl) (by kernel_rfl) (by kernel_rfl) (by kernel_rfl)
  have hcall := langBlank_any s0.data.toList W hE
  rw [bstr_of] at hcall
  refine hcall.mono fun e W' ⟨he, hb⟩ => ?_
  subst he
  exact ⟨_, rfl, _, _, _, [], [], [], hW', trodAll_mk1 (shut_bool Tryz.underlying4 _), trodAll_cons_mk (Go.ChangeMaps.shut_string Tryz.underlying9 w0) trodAll_mk0, rfl, hb.frame _, fun h => by cases h⟩
theorem langBlank_row : Rows.LangBlankSaid :=
  OpenClaim.holds_of_wide 3 Tryz.f3 rfl rfl rfl rfl rfl rfl rfl ⟨rfl, rfl, rfl, rfl, rfl⟩ rfl rfl rfl rfl rfl (by kernel_rfl) Tryz.func3 (by kernel_rfl)
    (of_decide_eq_true (by kernel_rfl)) (by unfold Func.isWrapper; first | (rw [if_pos (by decide +kernel)]; kernel_rfl) | (rw [if_neg (by decide +kernel)]; exact ⟨rfl, rfl⟩))
    (fun os started H enc _ => lifted os started H enc)
/-- The statement: LangBlank's tied card. -/
theorem langBlank_holds : Rows.LangBlankCardSaid :=
  Claim7.holds_tied_plain_at .later [] [.data, .data, .widerDeep, .widerDeep, .data, .data, .data, .data, .data, .data, .sentinel, .sentinel, .listed, .data, .pinned, .pinned, .pinned, .pinned] true (true, "372fdc3e00beeca64bf37a5856b7e1281a6f18c9a10e553a6fb4927df69a2b5d") true
    langBlank_row (fun _ h => by cases h) (by kernel_rfl) (fun _ h => by cases h) langBlank_row_tie rfl ⟨rfl, rfl⟩ (by kernel_rfl) rfl
    (fun f fn hf hfn => by
      obtain rfl : f = 3 := Option.some.inj ((show Tryz.prog.funcNamed "pupil/pupillaw27.LangBlank" = some 3 by kernel_rfl).symm.trans hf) |>.symm
      obtain rfl : fn = Tryz.f3 := (Option.some.inj (Tryz.func3.symm.trans hfn)).symm
      exact ⟨by kernel_rfl, fun j t ht => by
        rw [Tryz.params3] at ht
        have hm : t ∈ [9] := by simpa using Array.mem_of_getElem? ht
        have hall : ([9].all fun u => !Tryz.prog.wantsStandIn u) = true := by kernel_rfl
        exact (show Tryz.prog.wantsStandIn t = false by simpa using List.all_eq_true.1 hall t hm)⟩)
    (by kernel_rfl)
#print axioms langBlank_holds
end Go.Proofs.YtdkhedefcmjjgaaGreatDoor
