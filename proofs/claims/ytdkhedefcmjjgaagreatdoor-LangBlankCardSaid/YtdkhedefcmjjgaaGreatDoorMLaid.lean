/- What the listed variables of Go's library give to the walk: the tables of internal/strconv.
Conditions: the variables read as they are laid. -/
import Derived.Test.YtdkhedefcmjjgaaGreatDoorMSpec
import Derived.LaidMore
import Derived.LaidSub
namespace Go.Proofs.YtdkhedefcmjjgaaGreatDoor
open Go.RowKit Sp
set_option linter.unusedVariables false
set_option linter.unusedSimpArgs false
section
variable {P : Program} {W : World}
abbrev rd0 (P : Program) (W : World) := DataW.trod (fun _ => ()) P W 0 (fun _ => true) false
theorem reads1 {n : String} {d : DataW Unit} {rest : List (String × DataW Unit)} {g : Nat} {t : TypeId} (hg : P.globalNamed n = some g) (hty : (P.globals[g]?).map (·.type) = some t) (h : laidMet P ((n, d) :: rest) W) :
    ∃ (cs : Array Value) (fuel : Nat) (p : List MemPlace), (∀ i, W.cell? ⟨g, i, none⟩ = cs[i]?) ∧ rd0 P W fuel t cs.toList = some (d, p) := by
  obtain ⟨ps, ⟨g', t', cs, fuel, p, q, hg', ht', hvar, hd, _, _⟩, _⟩ := h
  obtain rfl := Option.some.inj (hg.symm.trans hg')
  obtain rfl := Option.some.inj (hty.symm.trans ht')
  exact ⟨cs, fuel, p, fun i => World.var?_cell hg hvar i, hd⟩
theorem rd_float {fuel : Nat} {t : TypeId} {k : FloatKind} {cs : List Value} {x : DataW Unit × List MemPlace} (ht : P.underlying t = some (.float k)) (h : rd0 P W fuel t cs = some x) : ∃ b, cs = [.float k b] ∧ x = (.lit (.float k b), []) := by
  cases fuel with
  | zero => simp [rd0, DataW.trod] at h
  | succ n =>
    unfold rd0 DataW.trod at h
    rw [ht] at h
    split at h <;> simp_all
theorem spot_none {w : World} {b o : Nat} {sp : Option Nat} {v : Value} (h : w.cell? ⟨b, o, sp⟩ = some v) : sp = none := by
  cases sp with
  | none => rfl
  | some x =>
    unfold World.cell? at h
    split at h <;> simp at h
/-- A variable that is a slice: its elements, one by one. -/
theorem slice_reads {n : String} {es : List (DataW Unit)} {rest : List (String × DataW Unit)} {g : Nat} {t e : TypeId} {m : Nat} (hg : P.globalNamed n = some g) (hty : (P.globals[g]?).map (·.type) = some t) (ht : P.underlying t = some (.slice e)) (hc : P.cellsOf e = m + 1) (hpos : 0 < es.length)
    (h : laidMet P ((n, .slice es []) :: rest) W) :
    ∃ R o c, W.cell? ⟨g, 0, none⟩ = some (.slice (some ⟨R, o, none⟩) es.length c) ∧ es.length ≤ c ∧ ∀ i d, es[i]? = some d → ∃ cs fuel q, cs.length = m + 1 ∧ (∀ j, j < m + 1 → W.cell? ⟨R, o + i * (m + 1) + j, none⟩ = cs[j]?) ∧ rd0 P W fuel e cs = some (d, q) := by
  obtain ⟨cs, fuel, p, hcell, hd⟩ := reads1 hg hty h
  rcases DataW.trod_slice ht hd with ⟨_, hx⟩ | ⟨a, len, cap, el, rs, k, rfl, hcs, hx, _, hlc, _, hel, helem, hsp, _⟩
  · cases hx
  have e0 := congrArg Prod.fst hx
  simp only [DataW.slice.injEq] at e0
  obtain ⟨eE, eR⟩ := e0
  have hlen : len = es.length := by
    have := congrArg List.length eE
    simp at this
    omega
  have key : ∀ i d, es[i]? = some d → ∃ cs fuel q, cs.length = m + 1 ∧ (∀ j, j < m + 1 → W.cell? ((a.add (i * (m + 1))).add j) = cs[j]?) ∧ rd0 P W fuel e cs = some (d, q) := by
    intro i d hi
    have hil : i < es.length := (List.getElem?_eq_some_iff.1 hi).1
    have h1 := helem i (by omega)
    rw [hc] at h1
    obtain ⟨b, hb⟩ : ∃ b, el[i]? = some b := ⟨el[i]'(by omega), List.getElem?_eq_getElem (by omega)⟩
    rw [hb] at h1
    obtain ⟨ce, hce, hte⟩ := Option.bind_eq_some_iff.1 h1
    have hb1 : b.1 = d := by
      have := congrArg (·[i]?) eE
      simp only [hi, List.getElem?_map, hb, Option.map_some, Option.some.injEq] at this
      exact this.symm
    obtain ⟨_, hl, hcc⟩ := World.cells?_some hce
    exact ⟨ce, k, b.2, hl, hcc, by rw [← hb1]; exact hte⟩
  obtain ⟨R, o, sR⟩ := a
  obtain rfl : sR = none := by
    obtain ⟨ce, _, _, hl, hcc, _⟩ := key 0 es[0] (List.getElem?_eq_getElem hpos)
    have h00 := hcc 0 (by omega)
    have : (Addr.add (Addr.add ⟨R, o, sR⟩ (0 * (m + 1))) 0) = ⟨R, o, sR⟩ := by simp [Addr.add]
    rw [this, List.getElem?_eq_getElem (by omega)] at h00
    exact spot_none h00
  refine ⟨R, o, cap, ?_, by omega, fun i d hi => ?_⟩
  · rw [hcell 0, ← Array.getElem?_toList, hcs, hlen]
    rfl
  · obtain ⟨ce, fu, q, hl, hcc, hr⟩ := key i d hi
    refine ⟨ce, fu, q, hl, fun j hj => ?_, hr⟩
    have := hcc j hj
    rw [Addr.add_lit, Addr.add_lit] at this
    exact this
theorem slT_int {n : String} {k : IntKind} {l : List Int} {rest : List (String × DataW Unit)} {g : Nat} {t e : TypeId} (hg : P.globalNamed n = some g) (hty : (P.globals[g]?).map (·.type) = some t) (ht : P.underlying t = some (.slice e)) (he : P.underlying e = some (.int k)) (hc : P.cellsOf e = 1) (hpos : 0 < l.length)
    (h : laidMet P ((n, .slice (l.map fun x => .lit (.int k x)) []) :: rest) W) : SlT W g (l.map (Value.int k)) := by
  obtain ⟨R, o, c, h1, h2, h3⟩ := slice_reads (m := 0) hg hty ht hc (by rw [List.length_map]; exact hpos) h
  rw [List.length_map] at h1 h2
  refine ⟨R, o, c, by rw [List.length_map]; exact h1, by rw [List.length_map]; exact h2, fun i v hv => ?_⟩
  rw [List.getElem?_map] at hv
  obtain ⟨x, hx, rfl⟩ := Option.map_eq_some_iff.1 hv
  obtain ⟨cs, fu, q, hl, hcc, hr⟩ := h3 i (.lit (.int k x)) (by rw [List.getElem?_map, hx]; rfl)
  obtain ⟨z, rfl, hz, _⟩ := DataW.trod_int he hr
  cases hz
  have := hcc 0 (by omega)
  simpa using this
theorem slT_float {n : String} {k : FloatKind} {l : List Nat} {rest : List (String × DataW Unit)} {g : Nat} {t e : TypeId} (hg : P.globalNamed n = some g) (hty : (P.globals[g]?).map (·.type) = some t) (ht : P.underlying t = some (.slice e)) (he : P.underlying e = some (.float k)) (hc : P.cellsOf e = 1) (hpos : 0 < l.length)
    (h : laidMet P ((n, .slice (l.map fun x => .lit (.float k x)) []) :: rest) W) : SlT W g (l.map (Value.float k)) := by
  obtain ⟨R, o, c, h1, h2, h3⟩ := slice_reads (m := 0) hg hty ht hc (by rw [List.length_map]; exact hpos) h
  rw [List.length_map] at h1 h2
  refine ⟨R, o, c, by rw [List.length_map]; exact h1, by rw [List.length_map]; exact h2, fun i v hv => ?_⟩
  rw [List.getElem?_map] at hv
  obtain ⟨x, hx, rfl⟩ := Option.map_eq_some_iff.1 hv
  obtain ⟨cs, fu, q, hl, hcc, hr⟩ := h3 i (.lit (.float k x)) (by rw [List.getElem?_map, hx]; rfl)
  obtain ⟨z, rfl, hz⟩ := rd_float he hr
  cases hz
  have := hcc 0 (by omega)
  simpa using this
theorem take1 {cs : List Value} {k : Nat} {v : Value} (h : (cs.drop k).take 1 = [v]) : cs[k]? = some v := by
  have := congrArg (·[0]?) h
  simpa [List.getElem?_take, List.getElem?_drop] using this
/-- A struct of two fields of one cell each. -/
theorem two_reads {fuel : Nat} {t t0 t1 : TypeId} {f0 f1 : Field} {cs : List Value} {a b : DataW Unit} {p : List MemPlace} (ht : P.underlying t = some (.struct #[f0, f1])) (e0 : f0.type = t0) (e1 : f1.type = t1) (o0 : f0.offset = 0) (o1 : f1.offset = 1) (c0 : P.cellsOf t0 = 1) (c1 : P.cellsOf t1 = 1)
    (h : rd0 P W fuel t cs = some (.agg [a, b], p)) : ∃ fuel' q0 q1, rd0 P W fuel' t0 ((cs.drop 0).take 1) = some (a, q0) ∧ rd0 P W fuel' t1 ((cs.drop 1).take 1) = some (b, q1) := by
  obtain ⟨xs, n, rfl, hx, hl, hxl, hall⟩ := DataW.trod_struct ht h
  have hx2 : xs.map (·.1) = [a, b] := by
    have := congrArg Prod.fst hx
    simpa using this.symm
  obtain ⟨x0, x1, rfl⟩ : ∃ x0 x1, xs = [x0, x1] := by
    match xs, hx2 with
    | [x0, x1], _ => exact ⟨x0, x1, rfl⟩
  simp only [List.map_cons, List.map_nil, List.cons.injEq, and_true] at hx2
  obtain ⟨rfl, rfl⟩ := hx2
  have g0 := hall 0 f0 rfl
  have g1 := hall 1 f1 rfl
  rw [e0, o0, c0] at g0
  rw [e1, o1, c1] at g1
  exact ⟨n, x0.2, x1.2, g0, g1⟩
/-- A struct of three fields of one cell each. -/
theorem three_reads {fuel : Nat} {t t0 t1 t2 : TypeId} {f0 f1 f2 : Field} {cs : List Value} {a b c : DataW Unit} {p : List MemPlace} (ht : P.underlying t = some (.struct #[f0, f1, f2])) (e0 : f0.type = t0) (e1 : f1.type = t1) (e2 : f2.type = t2) (o0 : f0.offset = 0) (o1 : f1.offset = 1) (o2 : f2.offset = 2) (c0 : P.cellsOf t0 = 1) (c1 : P.cellsOf t1 = 1) (c2 : P.cellsOf t2 = 1)
    (h : rd0 P W fuel t cs = some (.agg [a, b, c], p)) : ∃ fuel' q0 q1 q2, rd0 P W fuel' t0 ((cs.drop 0).take 1) = some (a, q0) ∧ rd0 P W fuel' t1 ((cs.drop 1).take 1) = some (b, q1) ∧ rd0 P W fuel' t2 ((cs.drop 2).take 1) = some (c, q2) := by
  obtain ⟨xs, n, rfl, hx, hl, hxl, hall⟩ := DataW.trod_struct ht h
  have hx2 : xs.map (·.1) = [a, b, c] := by
    have := congrArg Prod.fst hx
    simpa using this.symm
  obtain ⟨x0, x1, x2, rfl⟩ : ∃ x0 x1 x2, xs = [x0, x1, x2] := by
    match xs, hx2 with
    | [x0, x1, x2], _ => exact ⟨x0, x1, x2, rfl⟩
  simp only [List.map_cons, List.map_nil, List.cons.injEq, and_true] at hx2
  obtain ⟨rfl, rfl, rfl⟩ := hx2
  have g0 := hall 0 f0 rfl
  have g1 := hall 1 f1 rfl
  have g2 := hall 2 f2 rfl
  rw [e0, o0, c0] at g0
  rw [e1, o1, c1] at g1
  rw [e2, o2, c2] at g2
  exact ⟨n, x0.2, x1.2, x2.2, g0, g1, g2⟩
theorem int_at {fuel : Nat} {t : TypeId} {k : IntKind} {cs : List Value} {i : Nat} {z : Int} {p : List MemPlace} (ht : P.underlying t = some (.int k)) (h : rd0 P W fuel t ((cs.drop i).take 1) = some (.lit (.int k z), p)) : cs[i]? = some (.int k z) := by
  obtain ⟨y, hy, hx, _⟩ := DataW.trod_int ht h
  cases hx
  exact take1 hy
theorem str_at {fuel : Nat} {t : TypeId} {cs : List Value} {i : Nat} {s : Bs} {p : List MemPlace} (ht : P.underlying t = some .string) (h : rd0 P W fuel t ((cs.drop i).take 1) = some (.lit (.string s), p)) : cs[i]? = some (.string (bstr s)) := by
  obtain ⟨y, hy, hx, _⟩ := DataW.trod_string ht h
  have hs : s = y.data.toList := by
    have := congrArg Prod.fst hx
    simpa using this
  rw [hs, bstr_of]
  exact take1 hy
/-- An array, element by element. -/
theorem array_reads {fuel : Nat} {t e : TypeId} {n : Nat} {cs : List Value} {ds : List (DataW Unit)} {p : List MemPlace} (ht : P.underlying t = some (.array n e)) (h : rd0 P W fuel t cs = some (.agg ds, p)) (i : Nat) (d : DataW Unit) (hd : ds[i]? = some d) :
    ∃ fuel' q, rd0 P W fuel' e ((cs.drop (i * P.cellsOf e)).take (P.cellsOf e)) = some (d, q) := by
  cases fuel with
  | zero => simp [rd0, DataW.trod] at h
  | succ fuel =>
    simp only [rd0, DataW.trod, ht] at h
    split at h
    · obtain ⟨xs, hm, hx⟩ := Option.map_eq_some_iff.1 h
      have hds : xs.map (·.1) = ds := by
        have := congrArg Prod.fst hx
        simpa using this
      have hxl : xs.length = n := by simpa using Lib.mapM_length hm
      have hi : i < n := by
        have := (List.getElem?_eq_some_iff.1 hd).1
        rw [← hds, List.length_map, hxl] at this
        exact this
      obtain ⟨b, hb, hf⟩ := Lib.mapM_at hm i i (by simp [hi])
      have : b.1 = d := by
        rw [← hds, List.getElem?_map, hb] at hd
        exact Option.some.inj hd
      exact ⟨fuel, b.2, by rw [← this]; exact hf⟩
    · cases h
end
end Go.Proofs.YtdkhedefcmjjgaaGreatDoor
