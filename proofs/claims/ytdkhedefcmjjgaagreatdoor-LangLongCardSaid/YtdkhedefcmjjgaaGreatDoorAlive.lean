/- alive, walked: an answer that the document fixes.
Conditions: what the library's variables hold. -/
import Derived.Test.YtdkhedefcmjjgaaGreatDoorLong0
import Derived.Test.YtdkhedefcmjjgaaGreatDoorNumE
namespace Go.Proofs.YtdkhedefcmjjgaaGreatDoor
open Go.RowKit Sp
set_option linter.unusedVariables false
set_option linter.unusedSimpArgs false
theorem exAt_name {w : World} {ok : Nat → Prop} {x : Ex} {k b : Int} {en : ByteArray} {sl : Value} (h : ExAt w ok x [.int .i64 k, .int .i64 b, .string en, sl]) : en = bstr (exName x) := by
  cases h
  rfl
theorem dcs_len (kind line : Int) (name : ByteArray) (rows cols i a b k bits : Int) (en : ByteArray) (sl : Value) : (dcs kind line name rows cols i a b k bits en sl).toList.length = 12 := rfl
theorem DRows.get {w : World} {ok : Nat → Prop} : ∀ {l : List Dc} {cs : List Value} {i : Nat} {d : Dc}, DRows w ok l cs → l[i]? = some d → cs[12 * i + 10]? = some (.string (bstr (exName d.expr)))
  | [], _, _, _, _, h => by simp at h
  | d0 :: l, cs, i, d, ⟨k, b, en, A, n, c, r, e, hx, hl⟩, h => by
    subst e
    cases i with
    | zero =>
      have e0 : d0 = d := by simpa using h
      subst e0
      rw [List.getElem?_append_left (by rw [dcs_len]; omega), exAt_name hx]
      rfl
    | succ i =>
      rw [List.getElem?_append_right (by rw [dcs_len]; omega), dcs_len, show 12 * (i + 1) + 10 - 12 = 12 * i + 10 by omega]
      exact DRows.get hl (by simpa using h)
/-- What Read tells of the text that the document fixes. -/
def SmallPost (W : World) (e : Ending) (w' : World) : Prop := ∃ g cv, e = .returned (.tuple #[.agg #[.string (bstr [109]), .int .i64 64, .slice (some ⟨g, 0, none⟩) 4 cv], .int .i64 0, .int .i64 0]) ∧ 4 ≤ cv ∧ w'.cell? ⟨g, 34, none⟩ = some (.string (bstr [116, 97, 110, 104])) ∧ Below W.heap.size W w'
theorem sF_post {t : Bs} {W : World} {e : Ending} {w' : World} (hr : Sp.read m0 t = (⟨sF.name, sF.width, sF.decls⟩, 0, 0)) (h : ReadPost m0 t W e w') : SmallPost W e w' := by
  obtain ⟨hb, v, he, cs, ho, hd⟩ := h
  rw [hr] at he ho hd
  simp only at he ho hd
  rw [sF_len] at ho
  obtain ⟨g, cap, rfl, _, _⟩ := ho.form (by decide)
  rw [sF_name, sF_width] at he
  have h3 := sF_tanh
  rw [List.getElem?_map] at h3
  obtain ⟨d, hd2, hn⟩ := Option.map_eq_some_iff.1 h3
  have hc := hd.get hd2
  have := ho.cells (g := g) rfl _ _ hc
  rw [add_plain', hn] at this
  have hcap : 4 ≤ cap := by
    rcases ho.2 with ⟨h0, _⟩ | ⟨g', cap', cur, e', _, _, hn, _⟩
    · cases h0
    · simp only [Value.slice.injEq] at e'
      omega
  exact ⟨g, cap, he, hcap, by simpa using this, hb⟩
theorem read_small (W : World) (hE : Env W) : Calls Tryz.prog 6 #[.string (bstr smallB)] W (SmallPost W) := by
  refine (read_any m0 (fun _ => rfl) smallB W (by rw [small_len]; decide) hE (fun _ l hl => ?_) (fun _ l hl => ?_)).mono (fun e w' h => sF_post small_read h)
  · rw [small_text] at hl
    have h1 := List.all_eq_true.1 small_ascii l hl
    have hb : smallL.all (fun l => decide (l.length ≤ 100)) = true := by kernel_rfl
    have h2 := List.all_eq_true.1 hb l hl
    simp only [decide_eq_true_eq] at h2
    exact scanC_ascii h1 (by omega)
  · rw [small_text] at hl
    exact line_late (List.all_eq_true.1 small_late l hl)
set_option maxRecDepth 100000 in
set_option maxHeartbeats 4000000 in
theorem alive_any (w : World) (hE : Env w) : Calls Tryz.prog 5 #[] w fun e w' => e = .returned (.bool true) ∧ Below w.heap.size w w' := by
  have H6 := Lib.hid (read_small w hE)
  have H7 := Lib.hid (num_any 0)
  go_enter Tryz.func5, Tryz.ntmps5
  go_wp2_with fail
  refine H6.out.mono ?_
  rintro e w1 ⟨g, cv, rfl, hcv, hc, hb⟩
  have hc' := fun o => cell_old ((Below.refl w1.heap.size w1).alloc (Nat.le_refl _) o) hc
  have q1 : ((bstr [109]).toList == [109]) = true := by rw [bstr_toList]; rfl
  have q2 : ((bstr [116, 97, 110, 104]).toList == [116, 97, 110, 104]) = true := by rw [bstr_toList]; rfl
  have HB := Lib.hid hb
  clear hb
  go_wp2_with fail
  refine (H7.out _).mono ?_
  rintro e w2 ⟨rfl, rfl⟩
  go_wp2_with fail
  go_ret
  exact ⟨rfl, HB.out.alloc HB.out.size _⟩
end Go.Proofs.YtdkhedefcmjjgaaGreatDoor
