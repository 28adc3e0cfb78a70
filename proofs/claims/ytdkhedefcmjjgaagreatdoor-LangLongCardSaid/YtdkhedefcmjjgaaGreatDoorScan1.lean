/- scan between two bytes: what is told, step by step; its closure's contract in those words.
Conditions: none. -/
import Derived.Test.YtdkhedefcmjjgaaGreatDoorScan0
import Derived.Test.YtdkhedefcmjjgaaGreatDoorExpo
import Derived.Test.YtdkhedefcmjjgaaGreatDoorSign
import Derived.Test.YtdkhedefcmjjgaaGreatDoorIsName
namespace Go.Proofs.YtdkhedefcmjjgaaGreatDoor
open Go.RowKit Sp
set_option linter.unusedVariables false
set_option linter.unusedSimpArgs false
theorem drop_cons (s : ByteArray) (pos : Nat) (hp : pos < s.size) : s.data.toList.drop pos = s[pos] :: s.data.toList.drop (pos + 1) := by
  rw [List.drop_eq_getElem_cons (by simpa using hp)]; rfl
theorem ext_list (s : ByteArray) (a i : Nat) : (s.extract a i).data.toList = (s.data.toList.drop a).take (i - a) := by
  simp [ByteArray.data_extract, List.extract_eq_take_drop]
theorem ext_snoc (s : ByteArray) (a i : Nat) (ha : a ≤ i) (hi : i < s.size) : (s.extract a (i + 1)).data.toList = (s.extract a i).data.toList ++ [s[i]] := by
  rw [ext_list, ext_list, show i + 1 - a = (i - a) + 1 by omega, List.take_succ_eq_append_getElem (by simp; omega)]
  congr 2
  rw [List.getElem_drop]
  simp only [show a + (i - a) = i by omega]
  rfl
theorem ext_one (s : ByteArray) (i : Nat) (hi : i < s.size) : (s.extract i (i + 1)).data.toList = [s[i]] := by
  rw [ext_snoc s i i (Nat.le_refl _) hi, ext_list, Nat.sub_self]; rfl
theorem ext_len (s : ByteArray) (a i : Nat) (hi : i ≤ s.size) : (s.extract a i).data.toList.length = i - a := by
  rw [ext_list]; simp; omega
theorem ext_get (s : ByteArray) (a i j : Nat) (hi : i ≤ s.size) (hj : a + j < i) : (s.extract a i).data.toList[j]? = some s[a + j] := by
  rw [ext_list, List.getElem?_take, if_pos (by omega), List.getElem?_drop, List.getElem?_eq_getElem (by simp; omega)]
  rfl
theorem bstr_ext (s : ByteArray) (a i : Nat) : bstr (s.extract a i).data.toList = s.extract a i := bstr_of _
/-- Where a word stands that was begun. -/
def From (s : ByteArray) (i : Nat) (fr : Int) (cur : Bs) : Prop := (cur = [] ∧ fr = -1) ∨ ∃ a : Nat, fr = a ∧ a < i ∧ cur = (s.extract a i).data.toList
theorem From.ne {s : ByteArray} {a i : Nat} {cur : Bs} (ha : a < i) (hi : i ≤ s.size) (h : cur = (s.extract a i).data.toList) : cur ≠ [] := by
  intro e
  have := ext_len s a i hi
  rw [← h, e] at this
  simp at this
  omega
/-- What is told between two bytes. -/
structure ScanR (s : ByteArray) (w0 : World) (pos : Nat) (fr : Int) (cur : Bs) (kd : UInt8) (out : List Tok) (v : Value) (wr : World) : Prop where
  mem : ScanW s w0 fr kd.toNat pos v out.length (flat out) wr
  go : scanGo (s.data.toList.drop pos) cur kd out = Sp.scan s.data.toList
  frm : From s pos fr cur
  len : out.length + (if cur = [] then 0 else 1) ≤ pos
  le : pos ≤ s.size
section
variable {s : ByteArray} {w0 : World} {pos : Nat} {fr : Int} {cur : Bs} {kd : UInt8} {out : List Tok} {v : Value} {wr wr' : World}
theorem ScanR.step {fr' : Int} {cur' : Bs} {kd' : UInt8} {out' : List Tok} {v' : Value} (h : ScanR s w0 pos fr cur kd out v wr) (hp : pos < s.size)
    (hgo : scanGo (s[pos] :: s.data.toList.drop (pos + 1)) cur kd out = scanGo (s.data.toList.drop (pos + 1)) cur' kd' out')
    (hm : ScanW s w0 fr' kd'.toNat (pos + 1) v' out'.length (flat out') wr') (hf : From s (pos + 1) fr' cur') (hl : out'.length + (if cur' = [] then 0 else 1) ≤ out.length + (if cur = [] then 0 else 1) + 1) : ScanR s w0 (pos + 1) fr' cur' kd' out' v' wr' :=
  ⟨hm, by rw [← hgo, ← drop_cons s pos hp]; exact h.go, hf, by have := h.len; omega, hp⟩
theorem close_len (cur : Bs) (kd : UInt8) (out : List Tok) : (close cur kd out).length = out.length + (if cur = [] then 0 else 1) := by
  cases cur <;> simp [close]
/-- A word begins. -/
theorem ScanR.begin (h : ScanR s w0 pos (-1) [] kd out v wr) (hp : pos < s.size) (hw : wordByte s[pos] = true) {kd' : UInt8} (hk : kd' = if small s[pos] then 110 else 100) (hm : ScanW s w0 pos kd'.toNat (pos + 1) v out.length (flat out) wr') :
    ScanR s w0 (pos + 1) pos [s[pos]] kd' out v wr' :=
  h.step hp (by subst hk; simp [scanGo, hw]) hm (.inr ⟨pos, rfl, by omega, (ext_one s pos hp).symm⟩) (by simp)
/-- A word goes on. -/
theorem ScanR.on {a : Nat} (h : ScanR s w0 pos a cur kd out v wr) (hp : pos < s.size) (hw : wordByte s[pos] = true ∨ (s[pos] = 45 ∧ expo cur = true)) (hm : ScanW s w0 a kd.toNat (pos + 1) v out.length (flat out) wr') :
    ScanR s w0 (pos + 1) a (cur ++ [s[pos]]) kd out v wr' := by
  rcases h.frm with ⟨_, e⟩ | ⟨a', e, ha, hc⟩
  · omega
  · have ea : a' = a := by omega
    subst ea
    have hne := From.ne ha h.le hc
    refine h.step hp ?_ hm (.inr ⟨a', rfl, by omega, by rw [ext_snoc s a' pos (by omega) hp, ← hc]⟩) (by simp [hne])
    rcases hw with hw | ⟨h45, he⟩
    · simp [scanGo, hw, hne]
    · have hw : wordByte s[pos] = false := by rw [h45]; rfl
      rw [scanGo, hw, h45, he]; rfl
/-- A blank. -/
theorem ScanR.blank {v' : Value} (h : ScanR s w0 pos fr cur kd out v wr) (hp : pos < s.size) (hw : s[pos] = 32 ∨ s[pos] = 9) (hm : ScanW s w0 (-1) kd.toNat (pos + 1) v' (close cur kd out).length (flat (close cur kd out)) wr') :
    ScanR s w0 (pos + 1) (-1) [] kd (close cur kd out) v' wr' := by
  refine h.step hp ?_ hm (.inl ⟨rfl, rfl⟩) (by rw [close_len]; simp)
  rcases hw with hw | hw
  · rw [hw, scanGo]; rfl
  · rw [hw, scanGo]; rfl
/-- A sign. -/
theorem ScanR.sign {v' : Value} (h : ScanR s w0 pos fr cur kd out v wr) (hp : pos < s.size) (hw : wordByte s[pos] = false) (h45 : (s[pos] == 45 && expo cur) = false) (hb : (s[pos] == 32 || s[pos] == 9) = false) (hs : isSign s[pos] = true) (hm : ScanW s w0 (-1) kd.toNat (pos + 1) v' ((close cur kd out).length + 1) (flat (close cur kd out) ++ [.int .u8 s[pos].toNat, .string (bstr [s[pos]])]) wr') :
    ScanR s w0 (pos + 1) (-1) [] kd (close cur kd out ++ [⟨s[pos], [s[pos]]⟩]) v' wr' := by
  refine h.step hp ?_ ?_ (.inl ⟨rfl, rfl⟩) (by rw [List.length_append, close_len]; simp)
  · rw [scanGo, hw, h45, hb, hs]; rfl
  · rw [List.length_append, flat_append]; exact hm
/-- No word's byte. -/
theorem ScanR.no (h : ScanR s w0 pos fr cur kd out v wr) (hp : pos < s.size) (hw : wordByte s[pos] = false) (h45 : (s[pos] == 45 && expo cur) = false) (hb : (s[pos] == 32 || s[pos] == 9) = false) (hs : isSign s[pos] = false) : Sp.scan s.data.toList = none := by
  have := h.go
  rw [drop_cons s pos hp, scanGo, hw, h45, hb, hs] at this
  exact this.symm
theorem ScanR.done (h : ScanR s w0 pos fr cur kd out v wr) (hp : ¬ pos < s.size) : pos = s.size ∧ Sp.scan s.data.toList = some (close cur kd out) := by
  have e : pos = s.size := by have := h.le; omega
  refine ⟨e, ?_⟩
  have := h.go
  rw [List.drop_of_length_le (by simp; omega), scanGo] at this
  exact this.symm
/-- What 'exponent' tells. -/
theorem expo_ext {a : Nat} (ha : a < pos) (hp : pos < s.size) (h45 : s[pos] = 45) (hc : cur = (s.extract a pos).data.toList) : expo cur = ((s[pos - 1] == 101) && ten s[a] && (s[a + 1] != 120)) := by
  have hlen := ext_len s a pos (by omega)
  have g0 := ext_get s a pos 0 (by omega) (by omega)
  have gl := ext_get s a pos (pos - a - 1) (by omega) (by omega)
  have hlast : cur.getLast? = some s[pos - 1] := by
    rw [List.getLast?_eq_getElem?, hc, hlen, gl]
    simp only [show a + (pos - a - 1) = pos - 1 by omega]
  cases hcur : cur with
  | nil => rw [hcur] at hlast; simp at hlast
  | cons x r =>
    have hx : x = s[a] := by
      rw [← hc, hcur] at g0
      simpa using g0
    have hl' : (x :: r).getLast? = some s[pos - 1] := by rw [← hcur]; exact hlast
    show ((x :: r).getLast? == some 101 && ten x && (match r with | [] => true | d :: _ => d != 120)) = _
    rw [hl', hx]
    have hb : (some s[pos - 1] == some (101 : UInt8)) = (s[pos - 1] == 101) := by simp
    rw [hb]
    congr 1
    cases r with
    | nil =>
      have hl1 : pos - a = 1 := by rw [← hlen, ← hc, hcur]; rfl
      have e1 : s[a + 1] = 45 := by
        have : a + 1 = pos := by omega
        simp only [this]; exact h45
      rw [e1]; rfl
    | cons d r =>
      have hl2 : 2 ≤ pos - a := by rw [← hlen, ← hc, hcur]; simp
      have g1 := ext_get s a pos 1 (by omega) (by omega)
      rw [← hc, hcur] at g1
      have hd : d = s[a + 1] := by simpa using g1
      rw [hd]
end
theorem small_word {k : UInt8} (h : 97 ≤ (k.toNat : Int) ∧ (k.toNat : Int) ≤ 122) : wordByte k = true ∧ small k = true := by
  have := (small_iff k).2 h
  simp [wordByte, this]
theorem ten_word {k : UInt8} (h : 48 ≤ (k.toNat : Int) ∧ (k.toNat : Int) ≤ 57) : wordByte k = true ∧ small k = false := by
  have h1 := (ten_iff k).2 h
  have h2 : small k = false := by
    cases hs : small k
    · rfl
    · have := (small_iff k).1 hs; omega
  simp [wordByte, h1, h2]
theorem upper_iff (k : UInt8) : upper k = true ↔ (65 ≤ (k.toNat : Int) ∧ (k.toNat : Int) ≤ 90) := by
  simp [upper, UInt8.le_iff_toNat_le]; omega
theorem upper_word {k : UInt8} (h : 65 ≤ (k.toNat : Int) ∧ (k.toNat : Int) ≤ 90) : wordByte k = true ∧ small k = false := by
  have h1 := (upper_iff k).2 h
  have h2 : small k = false := by
    cases hs : small k
    · rfl
    · have := (small_iff k).1 hs; omega
  simp [wordByte, h1, h2]
theorem eq_of_num {k : UInt8} {n : Nat} (hn : n < 256) (h : (k.toNat : Int) = (n : Int)) : k = UInt8.ofNat n := by
  apply UInt8.toNat_inj.1
  rw [UInt8.toNat_ofNat', Nat.mod_eq_of_lt hn]
  omega
theorem no_word {k : UInt8} (h97 : (k.toNat : Int) < 97 ∨ 122 < (k.toNat : Int)) (h48 : (k.toNat : Int) < 48 ∨ 57 < (k.toNat : Int)) (h65 : (k.toNat : Int) < 65 ∨ 90 < (k.toNat : Int)) (h46 : k.toNat ≠ 46) (h95 : k.toNat ≠ 95) : wordByte k = false := by
  have f : ∀ b : Bool, (b = true → False) → b = false := fun b h => by cases b <;> simp_all
  have h1 := f (small k) (fun h => by have := (small_iff k).1 h; omega)
  have h2 := f (ten k) (fun h => by have := (ten_iff k).1 h; omega)
  have h3 := f (upper k) (fun h => by have := (upper_iff k).1 h; omega)
  have h4 : (k == 46) = false := beq_eq_false_iff_ne.2 (fun e => h46 (by rw [e]; rfl))
  have h5 : (k == 95) = false := beq_eq_false_iff_ne.2 (fun e => h95 (by rw [e]; rfl))
  simp [wordByte, h1, h2, h3, h4, h5]
theorem no_word_iv {k : UInt8} (h : wordByte k = false) : (((k.toNat : Int) < 48) ∨ (58 ≤ (k.toNat : Int) ∧ (k.toNat : Int) ≤ 64) ∨ (91 ≤ (k.toNat : Int) ∧ (k.toNat : Int) ≤ 96) ∨ (122 < (k.toNat : Int))) ∧ (k.toNat : Int) ≠ 46 ∧ (k.toNat : Int) ≠ 95 := by
  have f1 : ¬ (97 ≤ (k.toNat : Int) ∧ (k.toNat : Int) ≤ 122) := fun e => by rw [(small_word e).1] at h; cases h
  have f2 : ¬ (48 ≤ (k.toNat : Int) ∧ (k.toNat : Int) ≤ 57) := fun e => by rw [(ten_word e).1] at h; cases h
  have f3 : ¬ (65 ≤ (k.toNat : Int) ∧ (k.toNat : Int) ≤ 90) := fun e => by rw [(upper_word e).1] at h; cases h
  have f4 : (k.toNat : Int) ≠ 46 := fun e => by rw [eq_of_num (n := 46) (by decide) e] at h; cases h
  have f5 : (k.toNat : Int) ≠ 95 := fun e => by rw [eq_of_num (n := 95) (by decide) e] at h; cases h
  omega
/-- The closure's contract, in these words. -/
theorem shut_scan {s : ByteArray} {w0 : World} {fr : Int} {cur : Bs} {kd : UInt8} {q i : Nat} {out : List Tok} {v : Value} {w1 : World} (h : ScanW s w0 fr kd.toNat q v out.length (flat out) w1) (hf : From s i fr cur) (hi : i ≤ s.size) (hs : s.size ≤ 1000000) (ho : out.length ≤ 1000000) :
    Calls Tryz.prog 31 #[.int .i64 i, .pointer (some ⟨w0.heap.size + 2, 0, none⟩), .pointer (some ⟨w0.heap.size + 1, 0, none⟩), .pointer (some ⟨w0.heap.size + 3, 0, none⟩), .pointer (some ⟨w0.heap.size, 0, none⟩)] w1 fun e w' =>
      e = .returned (.tuple #[]) ∧ ∃ v', ScanW s w0 (-1) kd.toNat q v' (close cur kd out).length (flat (close cur kd out)) w' := by
  rcases hf with ⟨rfl, rfl⟩ | ⟨a, rfl, ha, hc⟩
  · refine (shut_none i _ _ _ _ w1 h.cF h.fF).mono ?_
    rintro e w' ⟨rfl, rfl⟩
    exact ⟨rfl, v, h.setF (-1)⟩
  · have hne := From.ne ha hi hc
    refine (shut_some s a i (by omega) hi hs kd.toNat _ _ _ _ (w0.heap.size + 5) v out.length (flat out) ho w1 h.cF h.fF h.cO h.fO h.cK h.cS h.own (by omega) (by omega) h.lt (by omega)).mono ?_
    rintro e w' ⟨rfl, g, cap, w2, hg, hown, rfl⟩
    have e1 : close cur kd out = out ++ [⟨kd, cur⟩] := by simp [close, hne]
    refine ⟨rfl, .slice (some ⟨g, 0, none⟩) (out.length + 1) cap, ?_⟩
    rw [e1, List.length_append, flat_append]
    have hfl : flat [(⟨kd, cur⟩ : Tok)] = [.int .u8 kd.toNat, .string (s.extract a i)] := by simp only [flat, hc, bstr_ext]
    rw [hfl]
    exact (h.push hg hown).setF (-1)
end Go.Proofs.YtdkhedefcmjjgaaGreatDoor
