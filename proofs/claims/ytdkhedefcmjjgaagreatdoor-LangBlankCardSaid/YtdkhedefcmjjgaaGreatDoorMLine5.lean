/- line: joined from its kinds; what a scan's words are; what stays of a state from line to line.
Conditions: the scan's contract; the numbers' contracts at the words that a line reads. -/
import Derived.Test.YtdkhedefcmjjgaaGreatDoorMLine3
import Derived.Test.YtdkhedefcmjjgaaGreatDoorMLine4
import Derived.Test.YtdkhedefcmjjgaaGreatDoorMSpec
import Derived.Lib.SplitLaws
namespace Go.Proofs.YtdkhedefcmjjgaaGreatDoor
open Go.RowKit Sp
set_option linter.unusedVariables false
set_option linter.unusedSimpArgs false
def OkL (n : Nat) (ts : List Tok) : Prop := ∀ t ∈ ts, t.kind.toNat < 128 ∧ t.text.length ≤ n
theorem okL_close {n : Nat} {cur : Bs} {kd : UInt8} {out : List Tok} (ho : OkL n out) (hc : cur.length ≤ n) (hk : kd.toNat < 128) : OkL n (close cur kd out) := by
  unfold close
  split
  · exact ho
  · intro t ht
    rcases List.mem_append.1 ht with h | h
    · exact ho t h
    · obtain rfl : t = ⟨kd, cur⟩ := by simpa using h
      exact ⟨hk, hc⟩
theorem isSign_lt {c : UInt8} (h : isSign c = true) : c.toNat < 128 := by
  have : c ∈ ([43, 45, 42, 47, 64, 40, 41, 44, 61] : List UInt8) := by simpa [isSign] using h
  simp at this
  rcases this with h | h | h | h | h | h | h | h | h <;> (rw [h]; decide)
theorem scanGo_ok (n : Nat) : ∀ (l cur : Bs) (kd : UInt8) (out ts : List Tok), scanGo l cur kd out = some ts → OkL n out → cur.length + l.length ≤ n → kd.toNat < 128 → OkL n ts ∧ ts.length ≤ out.length + (if cur = [] then 0 else 1) + l.length
  | [], cur, kd, out, ts, h, ho, hl, hk => by
    rw [scanGo] at h
    injection h with h
    subst h
    exact ⟨okL_close ho (by simpa using hl) hk, by rw [close_len]; simp⟩
  | c :: l, cur, kd, out, ts, h, ho, hl, hk => by
    have hl' : cur.length + (l.length + 1) ≤ n := hl
    rw [scanGo] at h
    split at h
    · split at h
      · rename_i h1 h2
        have hc : cur = [] := by simpa using h2
        have := scanGo_ok n l _ _ _ _ h ho (by simp; omega) (by split <;> decide)
        refine ⟨this.1, ?_⟩
        have h3 := this.2
        simp [hc] at h3 ⊢
        omega
      · rename_i h1 h2
        have hc : cur ≠ [] := by simpa using h2
        have := scanGo_ok n l _ _ _ _ h ho (by simp; omega) hk
        refine ⟨this.1, ?_⟩
        have h3 := this.2
        simp [hc] at h3 ⊢
        omega
    · split at h
      · rename_i h1 h2
        have := scanGo_ok n l _ _ _ _ h ho (by simp; omega) hk
        refine ⟨this.1, ?_⟩
        have h3 := this.2
        simp at h3 ⊢
        omega
      · split at h
        · have := scanGo_ok n l _ _ _ _ h (okL_close ho (by omega) hk) (by simp; omega) hk
          refine ⟨this.1, ?_⟩
          have h3 := this.2
          rw [close_len] at h3
          simp at h3 ⊢
          omega
        · split at h
          · rename_i h4
            have ho' : OkL n (close cur kd out ++ [⟨c, [c]⟩]) := by
              intro t ht
              rcases List.mem_append.1 ht with h | h
              · exact okL_close ho (by omega) hk t h
              · obtain rfl : t = ⟨c, [c]⟩ := by simpa using h
                exact ⟨isSign_lt h4, by simp; omega⟩
            have := scanGo_ok n l _ _ _ _ h ho' (by simp; omega) hk
            refine ⟨this.1, ?_⟩
            have h3 := this.2
            rw [List.length_append, close_len] at h3
            simp at h3 ⊢
            omega
          · cases h
theorem scan_okTs {l : Bs} {ts : List Tok} (h : Sp.scan l = some ts) (hl : l.length ≤ 70000) : OkTs ts := by
  have := scanGo_ok 70000 l [] 0 [] ts h (by intro t ht; cases ht) (by simpa using hl) (by decide)
  exact ⟨by have := this.2; simp at this; omega, this.1⟩
/-- What stays of a state from line to line. -/
structure Fit (s : St) (k : Nat) : Prop where
  s0 : 0 ≤ s.seen
  sk : s.seen ≤ k
  dk : s.decls.length ≤ k
  w : 2 ≤ s.seen → s.width = 32 ∨ s.width = 64
theorem Fit.line {m : Nums} {s s' : St} {k : Nat} {l : Bs} {i : Int} (h : Fit s k) (hl : Sp.line m s l i = .ok s') : Fit s' (k + 1) := by
  obtain ⟨h0, h1, h2, h3⟩ := h
  unfold Sp.line at hl
  split at hl
  · injection hl with hl
    subst hl
    exact ⟨h0, by omega, by omega, h3⟩
  · split at hl
    · cases hl
    · rename_i ts hts
      by_cases z1 : s.seen = 0
      · rw [lineToks_1 m s ts i z1] at hl
        split at hl
        · cases hl
        · split at hl
          · cases hl
          · split at hl
            · cases hl
            · split at hl
              · cases hl
              · injection hl with hl
                subst hl
                exact ⟨by simp; omega, by simp; omega, by simp; omega, fun h => by simp at h; omega⟩
      · by_cases z2 : s.seen = 1
        · rw [lineToks_2 m s ts i z2] at hl
          split at hl
          · cases hl
          · split at hl
            · cases hl
            · split at hl
              · cases hl
              · split at hl
                · cases hl
                · split at hl
                  · cases hl
                  · rename_i hne _
                    injection hl with hl
                    subst hl
                    refine ⟨by simp; omega, by simp; omega, by simp; omega, fun _ => ?_⟩
                    simp only
                    rw [Classical.not_and_iff_not_or_not, Classical.not_not, Classical.not_not] at hne
                    exact hne
        · rw [lineToks_3 m s ts i (by omega)] at hl
          split at hl
          · cases hl
          · injection hl with hl
            subst hl
            exact ⟨by simp; omega, by simp; omega, by simp; omega, fun _ => h3 (by omega)⟩
/-- The words whose numbers a line may read. -/
def LineNums (m : Nums) (s : St) (l : Bs) : Prop := 2 ≤ s.seen → ∀ ts, Sp.scan l = some ts → LateNums m ts
def ScanC (l : Bs) : Prop := ∀ W, Env W → Calls Tryz.prog 15 #[.string (bstr l)] W (ScanPost l W)
theorem line_any (m : Nums) (hm : ∀ s, m.whole s = wholeF s) (wb : World) (S : Nat) (s : St) (w : World) (hst : StAt wb S s w) (l : Bs) (i : Int) (hl : l.length ≤ 70000) (hsc : ScanC l) {k : Nat} (hf : Fit s k) (hk : k ≤ 1000000) (hN : LineNums m s l) :
    Calls Tryz.prog 10 #[.pointer (some ⟨S, 0, none⟩), .string (bstr l), .int .i64 i] w (LinePost wb S (Sp.line m s l i) w) := by
  cases hv : void l with
  | true => exact line_void m wb S s w hst l i hl hv
  | false =>
    cases hs : Sp.scan l with
    | none => exact line_noscan m wb S s w hst l i hl hv hs hsc
    | some ts =>
      have hok := scan_okTs hs hl
      by_cases z1 : s.seen = 0
      · exact line_1 m wb S s w hst l i hl hv ts hs hok hsc z1
      · by_cases z2 : s.seen = 1
        · exact line_2 m wb S s w hst l i hl hv ts hs hok hm hsc z2
        · have h0 := hf.s0
          have h1 := hf.sk
          have h2 := hf.dk
          exact line_3 m wb S s w hst l i hl hv ts hs hok hm (hf.w (by omega)) (hN (by omega) ts hs) (by omega) hsc ⟨by omega, by omega⟩
end Go.Proofs.YtdkhedefcmjjgaaGreatDoor
/- A text's lines: what strings.Split tells at a line's end, and the specification's lines, are one.
Conditions: none. -/
namespace Go.Proofs.YtdkhedefcmjjgaaGreatDoor
open Go.RowKit Sp
set_option linter.unusedVariables false
set_option linter.unusedSimpArgs false
def split1 (l : Bs) : List Bs := Lib.splitK [10] 0 (Lib.count l [10]) l
theorem split1_ne (l : Bs) : split1 l ≠ [] := by
  unfold split1
  cases Lib.count l [10] with
  | zero => simp [Lib.splitK]
  | succ k => unfold Lib.splitK; split <;> simp
def putFirst (cur : Bs) : List Bs → List Bs
  | [] => [cur]
  | p :: r => (cur ++ p) :: r
theorem putFirst_nil (l : List Bs) (h : l ≠ []) : putFirst [] l = l := by
  cases l with
  | nil => exact absurd rfl h
  | cons p r => rfl
theorem splitGo_eq : ∀ (l cur : Bs), splitGo l cur = putFirst cur (split1 l)
  | [], cur => by
    have h0 : Lib.count ([] : Bs) [10] = 0 := Lib.count_miss (by simp [Lib.index])
    rw [splitGo, split1, h0]
    simp [Lib.splitK, putFirst]
  | c :: l, cur => by
    by_cases hc : c = 10
    · subst hc
      rw [splitGo, if_pos rfl, splitGo_eq l [], putFirst_nil _ (split1_ne l)]
      have hix : Lib.index (10 :: l) [10] = ((0 : Nat) : Int) := by rw [Lib.index]; simp [List.isPrefixOf]
      have hs : split1 (10 :: l) = [] :: split1 l := by
        rw [split1, Lib.count_cons_eq, Nat.add_comm, Lib.splitK, if_neg (by rw [hix]; decide), hix]
        rfl
      rw [hs]
      simp [putFirst]
    · rw [splitGo, if_neg hc, splitGo_eq l (cur ++ [c])]
      have hp : ([10] : List UInt8).isPrefixOf (c :: l) = false := by simp [List.isPrefixOf, Ne.symm hc]
      have hix : Lib.index (c :: l) [10] = if Lib.index l [10] == -1 then -1 else Lib.index l [10] + 1 := by rw [Lib.index, hp]; simp
      have hcnt : Lib.count (c :: l) [10] = Lib.count l [10] := Lib.count_cons_ne c 10 l hc
      by_cases hm : Lib.index l [10] = -1
      · have h0 : Lib.count l [10] = 0 := Lib.count_miss hm
        simp only [split1, hcnt, h0, Lib.splitK, putFirst, List.append_assoc, List.cons_append, List.nil_append]
      · have hge := Lib.index_ge l [10]
        obtain ⟨j, hj⟩ : ∃ j : Nat, Lib.index l [10] = j := ⟨(Lib.index l [10]).toNat, by omega⟩
        have hix' : Lib.index (c :: l) [10] = ((j + 1 : Nat) : Int) := by rw [hix, if_neg (fun e => hm (beq_iff_eq.1 e)), hj]; omega
        have hcl := Lib.count_hit (sub := [10]) (by simp) hj
        have e1 : split1 l = l.take j :: Lib.splitK [10] 0 (Lib.count (l.drop (j + 1)) [10]) (l.drop (j + 1)) := by
          rw [split1, hcl, Nat.add_comm]
          rw [Lib.splitK, if_neg (by rw [hj]; exact fun e => hm (by rw [hj]; exact beq_iff_eq.1 e)), hj]
          simp
        have e2 : split1 (c :: l) = (c :: l.take j) :: Lib.splitK [10] 0 (Lib.count (l.drop (j + 1)) [10]) (l.drop (j + 1)) := by
          rw [split1, hcnt, hcl, Nat.add_comm]
          rw [Lib.splitK, if_neg (by rw [hix']; exact fun e => by have := beq_iff_eq.1 e; omega), hix']
          simp
        rw [e1, e2]
        simp [putFirst]
theorem split_bstr (t : Bs) : Lib.splitB (bstr [10]) 0 (Lib.countB (bstr t) (bstr [10])) (bstr t) = (splitGo t []).map bstr := by
  have h := Lib.splitB_data (bstr [10]) 0 (Lib.countB (bstr t) (bstr [10])) (bstr t)
  have hc : Lib.countB (bstr t) (bstr [10]) = Lib.count t [10] := by unfold Lib.countB; rw [bstr_data, bstr_data]
  rw [bstr_data, bstr_data] at h
  rw [splitGo_eq, putFirst_nil _ (split1_ne t), split1, ← hc, ← h, List.map_map]
  have : (bstr ∘ fun x : ByteArray => x.data.toList) = id := funext fun x => bstr_of x
  rw [this, List.map_id]
theorem splitGo_len (t : Bs) : (splitGo t []).length = Lib.countB (bstr t) (bstr [10]) + 1 := by
  have := congrArg List.length (split_bstr t)
  rw [Lib.splitB_all (bstr [10]) (by rw [bstr_size]; decide) 0 _ (bstr t) rfl, List.length_map] at this
  omega
theorem splitGo_bound : ∀ (l cur : Bs), (∀ p ∈ splitGo l cur, p.length ≤ cur.length + l.length) ∧ (splitGo l cur).length ≤ l.length + 1
  | [], cur => by simp [splitGo]
  | c :: l, cur => by
    rw [splitGo]
    split
    · have h := splitGo_bound l []
      refine ⟨fun p hp => ?_, by simp; have := h.2; omega⟩
      rcases List.mem_cons.1 hp with rfl | hp
      · simp
      · have := h.1 p hp; simp at this ⊢; omega
    · have h := splitGo_bound l (cur ++ [c])
      refine ⟨fun p hp => ?_, by have := h.2; simp at this ⊢; omega⟩
      have := h.1 p hp; simp at this ⊢; omega
end Go.Proofs.YtdkhedefcmjjgaaGreatDoor
