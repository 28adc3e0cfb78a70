/- A text's lines: what strings.Split tells at a line's end, and the specification's lines, are one.
Conditions: none. -/
import Derived.Test.YtdkhedefcmjjgaaGreatDoorMem
import Derived.Lib.SplitLaws
namespace Go.Proofs.YtdkhedefcmjjgaaGreatDoor
open Go.RowKit Sp
set_option linter.unusedVariables false
set_option linter.unusedSimpArgs false
def split1 (l : Bs) : List Bs := Lib.splitK [10] 0 (Lib.count l [10]) l
theorem split1_ne (l : Bs) : split1 l ≠ [] := by
  unfold split1
  cases Lib.count l [10] with
  | zero => simp [Lib.splitK]
  | succ k => unfold Lib.splitK; split <;> simp
def putFirst (cur : Bs) : List Bs → List Bs
  | [] => [cur]
  | p :: r => (cur ++ p) :: r
theorem putFirst_nil (l : List Bs) (h : l ≠ []) : putFirst [] l = l := by
  cases l with
  | nil => exact absurd rfl h
  | cons p r => rfl
theorem splitGo_eq : ∀ (l cur : Bs), splitGo l cur = putFirst cur (split1 l)
  | [], cur => by
    have h0 : Lib.count ([] : Bs) [10] = 0 := Lib.count_miss (by simp [Lib.index])
    rw [splitGo, split1, h0]
    simp [Lib.splitK, putFirst]
  | c :: l, cur => by
    by_cases hc : c = 10
    · subst hc
      rw [splitGo, if_pos rfl, splitGo_eq l [], putFirst_nil _ (split1_ne l)]
      have hix : Lib.index (10 :: l) [10] = ((0 : Nat) : Int) := by rw [Lib.index]; simp [List.isPrefixOf]
      have hs : split1 (10 :: l) = [] :: split1 l := by
        rw [split1, Lib.count_cons_eq, Nat.add_comm, Lib.splitK, if_neg (by rw [hix]; decide), hix]
        rfl
      rw [hs]
      simp [putFirst]
    · rw [splitGo, if_neg hc, splitGo_eq l (cur ++ [c])]
      have hp : ([10] : List UInt8).isPrefixOf (c :: l) = false := by simp [List.isPrefixOf, Ne.symm hc]
      have hix : Lib.index (c :: l) [10] = if Lib.index l [10] == -1 then -1 else Lib.index l [10] + 1 := by rw [Lib.index, hp]; simp
      have hcnt : Lib.count (c :: l) [10] = Lib.count l [10] := Lib.count_cons_ne c 10 l hc
      by_cases hm : Lib.index l [10] = -1
      · have h0 : Lib.count l [10] = 0 := Lib.count_miss hm
        simp only [split1, hcnt, h0, Lib.splitK, putFirst, List.append_assoc, List.cons_append, List.nil_append]
      · have hge := Lib.index_ge l [10]
        obtain ⟨j, hj⟩ : ∃ j : Nat, Lib.index l [10] = j := ⟨(Lib.index l [10]).toNat, by omega⟩
        have hix' : Lib.index (c :: l) [10] = ((j + 1 : Nat) : Int) := by rw [hix, if_neg (fun e => hm (beq_iff_eq.1 e)), hj]; omega
        have hcl := Lib.count_hit (sub := [10]) (by simp) hj
        have e1 : split1 l = l.take j :: Lib.splitK [10] 0 (Lib.count (l.drop (j + 1)) [10]) (l.drop (j + 1)) := by
          rw [split1, hcl, Nat.add_comm]
          rw [Lib.splitK, if_neg (by rw [hj]; exact fun e => hm (by rw [hj]; exact beq_iff_eq.1 e)), hj]
          simp
        have e2 : split1 (c :: l) = (c :: l.take j) :: Lib.splitK [10] 0 (Lib.count (l.drop (j + 1)) [10]) (l.drop (j + 1)) := by
          rw [split1, hcnt, hcl, Nat.add_comm]
          rw [Lib.splitK, if_neg (by rw [hix']; exact fun e => by have := beq_iff_eq.1 e; omega), hix']
          simp
        rw [e1, e2]
        simp [putFirst]
theorem split_bstr (t : Bs) : Lib.splitB (bstr [10]) 0 (Lib.countB (bstr t) (bstr [10])) (bstr t) = (splitGo t []).map bstr := by
  have h := Lib.splitB_data (bstr [10]) 0 (Lib.countB (bstr t) (bstr [10])) (bstr t)
  have hc : Lib.countB (bstr t) (bstr [10]) = Lib.count t [10] := by unfold Lib.countB; rw [bstr_data, bstr_data]
  rw [bstr_data, bstr_data] at h
  rw [splitGo_eq, putFirst_nil _ (split1_ne t), split1, ← hc, ← h, List.map_map]
  have : (bstr ∘ fun x : ByteArray => x.data.toList) = id := funext fun x => bstr_of x
  rw [this, List.map_id]
theorem splitGo_len (t : Bs) : (splitGo t []).length = Lib.countB (bstr t) (bstr [10]) + 1 := by
  have := congrArg List.length (split_bstr t)
  rw [Lib.splitB_all (bstr [10]) (by rw [bstr_size]; decide) 0 _ (bstr t) rfl, List.length_map] at this
  omega
theorem splitGo_bound : ∀ (l cur : Bs), (∀ p ∈ splitGo l cur, p.length ≤ cur.length + l.length) ∧ (splitGo l cur).length ≤ l.length + 1
  | [], cur => by simp [splitGo]
  | c :: l, cur => by
    rw [splitGo]
    split
    · have h := splitGo_bound l []
      refine ⟨fun p hp => ?_, by simp; have := h.2; omega⟩
      rcases List.mem_cons.1 hp with rfl | hp
      · simp
      · have := h.1 p hp; simp at this ⊢; omega
    · have h := splitGo_bound l (cur ++ [c])
      refine ⟨fun p hp => ?_, by have := h.2; simp at this ⊢; omega⟩
      have := h.1 p hp; simp at this ⊢; omega
end Go.Proofs.YtdkhedefcmjjgaaGreatDoor
