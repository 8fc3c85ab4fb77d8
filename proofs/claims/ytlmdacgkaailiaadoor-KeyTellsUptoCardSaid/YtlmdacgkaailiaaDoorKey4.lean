/- key: which key stands ahead. -/
import Derived.Test.YtlmdacgkaailiaaDoorKey3
namespace Go.Proofs.YtlmdacgkaailiaaDoor
open Go.Ve

theorem nanI_ok (a : Int) : PCall P 91 [.int .i64 a] (.bool false) := by
  refine PCall.of_awp tok mixed fn91 (Nat.le_of_ble_eq_true rfl) ?_
  conv => whnf
  repeat' first | ((with_reducible refine Box.mk ?_); conv => whnf) | ((with_reducible refine And.intro (fun _ => ?_) (fun _ => ?_)) <;> conv => whnf) | fail
  · rfl
  · exact absurd rfl ‹¬ a = a›
theorem nanU_ok (a : Int) : PCall P 99 [.int .u64 a] (.bool false) := by
  refine PCall.of_awp tok mixed fn99 (Nat.le_of_ble_eq_true rfl) ?_
  conv => whnf
  repeat' first | ((with_reducible refine Box.mk ?_); conv => whnf) | ((with_reducible refine And.intro (fun _ => ?_) (fun _ => ?_)) <;> conv => whnf) | fail
  · rfl
  · exact absurd rfl ‹¬ a = a›
def cmpI (a b : Int) : Int := if a < b then -1 else if b < a then 1 else 0
theorem cmpI_ok (a b : Int) : PCall P 82 [.int .i64 a, .int .i64 b] (.int .i64 (cmpI a b)) := by
  refine PCall.of_awp tok mixed fn82 (Nat.le_of_ble_eq_true rfl) ?_
  conv => whnf
  repeat' first | ((with_reducible refine Box.mk ?_); conv => whnf) | ((with_reducible refine And.intro (fun _ => ?_) (fun _ => ?_)) <;> conv => whnf) | fail
  refine ACall.of_pure (nanI_ok a) rfl ?_
  conv => whnf
  repeat' first | ((with_reducible refine Box.mk ?_); conv => whnf) | ((with_reducible refine And.intro (fun _ => ?_) (fun _ => ?_)) <;> conv => whnf) | fail
  refine ACall.of_pure (nanI_ok b) rfl ?_
  conv => whnf
  repeat' first | ((with_reducible refine Box.mk ?_); conv => whnf) | ((with_reducible refine And.intro (fun _ => ?_) (fun _ => ?_)) <;> conv => whnf) | fail
  all_goals (refine res1_eq (congrArg (AV.int .i64) ?_); unfold cmpI)
  · rename_i h; rw [if_pos h]
  · rename_i h h'; rw [if_neg h, if_pos h']
  · rename_i h h'; rw [if_neg h, if_neg h']
theorem cmpU_ok (a b : Int) : PCall P 92 [.int .u64 a, .int .u64 b] (.int .i64 (cmpI a b)) := by
  refine PCall.of_awp tok mixed fn92 (Nat.le_of_ble_eq_true rfl) ?_
  conv => whnf
  repeat' first | ((with_reducible refine Box.mk ?_); conv => whnf) | ((with_reducible refine And.intro (fun _ => ?_) (fun _ => ?_)) <;> conv => whnf) | fail
  refine ACall.of_pure (nanU_ok a) rfl ?_
  conv => whnf
  repeat' first | ((with_reducible refine Box.mk ?_); conv => whnf) | ((with_reducible refine And.intro (fun _ => ?_) (fun _ => ?_)) <;> conv => whnf) | fail
  refine ACall.of_pure (nanU_ok b) rfl ?_
  conv => whnf
  repeat' first | ((with_reducible refine Box.mk ?_); conv => whnf) | ((with_reducible refine And.intro (fun _ => ?_) (fun _ => ?_)) <;> conv => whnf) | fail
  all_goals (refine res1_eq (congrArg (AV.int .i64) ?_); unfold cmpI)
  · rename_i h; rw [if_pos h]
  · rename_i h h'; rw [if_neg h, if_pos h']
  · rename_i h h'; rw [if_neg h, if_neg h']

/-- The first number that is not 0. -/
def orI : List Int → Int
  | [] => 0
  | x :: xs => if x = 0 then orI xs else x
def ints (l : List Int) : List (List AV) := l.map fun x => [.int .i64 x]
theorem orI_hit : ∀ {l : List Int} {i : Nat} {x : Int}, l[i]? = some x → x ≠ 0 → (∀ j y, j < i → l[j]? = some y → y = 0) → orI l = x
  | [], i, x, h, _, _ => by simp at h
  | y :: l, 0, x, h, hx, _ => by simp at h; subst h; simp [orI, hx]
  | y :: l, i + 1, x, h, hx, hn => by
    rw [orI, if_pos (hn 0 y (by omega) rfl), orI_hit (i := i) (by simpa using h) hx fun j z hj hz => hn (j + 1) z (by omega) (by simpa using hz)]
theorem orI_miss : ∀ {l : List Int}, (∀ y ∈ l, y = 0) → orI l = 0
  | [], _ => rfl
  | y :: l, h => by rw [orI, if_pos (h y List.mem_cons_self), orI_miss fun z hz => h z (List.mem_cons_of_mem _ hz)]
theorem or_ok (l : List Int) (hl : l.length ≤ 9223372036854775807) : PCall P 81 [.sl (ints l)] (.int .i64 (orI l)) := by
  have hlen : (ints l).length = l.length := by simp [ints]
  refine PCall.of_awp tok mixed fn81 (Nat.le_of_ble_eq_true rfl) ?_
  conv => whnf
  repeat' first | ((with_reducible refine Box.mk ?_); conv => whnf) | ((with_reducible refine And.intro (fun _ => ?_) (fun _ => ?_)) <;> conv => whnf) | fail
  refine aloop (fun i => i ≤ l.length ∧ ∀ j y, j < i → l[j]? = some y → y = 0) (fun i : Nat => ⟨envL [(3, .int .i64 0), (6, .sl (ints l)), (7, .int .i64 l.length), (8, .int .i64 i)], []⟩) (fun i => l.length - i) 0
    ⟨Nat.zero_le _, fun j y h => by omega⟩ (weak_to ⟨rfl, rfl, by show AV.int _ _ = _; rw [hlen], rfl, trivial⟩ rfl) ?_
  rintro i ⟨hi, hz⟩
  conv => whnf
  repeat' first | ((with_reducible refine Box.mk ?_); conv => whnf) | ((with_reducible refine And.intro (fun _ => ?_) (fun _ => ?_)) <;> conv => whnf) | fail
  · rename_i hlt
    have hlt' : i < l.length := by omega
    refine ⟨by omega, [.int .i64 l[i]], by show (ints l)[i]? = _; simp [ints, hlt'], rfl, ?_⟩
    conv => whnf
    repeat' first | ((with_reducible refine Box.mk ?_); conv => whnf) | ((with_reducible refine And.intro (fun _ => ?_) (fun _ => ?_)) <;> conv => whnf) | fail
    · rename_i h0
      refine ⟨i + 1, ⟨hlt', fun j y hj hy => ?_⟩, by omega, weak_to ⟨rfl, rfl, rfl, wrap_nat (m := 1) (by omega), trivial⟩ rfl⟩
      by_cases hji : j = i
      · subst hji
        rw [List.getElem?_eq_getElem hlt'] at hy
        rw [← Option.some.inj hy]; exact h0
      · exact hz j y (by omega) hy
    · rename_i h0
      refine res1_eq (congrArg (AV.int .i64) ?_)
      rw [orI_hit (List.getElem?_eq_getElem hlt') h0 hz]
  · refine res1_eq (congrArg (AV.int .i64) ?_)
    rw [orI_miss]
    intro y hy
    obtain ⟨j, hj⟩ := List.getElem?_of_mem hy
    exact hz j y (by have := (List.getElem?_eq_some_iff.1 hj).1; omega) hj
end Go.Proofs.YtlmdacgkaailiaaDoor
