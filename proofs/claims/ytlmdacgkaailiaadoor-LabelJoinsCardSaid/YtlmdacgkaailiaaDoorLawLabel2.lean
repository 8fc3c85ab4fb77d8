/- label: the walk of the statement on joined labels. -/
import Derived.Test.YtlmdacgkaailiaaDoorLawLabel
namespace Go.Proofs.YtlmdacgkaailiaaDoor
open Go.Ve

theorem joinR_bad {l : List Bs} (h : l.all isLabel = false) : joinR l = .tup [.str [], .int .i64 3] := by
  have : l.any (fun s => !isLabel s) = true := by simpa [List.all_eq_false] using h
  unfold joinR; rw [this]; rfl
theorem joinR_long {l : List Bs} (h : l.all isLabel = true) (h8 : 8 < l.length) : joinR l = .tup [.str [], .int .i64 2] := by
  have : l.any (fun s => !isLabel s) = false := by simpa [List.all_eq_true] using h
  unfold joinR; rw [this, decide_eq_true h8]; rfl
theorem joinR_good {l : List Bs} (h : l.all isLabel = true) (h8 : ¬ 8 < l.length) : joinR l = .tup [.str (joinD l), .int .i64 0] := by
  have : l.any (fun s => !isLabel s) = false := by simpa [List.all_eq_true] using h
  unfold joinR; rw [this, decide_eq_false h8]; rfl

theorem LabelJoins_ok (l : List Bs) (hx : ∀ x ∈ l, x.length ≤ 9223372036854775807) (hl : l.length ≤ 9223372036854775807) : PCall P 4 [.sl (strs l)] (.bool true) := by
  refine PCall.of_awp tok mixed fn4 (Nat.le_of_ble_eq_true rfl) ?_
  conv => whnf
  repeat' first | ((with_reducible refine Box.mk ?_); conv => whnf) | ((with_reducible refine And.intro (fun _ => ?_) (fun _ => ?_)) <;> conv => whnf) | fail
  refine aloop (fun i => i ≤ l.length ∧ (0 < i → l.length ≤ 30) ∧ ∀ x ∈ l.take i, x.length ≤ 100) (fun i : Nat => ⟨envL [(0, .sl (strs l)), (3, .bool ((l.take i).all isLabel)), (4, .int .i64 i)], []⟩) (fun i => l.length - i) 0
    ⟨Nat.zero_le _, fun h => by omega, fun x hx => by simp at hx⟩ (weak_to ⟨rfl, rfl, rfl, trivial⟩ rfl) ?_
  rintro i ⟨hi, h30, h100⟩
  have next : ∀ hlt : i < l.length, l.take (i + 1) = l.take i ++ [l[i]] := fun hlt => List.take_succ_eq_append_getElem hlt
  cases hr : (l.take i).all isLabel
  · (conv => whnf); (repeat' first | ((with_reducible refine Box.mk ?_); conv => whnf) | ((with_reducible refine And.intro (fun _ => ?_) (fun _ => ?_)) <;> conv => whnf) | fail)
    · rename_i h1 h2
      refine ACall.of_pure alive_ok rfl ?_
      (conv => whnf); (repeat' first | ((with_reducible refine Box.mk ?_); conv => whnf) | ((with_reducible refine And.intro (fun _ => ?_) (fun _ => ?_)) <;> conv => whnf) | fail)
      rfl
    · rename_i h1 h2
      rw [strs_len] at h1 h2
      have hlt : i < l.length := by omega
      refine ⟨by omega, [.str l[i]], strs_at hlt, rfl, ?_⟩
      conv => whnf
      repeat' first | ((with_reducible refine Box.mk ?_); conv => whnf) | ((with_reducible refine And.intro (fun _ => ?_) (fun _ => ?_)) <;> conv => whnf) | fail
      · refine ACall.of_pure alive_ok rfl ?_
        (conv => whnf); (repeat' first | ((with_reducible refine Box.mk ?_); conv => whnf) | ((with_reducible refine And.intro (fun _ => ?_) (fun _ => ?_)) <;> conv => whnf) | fail)
        rfl
      · rename_i h3
        refine ⟨i + 1, ⟨hlt, fun _ => by omega, fun x hx => ?_⟩, by omega, weak_to ⟨rfl, ?_, wrap_nat (m := 1) (by omega), trivial⟩ rfl⟩
        · rw [next hlt] at hx
          rcases List.mem_append.1 hx with hx | hx
          · exact h100 x hx
          · rw [List.mem_singleton.1 hx]; omega
        · rw [next hlt, List.all_append, hr]; rfl
    · rename_i h1
      rw [strs_len] at h1
      have ht : l.take i = l := List.take_of_length_le (by omega)
      rw [ht] at hr
      refine ACall.of_pure (pEq (lJoin_ok l hx hl) (joinR_bad hr)) rfl ?_
      (conv => whnf); (repeat' first | ((with_reducible refine Box.mk ?_); conv => whnf) | ((with_reducible refine And.intro (fun _ => ?_) (fun _ => ?_)) <;> conv => whnf) | fail)
      refine ACall.of_pure alive_ok rfl ?_
      (conv => whnf); (repeat' first | ((with_reducible refine Box.mk ?_); conv => whnf) | ((with_reducible refine And.intro (fun _ => ?_) (fun _ => ?_)) <;> conv => whnf) | fail)
      all_goals first
        | rfl
        | (rename_i hbad; exact absurd rfl hbad)
  · (conv => whnf); (repeat' first | ((with_reducible refine Box.mk ?_); conv => whnf) | ((with_reducible refine And.intro (fun _ => ?_) (fun _ => ?_)) <;> conv => whnf) | fail)
    · rename_i h1 h2
      refine ACall.of_pure alive_ok rfl ?_
      (conv => whnf); (repeat' first | ((with_reducible refine Box.mk ?_); conv => whnf) | ((with_reducible refine And.intro (fun _ => ?_) (fun _ => ?_)) <;> conv => whnf) | fail)
      rfl
    · rename_i h1 h2
      rw [strs_len] at h1 h2
      have hlt : i < l.length := by omega
      refine ⟨by omega, [.str l[i]], strs_at hlt, rfl, ?_⟩
      conv => whnf
      repeat' first | ((with_reducible refine Box.mk ?_); conv => whnf) | ((with_reducible refine And.intro (fun _ => ?_) (fun _ => ?_)) <;> conv => whnf) | fail
      · refine ACall.of_pure alive_ok rfl ?_
        (conv => whnf); (repeat' first | ((with_reducible refine Box.mk ?_); conv => whnf) | ((with_reducible refine And.intro (fun _ => ?_) (fun _ => ?_)) <;> conv => whnf) | fail)
        rfl
      · rename_i h3
        refine ⟨by omega, [.str l[i]], strs_at hlt, rfl, ?_⟩
        conv => whnf
        repeat' first | ((with_reducible refine Box.mk ?_); conv => whnf) | ((with_reducible refine And.intro (fun _ => ?_) (fun _ => ?_)) <;> conv => whnf) | fail
        refine ACall.of_pure (refIsLabel_ok l[i] (hx _ (List.getElem_mem hlt))) rfl ?_
        (conv => whnf); (repeat' first | ((with_reducible refine Box.mk ?_); conv => whnf) | ((with_reducible refine And.intro (fun _ => ?_) (fun _ => ?_)) <;> conv => whnf) | fail)
        refine ⟨i + 1, ⟨hlt, fun _ => by omega, fun x hx => ?_⟩, by omega, weak_to ⟨rfl, ?_, wrap_nat (m := 1) (by omega), trivial⟩ rfl⟩
        · rw [next hlt] at hx
          rcases List.mem_append.1 hx with hx | hx
          · exact h100 x hx
          · rw [List.mem_singleton.1 hx]; omega
        · rw [next hlt, List.all_append, hr]; simp; rfl
    · rename_i h1
      rw [strs_len] at h1
      have ht : l.take i = l := List.take_of_length_le (by omega)
      rw [ht] at hr h100
      have h30' : l.length ≤ 30 := by
        rcases Nat.eq_zero_or_pos i with h0 | h0
        · omega
        · exact h30 h0
      by_cases h8 : 8 < l.length
      · refine ACall.of_pure (pEq (lJoin_ok l hx hl) (joinR_long hr h8)) rfl ?_
        (conv => whnf); (repeat' first | ((with_reducible refine Box.mk ?_); conv => whnf) | ((with_reducible refine And.intro (fun _ => ?_) (fun _ => ?_)) <;> conv => whnf) | fail)
        · refine ACall.of_pure alive_ok rfl ?_
          (conv => whnf); (repeat' first | ((with_reducible refine Box.mk ?_); conv => whnf) | ((with_reducible refine And.intro (fun _ => ?_) (fun _ => ?_)) <;> conv => whnf) | fail)
          all_goals first
            | rfl
            | (rename_i hbad; exact absurd rfl hbad)
        · rename_i h9
          rw [strs_len] at h9
          omega
      · refine ACall.of_pure (pEq (lJoin_ok l hx hl) (joinR_good hr h8)) rfl ?_
        (conv => whnf); (repeat' first | ((with_reducible refine Box.mk ?_); conv => whnf) | ((with_reducible refine And.intro (fun _ => ?_) (fun _ => ?_)) <;> conv => whnf) | fail)
        · rename_i h9
          rw [strs_len] at h9
          omega
        · refine ACall.of_pure alive_ok rfl ?_
          (conv => whnf); (repeat' first | ((with_reducible refine Box.mk ?_); conv => whnf) | ((with_reducible refine And.intro (fun _ => ?_) (fun _ => ?_)) <;> conv => whnf) | fail)
          · have hb : l.length * 100 ≤ 30 * 100 := Nat.mul_le_mul_right _ h30'
            refine ACall.of_pure (refJoin_ok l 100 h100 (by omega) (by omega)) rfl ?_
            (conv => whnf); (repeat' first | ((with_reducible refine Box.mk ?_); conv => whnf) | ((with_reducible refine And.intro (fun _ => ?_) (fun _ => ?_)) <;> conv => whnf) | fail)
            all_goals first
              | rfl
              | (rename_i hbad; exact absurd rfl hbad)
          · rename_i hbad; exact absurd rfl hbad
end Go.Proofs.YtlmdacgkaailiaaDoor
