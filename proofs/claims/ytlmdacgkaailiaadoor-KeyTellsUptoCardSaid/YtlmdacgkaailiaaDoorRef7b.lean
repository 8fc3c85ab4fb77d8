/- key, the document's answer: a key's letters. -/
import Derived.Test.YtlmdacgkaailiaaDoorRef7
namespace Go.Proofs.YtlmdacgkaailiaaDoor
open Go.Ve

def letter (N i : Nat) : Bs := if N.testBit (127 - i) then [49] else [48]
def letB (N n : Nat) : List Bs := (List.range n).map (letter N)
theorem letB_len (N n : Nat) : (letB N n).length = n := by simp [letB]
theorem letB_succ (N n : Nat) : letB N (n + 1) = letB N n ++ [letter N n] := by simp [letB, List.range_succ]
theorem low_zero {N n : Nat} (hn : n ≤ 128) : (∀ i, n ≤ i → i < 128 → N.testBit (127 - i) = false) ↔ N = topN N n := by
  have tb : ∀ j, (topN N n).testBit j = (decide (128 - n ≤ j) && N.testBit j) := fun j => by
    unfold topN
    rw [Nat.mul_comm, Nat.testBit_two_pow_mul, Nat.testBit_div_two_pow]
    by_cases h : 128 - n ≤ j
    · simp [h]
    · simp [h]
  refine ⟨fun h => ?_, fun h i h1 h2 => ?_⟩
  · apply Nat.eq_of_testBit_eq
    intro j
    rw [tb]
    by_cases hj : 128 - n ≤ j
    · simp [hj]
    · have := h (127 - j) (by omega) (by omega)
      rw [show 127 - (127 - j) = j by omega] at this
      simp [hj, this]
  · rw [h, tb]
    have : ¬ 128 - n ≤ 127 - i := by omega
    simp [this]
def lettersL (k : Ky) : List Bs := if k.kind = 3 then labs k.path else letB k.n k.len.toNat
def lvl : List Bs → AV
  | [] => .nils
  | x :: l => .sl (strs (x :: l))
end Go.Proofs.YtlmdacgkaailiaaDoor
