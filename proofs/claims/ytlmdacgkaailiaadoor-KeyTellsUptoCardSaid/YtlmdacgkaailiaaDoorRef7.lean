/- key, the document's answer: widths and bits. -/
import Derived.Test.YtlmdacgkaailiaaDoorLawKey
namespace Go.Proofs.YtlmdacgkaailiaaDoor
open Go.Ve

theorem rWidth_ok (kind : Int) : PCall P 46 [.int .i64 kind] (.int .i64 (widthK kind)) := by
  refine PCall.of_awp tok mixed fn46 (Nat.le_of_ble_eq_true rfl) ?_
  conv => whnf
  repeat' first | ((with_reducible refine Box.mk ?_); conv => whnf) | ((with_reducible refine And.intro (fun _ => ?_) (fun _ => ?_)) <;> conv => whnf) | fail
  all_goals (refine res1_eq (congrArg (AV.int .i64) ?_); unfold widthK)
  · rename_i h; rw [if_pos h]
  · rename_i h h'; rw [if_neg h, if_pos h']
  · rename_i h h' h''; rw [if_neg h, if_neg h', if_pos h'']
  · rename_i h h' h''; rw [if_neg h, if_neg h', if_neg h'']

theorem half_bit (N i : Nat) (hi : i < 128) : (if i < 64 then N / H64 / 2 ^ (63 - i) % 2 else N % H64 / 2 ^ (127 - i) % 2) = (N.testBit (127 - i)).toNat := by
  rw [Nat.testBit_eq_decide_div_mod_eq]
  split
  · rename_i h
    have e : N / H64 / 2 ^ (63 - i) = N / 2 ^ (127 - i) := by
      rw [h64, Nat.div_div_eq_div_mul, ← Nat.pow_add]
      congr 2; omega
    rw [e]
    rcases Nat.mod_two_eq_zero_or_one (N / 2 ^ (127 - i)) with h | h <;> simp [h]
  · rename_i h
    have e : N % H64 / 2 ^ (127 - i) % 2 = N / 2 ^ (127 - i) % 2 := by
      have h2 : H64 = 2 ^ (127 - i) * 2 ^ (i - 63) := by rw [h64, ← Nat.pow_add]; congr 1; omega
      rw [h2, Nat.mod_mul_right_div_self]
      exact Nat.mod_mod_of_dvd _ ⟨2 ^ (i - 64), by rw [← Nat.pow_succ']; congr 1; omega⟩
    rw [e]
    rcases Nat.mod_two_eq_zero_or_one (N / 2 ^ (127 - i)) with h | h <;> simp [h]

theorem bit_ok (N i : Nat) (hi : i < 128) : PCall P 79 [.int .u64 ((N / H64 : Nat) : Int), .int .u64 ((N % H64 : Nat) : Int), .int .i64 (i : Int)] (.int .u64 (((N.testBit (127 - i)).toNat : Nat) : Int)) := by
  have hb := half_bit N i hi
  have sh : ∀ m k : Nat, k < 64 → ((m : Int).fdiv (2 ^ (min k 64))).tmod 2 = ((m / 2 ^ k % 2 : Nat) : Int) := fun m k hk => by
    rw [Nat.min_eq_left (by omega), Int.natCast_emod, Int.natCast_ediv, Int.natCast_pow]
    rw [Int.fdiv_eq_ediv_of_nonneg _ (Int.le_of_lt (Int.pow_pos (by decide)))]
    exact Int.tmod_eq_emod_of_nonneg (Int.ediv_nonneg (by omega) (Int.le_of_lt (Int.pow_pos (by decide))))
  refine PCall.of_awp tok mixed fn79 (Nat.le_of_ble_eq_true rfl) ?_
  conv => whnf
  repeat' first | ((with_reducible refine Box.mk ?_); conv => whnf) | ((with_reducible refine And.intro (fun _ => ?_) (fun _ => ?_)) <;> conv => whnf) | fail
  · rename_i h
    have hw : IntKind.u64.wrap (IntKind.i64.wrap (63 - (i : Int))) = ((63 - i : Nat) : Int) := by rw [wrap_i64 (by omega) (by omega), wrap_u64 (by omega) (by omega)]; omega
    refine ⟨by rw [hw]; omega, ?_⟩
    conv => whnf
    repeat' first | ((with_reducible refine Box.mk ?_); conv => whnf) | ((with_reducible refine And.intro (fun _ => ?_) (fun _ => ?_)) <;> conv => whnf) | fail
    refine ⟨by decide, ?_⟩
    conv => whnf
    repeat' first | ((with_reducible refine Box.mk ?_); conv => whnf) | ((with_reducible refine And.intro (fun _ => ?_) (fun _ => ?_)) <;> conv => whnf) | fail
    refine res1_eq (congrArg (AV.int .u64) ?_)
    rw [hw, Int.toNat_natCast, ← hb, if_pos (by omega)]
    exact sh _ _ (by omega)
  · rename_i h
    have hw : IntKind.u64.wrap (IntKind.i64.wrap (127 - (i : Int))) = ((127 - i : Nat) : Int) := by rw [wrap_i64 (by omega) (by omega), wrap_u64 (by omega) (by omega)]; omega
    refine ⟨by rw [hw]; omega, ?_⟩
    conv => whnf
    repeat' first | ((with_reducible refine Box.mk ?_); conv => whnf) | ((with_reducible refine And.intro (fun _ => ?_) (fun _ => ?_)) <;> conv => whnf) | fail
    refine ⟨by decide, ?_⟩
    conv => whnf
    repeat' first | ((with_reducible refine Box.mk ?_); conv => whnf) | ((with_reducible refine And.intro (fun _ => ?_) (fun _ => ?_)) <;> conv => whnf) | fail
    refine res1_eq (congrArg (AV.int .u64) ?_)
    rw [hw, Int.toNat_natCast, ← hb, if_neg (by omega)]
    exact sh _ _ (by omega)
end Go.Proofs.YtlmdacgkaailiaaDoor
