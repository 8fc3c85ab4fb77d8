/- key, the document's answer: Right, Root, Four, Six. -/
import Derived.Test.YtlmdacgkaailiaaDoorRef7d
namespace Go.Proofs.YtlmdacgkaailiaaDoor
open Go.Ve

theorem rRight_ok (k : Ky) (hp : k.path.length < 4294967281) : PCall P 44 [kv k] (.bool (rightK k)) := by
  refine PCall.of_awp tok mixed fn44 (Nat.le_of_ble_eq_true rfl) ?_
  conv => whnf
  repeat' first | ((with_reducible refine Box.mk ?_); conv => whnf) | ((with_reducible refine And.intro (fun _ => ?_) (fun _ => ?_)) <;> conv => whnf) | fail
  refine ACall.of_pure (letters_ok k hp) rfl ?_
  cases rightK k <;> cases lettersL k <;> ((conv => whnf); (repeat' first | ((with_reducible refine Box.mk ?_); conv => whnf) | ((with_reducible refine And.intro (fun _ => ?_) (fun _ => ?_)) <;> conv => whnf) | fail); rfl)

theorem ofNil_ok (kind : Int) : PCall P 69 [.int .i64 kind, .nils] (kv ⟨kind, 0, 0, []⟩) := by
  by_cases hk : kind = 3
  · rw [hk]
    exact pNil2 (of3_ok [] 0 (by simp) (by decide))
  · have h := ofB_ok kind hk 0 0 (by decide) (by decide)
    have e : topN 0 0 = 0 := by decide
    rw [e] at h
    exact pNil2 h

theorem rRoot_ok (kind : Int) : PCall P 48 [.int .i64 kind] (kv (rootK kind)) := by
  refine PCall.of_awp tok mixed fn48 (Nat.le_of_ble_eq_true rfl) ?_
  conv => whnf
  repeat' first | ((with_reducible refine Box.mk ?_); conv => whnf) | ((with_reducible refine And.intro (fun _ => ?_) (fun _ => ?_)) <;> conv => whnf) | fail
  refine ACall.of_pure (rWidth_ok kind) rfl ?_
  conv => whnf
  repeat' first | ((with_reducible refine Box.mk ?_); conv => whnf) | ((with_reducible refine And.intro (fun _ => ?_) (fun _ => ?_)) <;> conv => whnf) | fail
  · rename_i h
    rw [rootK, if_pos h]
    show AV.agg [_, _, _, _, _] = AV.agg [_, _, _, _, _]
    simp [zeroK]
  · rename_i h
    refine ACall.of_pure (ofNil_ok kind) rfl ?_
    conv => whnf
    repeat' first | ((with_reducible refine Box.mk ?_); conv => whnf) | ((with_reducible refine And.intro (fun _ => ?_) (fun _ => ?_)) <;> conv => whnf) | fail
    rw [rootK, if_neg h]
    rfl

theorem rFour_ok (a : Nat) (ha : a < 4294967296) : PCall P 50 [.int .u32 (a : Int)] (kv ⟨1, 32, a * 2 ^ 96, []⟩) := by
  refine PCall.of_awp tok mixed fn50 (Nat.le_of_ble_eq_true rfl) ?_
  conv => whnf
  repeat' first | ((with_reducible refine Box.mk ?_); conv => whnf) | ((with_reducible refine And.intro (fun _ => ?_) (fun _ => ?_)) <;> conv => whnf) | fail
  show AV.agg [_, _, .int .u64 (IntKind.u64.wrap (IntKind.u64.wrap (a : Int) * 4294967296)), _, _] = AV.agg [_, _, _, _, _]
  have e : a * 2 ^ 96 = a * 4294967296 * H64 := by rw [Nat.mul_assoc]; rfl
  have h1 : a * 2 ^ 96 / H64 = a * 4294967296 := by rw [e, Nat.mul_div_cancel _ (by decide)]
  have h2 : a * 2 ^ 96 % H64 = 0 := by rw [e]; exact Nat.mul_mod_left _ _
  rw [wrap_u64 (n := (a : Int)) (by omega) (by omega), wrap_u64 (by omega) (by omega), h1, h2, Int.natCast_mul]
  rfl

theorem rSix_ok (N : Nat) : PCall P 52 [.int .u64 ((N / H64 : Nat) : Int), .int .u64 ((N % H64 : Nat) : Int)] (kv ⟨2, 128, N, []⟩) := by
  refine PCall.of_awp tok mixed fn52 (Nat.le_of_ble_eq_true rfl) ?_
  conv => whnf
  repeat' first | ((with_reducible refine Box.mk ?_); conv => whnf) | ((with_reducible refine And.intro (fun _ => ?_) (fun _ => ?_)) <;> conv => whnf) | fail
  rfl
end Go.Proofs.YtlmdacgkaailiaaDoor
