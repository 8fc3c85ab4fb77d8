/- key: what must come of fixed calls. -/
import Derived.Test.YtlmdacgkaailiaaDoorKey5
namespace Go.Proofs.YtlmdacgkaailiaaDoor
open Go.Ve

def kp : Ky := ⟨3, 3, 0, [110, 101, 116, 46, 100, 99, 49, 46, 97]⟩
def kq : Ky := ⟨3, 3, 0, [110, 101, 116, 46, 100, 99, 49, 46, 98]⟩
def km : Ky := ⟨3, 2, 0, [110, 101, 116, 46, 100, 99, 49]⟩
def k8 : Ky := ⟨1, 8, 720575940379279360 * H64, []⟩
theorem alive7_ok : PCall P 45 [] (.bool true) := by
  have c1 := four_ok 167837953 (by decide)
  have c2 := pEq (keyCut_ok ⟨1, 32, 167837953 * 2 ^ 96, []⟩ 8 (by decide) (by decide)) (congrArg kv (show _ = k8 by kernel_rfl))
  have c3 := pEq (path_ok [110, 101, 116, 46, 100, 99, 49, 46, 97] (by decide)) (show _ = AV.tup [kv kp, .int .i64 0] by kernel_rfl)
  have c4 := pEq (path_ok [110, 101, 116, 46, 100, 99, 49, 46, 98] (by decide)) (show _ = AV.tup [kv kq, .int .i64 0] by kernel_rfl)
  have c5 := pEq (meet_ok kp kq (by decide) (by decide) (by decide) (by decide)) (show _ = AV.tup [kv km, .bool true] by kernel_rfl)
  have c6 := pEq (path_ok [110, 101, 116, 46, 46, 97] (by decide)) (show _ = AV.tup [kv zeroK, .int .i64 3] by kernel_rfl)
  have c7 := pEq (over_ok km kp (by decide) (by decide) (by decide) (by decide)) (show _ = AV.bool true by kernel_rfl)
  have c8 := pEq (over_ok kp km (by decide) (by decide) (by decide) (by decide)) (show _ = AV.bool false by kernel_rfl)
  have c9 := pEq (keyRight_ok kp (by decide) (by decide)) (show _ = AV.bool true by kernel_rfl)
  have c10 := pEq (keyRight_ok zeroK (by decide) (by decide)) (show _ = AV.bool false by kernel_rfl)
  have c11 := pEq (cmpK_ok km kp) (show _ = AV.int .i64 (-1) by kernel_rfl)
  have c12 := of_ok 1 (by decide)
  have c13 := six_ok 1 (by decide)
  have c14 := root_ok 3
  refine PCall.of_awp tok mixed fn45 (Nat.le_of_ble_eq_true rfl) ?_
  conv => whnf
  repeat' first | ((with_reducible refine Box.mk ?_); conv => whnf) | ((with_reducible refine And.intro (fun _ => ?_) (fun _ => ?_)) <;> conv => whnf) | fail
  refine ACall.of_pure c1 rfl ?_
  conv => whnf
  repeat' first | ((with_reducible refine Box.mk ?_); conv => whnf) | ((with_reducible refine And.intro (fun _ => ?_) (fun _ => ?_)) <;> conv => whnf) | fail
  refine ACall.of_pure c2 rfl ?_
  conv => whnf
  repeat' first | ((with_reducible refine Box.mk ?_); conv => whnf) | ((with_reducible refine And.intro (fun _ => ?_) (fun _ => ?_)) <;> conv => whnf) | fail
  refine ACall.of_pure c3 rfl ?_
  conv => whnf
  repeat' first | ((with_reducible refine Box.mk ?_); conv => whnf) | ((with_reducible refine And.intro (fun _ => ?_) (fun _ => ?_)) <;> conv => whnf) | fail
  refine ACall.of_pure c4 rfl ?_
  conv => whnf
  repeat' first | ((with_reducible refine Box.mk ?_); conv => whnf) | ((with_reducible refine And.intro (fun _ => ?_) (fun _ => ?_)) <;> conv => whnf) | fail
  refine ACall.of_pure c5 rfl ?_
  conv => whnf
  repeat' first | ((with_reducible refine Box.mk ?_); conv => whnf) | ((with_reducible refine And.intro (fun _ => ?_) (fun _ => ?_)) <;> conv => whnf) | fail
  refine ACall.of_pure c6 rfl ?_
  conv => whnf
  repeat' first | ((with_reducible refine Box.mk ?_); conv => whnf) | ((with_reducible refine And.intro (fun _ => ?_) (fun _ => ?_)) <;> conv => whnf) | fail
  all_goals try (rename_i hbad; exact absurd (by decide) hbad)
  refine ACall.of_pure c7 rfl ?_
  conv => whnf
  repeat' first | ((with_reducible refine Box.mk ?_); conv => whnf) | ((with_reducible refine And.intro (fun _ => ?_) (fun _ => ?_)) <;> conv => whnf) | fail
  refine ACall.of_pure c8 rfl ?_
  conv => whnf
  repeat' first | ((with_reducible refine Box.mk ?_); conv => whnf) | ((with_reducible refine And.intro (fun _ => ?_) (fun _ => ?_)) <;> conv => whnf) | fail
  refine ACall.of_pure c9 rfl ?_
  conv => whnf
  repeat' first | ((with_reducible refine Box.mk ?_); conv => whnf) | ((with_reducible refine And.intro (fun _ => ?_) (fun _ => ?_)) <;> conv => whnf) | fail
  refine ACall.of_pure c10 rfl ?_
  conv => whnf
  repeat' first | ((with_reducible refine Box.mk ?_); conv => whnf) | ((with_reducible refine And.intro (fun _ => ?_) (fun _ => ?_)) <;> conv => whnf) | fail
  refine ACall.of_pure c11 rfl ?_
  conv => whnf
  repeat' first | ((with_reducible refine Box.mk ?_); conv => whnf) | ((with_reducible refine And.intro (fun _ => ?_) (fun _ => ?_)) <;> conv => whnf) | fail
  all_goals try (rename_i hbad; exact absurd (by decide) hbad)
  refine ACall.of_pure c12 rfl ?_
  conv => whnf
  repeat' first | ((with_reducible refine Box.mk ?_); conv => whnf) | ((with_reducible refine And.intro (fun _ => ?_) (fun _ => ?_)) <;> conv => whnf) | fail
  refine ACall.of_pure c13 rfl ?_
  conv => whnf
  repeat' first | ((with_reducible refine Box.mk ?_); conv => whnf) | ((with_reducible refine And.intro (fun _ => ?_) (fun _ => ?_)) <;> conv => whnf) | fail
  all_goals try (rename_i hbad; exact absurd (by decide) hbad)
  refine ACall.of_pure c14 rfl ?_
  conv => whnf
  repeat' first | ((with_reducible refine Box.mk ?_); conv => whnf) | ((with_reducible refine And.intro (fun _ => ?_) (fun _ => ?_)) <;> conv => whnf) | fail
  all_goals first
    | rfl
    | (rename_i hbad; exact absurd (by decide) hbad)
end Go.Proofs.YtlmdacgkaailiaaDoor
