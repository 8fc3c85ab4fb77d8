/- key: over, and where two keys meet. -/
import Derived.Test.YtlmdacgkaailiaaDoorKey2
namespace Go.Proofs.YtlmdacgkaailiaaDoor
open Go.Ve

def overK (a b : Ky) : Bool := rightK a && rightK b && decide (a.kind = b.kind ∧ a.len ≤ b.len ∧ a = cutK b a.len)
theorem over_ok (a b : Ky) (ha : a.n < 2 ^ 128) (hb : b.n < 2 ^ 128) (hpa : a.path.length < 134217728) (hpb : b.path.length < 134217728) : PCall P 41 [kv a, kv b] (.bool (overK a b)) := by
  have c1 := keyRight_ok a ha (by omega)
  have c2 := keyRight_ok b hb (by omega)
  have c3 := cut_ok b a.len hb hpb
  refine PCall.of_awp tok mixed fn41 (Nat.le_of_ble_eq_true rfl) ?_
  conv => whnf
  repeat' first | ((with_reducible refine Box.mk ?_); conv => whnf) | ((with_reducible refine And.intro (fun _ => ?_) (fun _ => ?_)) <;> conv => whnf) | fail
  refine ⟨by kernel_rfl, ?_⟩
  conv => whnf
  repeat' first | ((with_reducible refine Box.mk ?_); conv => whnf) | ((with_reducible refine And.intro (fun _ => ?_) (fun _ => ?_)) <;> conv => whnf) | fail
  refine ⟨_, ACall.of_pure c1 rfl ⟨rfl, rfl⟩, ?_⟩
  cases h1 : rightK a
  · (conv => whnf); (repeat' first | ((with_reducible refine Box.mk ?_); conv => whnf) | ((with_reducible refine And.intro (fun _ => ?_) (fun _ => ?_)) <;> conv => whnf) | fail)
    exact bool_false (by rw [overK, h1]; rfl)
  (conv => whnf); (repeat' first | ((with_reducible refine Box.mk ?_); conv => whnf) | ((with_reducible refine And.intro (fun _ => ?_) (fun _ => ?_)) <;> conv => whnf) | fail)
  refine ⟨_, ACall.of_pure c2 rfl ⟨rfl, rfl⟩, ?_⟩
  have ho : ∀ {h2 : rightK b = true}, overK a b = decide (a.kind = b.kind ∧ a.len ≤ b.len ∧ a = cutK b a.len) := fun {h2} => by rw [overK, h1, h2]; rfl
  cases h2 : rightK b
  · (conv => whnf); (repeat' first | ((with_reducible refine Box.mk ?_); conv => whnf) | ((with_reducible refine And.intro (fun _ => ?_) (fun _ => ?_)) <;> conv => whnf) | fail)
    exact bool_false (by rw [overK, h1, h2]; rfl)
  (conv => whnf); (repeat' first | ((with_reducible refine Box.mk ?_); conv => whnf) | ((with_reducible refine And.intro (fun _ => ?_) (fun _ => ?_)) <;> conv => whnf) | fail)
  · rename_i k1 k2
    refine ⟨_, ACall.of_pure c3 rfl ⟨rfl, rfl⟩, ?_⟩
    (conv => whnf); (repeat' first | ((with_reducible refine Box.mk ?_); conv => whnf) | ((with_reducible refine And.intro (fun _ => ?_) (fun _ => ?_)) <;> conv => whnf) | fail)
    · rename_i he
      exact bool_true (by rw [ho (h2 := h2)]; exact decide_eq_true ⟨k1, k2, kv_eq.1 he⟩)
    · rename_i he
      exact bool_false (by rw [ho (h2 := h2)]; exact decide_eq_false fun h => he (kv_eq.2 h.2.2))
  · rename_i k1 k2
    exact bool_false (by rw [ho (h2 := h2)]; exact decide_eq_false fun h => k2 h.2.1)
  · rename_i k1
    exact bool_false (by rw [ho (h2 := h2)]; exact decide_eq_false fun h => k1 h.1)

def alikeK (a b : Ky) : Nat := if a.kind = 3 then cpl (labs a.path) (labs b.path) else sameN a.n b.n
theorem alike_ok (a b : Ky) (ha : a.n < 2 ^ 128) (hb : b.n < 2 ^ 128) (hpa : a.path.length < 134217728) (hpb : b.path.length < 134217728) : PCall P 80 [kv a, kv b] (.int .i64 ((alikeK a b : Nat) : Int)) := by
  refine PCall.of_awp tok mixed fn80 (Nat.le_of_ble_eq_true rfl) ?_
  conv => whnf
  repeat' first | ((with_reducible refine Box.mk ?_); conv => whnf) | ((with_reducible refine And.intro (fun _ => ?_) (fun _ => ?_)) <;> conv => whnf) | fail
  · rename_i h
    refine ACall.of_pure (lSame_ok a.path b.path (by omega) (by omega)) rfl ?_
    conv => whnf
    repeat' first | ((with_reducible refine Box.mk ?_); conv => whnf) | ((with_reducible refine And.intro (fun _ => ?_) (fun _ => ?_)) <;> conv => whnf) | fail
    rw [alikeK, if_pos h]; rfl
  · rename_i h
    refine ⟨by kernel_rfl, ?_⟩
    conv => whnf
    repeat' first | ((with_reducible refine Box.mk ?_); conv => whnf) | ((with_reducible refine And.intro (fun _ => ?_) (fun _ => ?_)) <;> conv => whnf) | fail
    refine ⟨_, ACall.of_pure (bits_ok a) rfl ⟨rfl, rfl⟩, ?_⟩
    conv => whnf
    repeat' first | ((with_reducible refine Box.mk ?_); conv => whnf) | ((with_reducible refine And.intro (fun _ => ?_) (fun _ => ?_)) <;> conv => whnf) | fail
    refine ⟨_, ACall.of_pure (bits_ok b) rfl ⟨rfl, rfl⟩, ?_⟩
    conv => whnf
    repeat' first | ((with_reducible refine Box.mk ?_); conv => whnf) | ((with_reducible refine And.intro (fun _ => ?_) (fun _ => ?_)) <;> conv => whnf) | fail
    refine ⟨_, ACall.of_pure (same_ok a.n b.n ha hb) rfl ⟨rfl, rfl⟩, ?_⟩
    conv => whnf
    repeat' first | ((with_reducible refine Box.mk ?_); conv => whnf) | ((with_reducible refine And.intro (fun _ => ?_) (fun _ => ?_)) <;> conv => whnf) | fail
    rw [alikeK, if_neg h]; rfl

def meetB (a b : Ky) : Bool := rightK a && rightK b && decide (a.kind = b.kind)
def meetK (a b : Ky) : Ky := bif meetB a b then cutK a (min (alikeK a b : Int) b.len) else zeroK
theorem meet_ok (a b : Ky) (ha : a.n < 2 ^ 128) (hb : b.n < 2 ^ 128) (hpa : a.path.length < 134217728) (hpb : b.path.length < 134217728) : PCall P 66 [kv a, kv b] (.tup [kv (meetK a b), .bool (meetB a b)]) := by
  have c1 := keyRight_ok a ha (by omega)
  have c2 := keyRight_ok b hb (by omega)
  have c3 := alike_ok a b ha hb hpa hpb
  have c4 := cut_ok a (min (alikeK a b : Int) b.len) ha hpa
  have bad : meetB a b = false → mkRes [AV.agg [.int .i64 0, .int .i64 0, .int .u64 0, .int .u64 0, .str []], .bool false] = .tup [kv (meetK a b), .bool (meetB a b)] := fun h => by
    rw [meetK, h]
    show AV.tup [AV.agg [_, _, _, _, _], _] = AV.tup [AV.agg [_, _, _, _, _], _]
    simp [zeroK]
  refine PCall.of_awp tok mixed fn66 (Nat.le_of_ble_eq_true rfl) ?_
  conv => whnf
  repeat' first | ((with_reducible refine Box.mk ?_); conv => whnf) | ((with_reducible refine And.intro (fun _ => ?_) (fun _ => ?_)) <;> conv => whnf) | fail
  refine ACall.of_pure c1 rfl ?_
  cases h1 : rightK a
  · (conv => whnf); (repeat' first | ((with_reducible refine Box.mk ?_); conv => whnf) | ((with_reducible refine And.intro (fun _ => ?_) (fun _ => ?_)) <;> conv => whnf) | fail)
    exact bad (by rw [meetB, h1]; rfl)
  (conv => whnf); (repeat' first | ((with_reducible refine Box.mk ?_); conv => whnf) | ((with_reducible refine And.intro (fun _ => ?_) (fun _ => ?_)) <;> conv => whnf) | fail)
  refine ACall.of_pure c2 rfl ?_
  cases h2 : rightK b
  · (conv => whnf); (repeat' first | ((with_reducible refine Box.mk ?_); conv => whnf) | ((with_reducible refine And.intro (fun _ => ?_) (fun _ => ?_)) <;> conv => whnf) | fail)
    exact bad (by rw [meetB, h1, h2]; rfl)
  (conv => whnf); (repeat' first | ((with_reducible refine Box.mk ?_); conv => whnf) | ((with_reducible refine And.intro (fun _ => ?_) (fun _ => ?_)) <;> conv => whnf) | fail)
  · rename_i h3
    refine ⟨by kernel_rfl, ?_⟩
    (conv => whnf); (repeat' first | ((with_reducible refine Box.mk ?_); conv => whnf) | ((with_reducible refine And.intro (fun _ => ?_) (fun _ => ?_)) <;> conv => whnf) | fail)
    refine ⟨_, ACall.of_pure c3 rfl ⟨rfl, rfl⟩, ?_⟩
    (conv => whnf); (repeat' first | ((with_reducible refine Box.mk ?_); conv => whnf) | ((with_reducible refine And.intro (fun _ => ?_) (fun _ => ?_)) <;> conv => whnf) | fail)
    refine ⟨_, ACall.of_pure c4 rfl ⟨rfl, rfl⟩, ?_⟩
    (conv => whnf); (repeat' first | ((with_reducible refine Box.mk ?_); conv => whnf) | ((with_reducible refine And.intro (fun _ => ?_) (fun _ => ?_)) <;> conv => whnf) | fail)
    have hm : meetB a b = true := by rw [meetB, h1, h2]; exact decide_eq_true h3
    rw [meetK, hm]; rfl
  · rename_i h3
    exact bad (by rw [meetB, h1, h2]; exact decide_eq_false h3)
end Go.Proofs.YtlmdacgkaailiaaDoor
