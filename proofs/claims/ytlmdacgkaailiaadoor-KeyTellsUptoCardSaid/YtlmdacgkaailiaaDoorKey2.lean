/- key: what its functions compute, further. -/
import Derived.Test.YtlmdacgkaailiaaDoorKey
namespace Go.Proofs.YtlmdacgkaailiaaDoor
open Go.Ve

def zeroK : Ky := ⟨0, 0, 0, []⟩
def rootK (kind : Int) : Ky := if widthK kind = 0 then zeroK else ⟨kind, 0, 0, []⟩
theorem root_ok (kind : Int) : PCall P 47 [.int .i64 kind] (kv (rootK kind)) := by
  refine PCall.of_awp tok mixed fn47 (Nat.le_of_ble_eq_true rfl) ?_
  conv => whnf
  repeat' first | ((with_reducible refine Box.mk ?_); conv => whnf) | ((with_reducible refine And.intro (fun _ => ?_) (fun _ => ?_)) <;> conv => whnf) | fail
  refine ACall.of_pure (width_ok kind) rfl ?_
  conv => whnf
  repeat' first | ((with_reducible refine Box.mk ?_); conv => whnf) | ((with_reducible refine And.intro (fun _ => ?_) (fun _ => ?_)) <;> conv => whnf) | fail
  · rename_i h
    rw [rootK, if_pos h]
    show AV.agg [_, _, _, _, _] = AV.agg [_, _, _, _, _]
    simp [zeroK]
  · rename_i h
    rw [rootK, if_neg h]
    show AV.agg [_, _, _, _, _] = AV.agg [_, _, _, _, _]
    simp

theorem six_ok (N : Nat) (hN : N < 2 ^ 128) : PCall P 51 [wv N] (kv ⟨2, 128, N, []⟩) := by
  have e : ofBitsK 2 128 N = ⟨2, 128, N, []⟩ := by
    have h0 : topN N (min (128 : Int) 128).toNat = N := by
      show N / 2 ^ (128 - 128) * 2 ^ (128 - 128) = N
      simp
    unfold ofBitsK
    rw [h0]
  refine PCall.of_awp tok mixed fn51 (Nat.le_of_ble_eq_true rfl) ?_
  conv => whnf
  repeat' first | ((with_reducible refine Box.mk ?_); conv => whnf) | ((with_reducible refine And.intro (fun _ => ?_) (fun _ => ?_)) <;> conv => whnf) | fail
  refine ACall.of_pure (ofBits_ok 2 128 N hN) rfl ?_
  conv => whnf
  repeat' first | ((with_reducible refine Box.mk ?_); conv => whnf) | ((with_reducible refine And.intro (fun _ => ?_) (fun _ => ?_)) <;> conv => whnf) | fail
  rw [← e]; rfl

theorem four_ok (a : Nat) (ha : a < 4294967296) : PCall P 49 [.int .u32 (a : Int)] (kv ⟨1, 32, a * 2 ^ 96, []⟩) := by
  have hw : IntKind.u64.wrap (a : Int) = (a : Int) := wrap_u64 (by omega) (by omega)
  have hl : leftN a 96 = a * 2 ^ 96 := by
    have : a * 2 ^ 96 < 2 ^ 128 := by
      have := Nat.mul_lt_mul_of_pos_right ha (Nat.two_pow_pos 96)
      simpa using this
    unfold leftN
    rw [if_neg (by decide), if_neg (by decide)]
    exact Nat.mod_eq_of_lt this
  have hlt : a * 2 ^ 96 < 2 ^ 128 := by rw [← hl]; exact leftN_lt (by omega) _
  have e : ofBitsK 1 32 (a * 2 ^ 96) = ⟨1, 32, a * 2 ^ 96, []⟩ := by
    have h0 : topN (a * 2 ^ 96) (min (32 : Int) 128).toNat = a * 2 ^ 96 := by
      show a * 2 ^ 96 / 2 ^ 96 * 2 ^ 96 = a * 2 ^ 96
      rw [Nat.mul_div_cancel _ (Nat.two_pow_pos 96)]
    unfold ofBitsK
    rw [h0]
  have c1 := of_ok a (Nat.lt_trans ha (by decide))
  have c2 := pEq (left_ok a 96) (congrArg wv hl)
  have c3 := ofBits_ok 1 32 (a * 2 ^ 96) hlt
  rw [e] at c3
  refine PCall.of_awp tok mixed fn49 (Nat.le_of_ble_eq_true rfl) ?_
  conv => whnf
  repeat' first | ((with_reducible refine Box.mk ?_); conv => whnf) | ((with_reducible refine And.intro (fun _ => ?_) (fun _ => ?_)) <;> conv => whnf) | fail
  refine ACall.of_pure (args := [.int .u64 (IntKind.u64.wrap (a : Int))]) (by rw [hw]; exact c1) rfl ?_
  conv => whnf
  repeat' first | ((with_reducible refine Box.mk ?_); conv => whnf) | ((with_reducible refine And.intro (fun _ => ?_) (fun _ => ?_)) <;> conv => whnf) | fail
  refine ACall.of_pure c2 rfl ?_
  conv => whnf
  repeat' first | ((with_reducible refine Box.mk ?_); conv => whnf) | ((with_reducible refine And.intro (fun _ => ?_) (fun _ => ?_)) <;> conv => whnf) | fail
  refine ACall.of_pure c3 rfl ?_
  conv => whnf
  repeat' first | ((with_reducible refine Box.mk ?_); conv => whnf) | ((with_reducible refine And.intro (fun _ => ?_) (fun _ => ?_)) <;> conv => whnf) | fail
  rfl

def cutK (k : Ky) (n : Int) : Ky := if k.kind = 3 then ofPathK (joinD ((labs k.path).take (min (max n 0) k.len).toNat)) else ofBitsK k.kind (min (max n 0) k.len) k.n
theorem cut_ok (k : Ky) (n : Int) (hn : k.n < 2 ^ 128) (hp : k.path.length < 134217728) : PCall P 64 [kv k, .int .i64 n] (kv (cutK k n)) := by
  have hp' : k.path.length < 4294967281 := by omega
  have hj : (joinD ((labs k.path).take (min (max n 0) k.len).toNat)).length < 4294967281 := by
    have h1 := joinD_take_len (i := (min (max n 0) k.len).toNat) (labs_len k.path).2
    have h2 : (labs k.path).length * k.path.length ≤ 8 * k.path.length := Nat.mul_le_mul_right _ (labs_len k.path).1
    have := (labs_len k.path).1
    omega
  refine PCall.of_awp tok mixed fn64 (Nat.le_of_ble_eq_true rfl) ?_
  conv => whnf
  repeat' first | ((with_reducible refine Box.mk ?_); conv => whnf) | ((with_reducible refine And.intro (fun _ => ?_) (fun _ => ?_)) <;> conv => whnf) | fail
  · rename_i h3
    refine ACall.of_pure (top_ok k.path (min (max n 0) k.len) hp') rfl ?_
    conv => whnf
    repeat' first | ((with_reducible refine Box.mk ?_); conv => whnf) | ((with_reducible refine And.intro (fun _ => ?_) (fun _ => ?_)) <;> conv => whnf) | fail
    refine ACall.of_pure (ofPath_ok _ hj) rfl ?_
    conv => whnf
    repeat' first | ((with_reducible refine Box.mk ?_); conv => whnf) | ((with_reducible refine And.intro (fun _ => ?_) (fun _ => ?_)) <;> conv => whnf) | fail
    rw [cutK, if_pos h3]; rfl
  · rename_i h3
    refine ⟨by kernel_rfl, ?_⟩
    conv => whnf
    repeat' first | ((with_reducible refine Box.mk ?_); conv => whnf) | ((with_reducible refine And.intro (fun _ => ?_) (fun _ => ?_)) <;> conv => whnf) | fail
    refine ⟨_, ACall.of_pure (bits_ok k) rfl ⟨rfl, rfl⟩, ?_⟩
    conv => whnf
    repeat' first | ((with_reducible refine Box.mk ?_); conv => whnf) | ((with_reducible refine And.intro (fun _ => ?_) (fun _ => ?_)) <;> conv => whnf) | fail
    refine ⟨_, ACall.of_pure (ofBits_ok k.kind (min (max n 0) k.len) k.n hn) rfl ⟨rfl, rfl⟩, ?_⟩
    conv => whnf
    repeat' first | ((with_reducible refine Box.mk ?_); conv => whnf) | ((with_reducible refine And.intro (fun _ => ?_) (fun _ => ?_)) <;> conv => whnf) | fail
    rw [cutK, if_neg h3]; rfl
def cutU (k : Ky) (n : Int) : Ky := bif rightK k then cutK k n else zeroK
theorem keyCut_ok (k : Ky) (n : Int) (hn : k.n < 2 ^ 128) (hp : k.path.length < 134217728) : PCall P 42 [kv k, .int .i64 n] (kv (cutU k n)) := by
  refine PCall.of_awp tok mixed fn42 (Nat.le_of_ble_eq_true rfl) ?_
  conv => whnf
  repeat' first | ((with_reducible refine Box.mk ?_); conv => whnf) | ((with_reducible refine And.intro (fun _ => ?_) (fun _ => ?_)) <;> conv => whnf) | fail
  refine ACall.of_pure (keyRight_ok k hn (by omega)) rfl ?_
  cases hb : rightK k
  · (conv => whnf); (repeat' first | ((with_reducible refine Box.mk ?_); conv => whnf) | ((with_reducible refine And.intro (fun _ => ?_) (fun _ => ?_)) <;> conv => whnf) | fail)
    rw [cutU, hb]
    show AV.agg [_, _, _, _, _] = AV.agg [_, _, _, _, _]
    simp [zeroK]
  · (conv => whnf); (repeat' first | ((with_reducible refine Box.mk ?_); conv => whnf) | ((with_reducible refine And.intro (fun _ => ?_) (fun _ => ?_)) <;> conv => whnf) | fail)
    refine ACall.of_pure (cut_ok k n hn hp) rfl ?_
    (conv => whnf); (repeat' first | ((with_reducible refine Box.mk ?_); conv => whnf) | ((with_reducible refine And.intro (fun _ => ?_) (fun _ => ?_)) <;> conv => whnf) | fail)
    rw [cutU, hb]; rfl
theorem path_ok (p : Bs) (hp : p.length < 4294967281) : PCall P 43 [.str p] (.tup [kv (bif okPath p then ofPathK p else zeroK), .int .i64 (bif okPath p then 0 else 3)]) := by
  refine PCall.of_awp tok mixed fn43 (Nat.le_of_ble_eq_true rfl) ?_
  conv => whnf
  repeat' first | ((with_reducible refine Box.mk ?_); conv => whnf) | ((with_reducible refine And.intro (fun _ => ?_) (fun _ => ?_)) <;> conv => whnf) | fail
  refine ACall.of_pure (right_ok p hp) rfl ?_
  cases hb : okPath p
  · (conv => whnf); (repeat' first | ((with_reducible refine Box.mk ?_); conv => whnf) | ((with_reducible refine And.intro (fun _ => ?_) (fun _ => ?_)) <;> conv => whnf) | fail)
    show AV.tup [AV.agg [_, _, _, _, _], _] = AV.tup [AV.agg [_, _, _, _, _], _]
    simp [zeroK]
  · (conv => whnf); (repeat' first | ((with_reducible refine Box.mk ?_); conv => whnf) | ((with_reducible refine And.intro (fun _ => ?_) (fun _ => ?_)) <;> conv => whnf) | fail)
    refine ACall.of_pure (ofPath_ok p hp) rfl ?_
    (conv => whnf); (repeat' first | ((with_reducible refine Box.mk ?_); conv => whnf) | ((with_reducible refine And.intro (fun _ => ?_) (fun _ => ?_)) <;> conv => whnf) | fail)
    rfl
end Go.Proofs.YtlmdacgkaailiaaDoor
