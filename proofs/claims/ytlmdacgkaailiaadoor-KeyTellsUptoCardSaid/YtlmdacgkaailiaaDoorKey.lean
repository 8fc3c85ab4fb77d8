/- key: what its functions compute. -/
import Derived.Test.YtlmdacgkaailiaaDoorLawLabel
import Derived.Test.YtlmdacgkaailiaaDoorWide
namespace Go.Proofs.YtlmdacgkaailiaaDoor
open Go.Ve

/-- A key: its kind, its length, its bits as one number, its path. -/
structure Ky where
  kind : Int
  len : Int
  n : Nat
  path : Bs
  deriving DecidableEq
def kv (k : Ky) : AV := .agg [.int .i64 k.kind, .int .i64 k.len, .int .u64 ((k.n / H64 : Nat) : Int), .int .u64 ((k.n % H64 : Nat) : Int), .str k.path]
theorem kv_eq {a b : Ky} : (a.kind = b.kind ∧ a.len = b.len ∧ ((a.n / H64 : Nat) : Int) = ((b.n / H64 : Nat) : Int) ∧ ((a.n % H64 : Nat) : Int) = ((b.n % H64 : Nat) : Int) ∧ a.path = b.path) ↔ a = b := by
  refine ⟨fun ⟨h1, h2, h3, h4, h5⟩ => ?_, fun h => by rw [h]; exact ⟨rfl, rfl, rfl, rfl, rfl⟩⟩
  have := wv_eq.1 ⟨h3, h4⟩
  cases a; cases b; simp_all

def widthK (kind : Int) : Int := if kind = 1 then 32 else if kind = 2 then 128 else if kind = 3 then 8 else 0
theorem width_ok (kind : Int) : PCall P 39 [.int .i64 kind] (.int .i64 (widthK kind)) := by
  refine PCall.of_awp tok mixed fn39 (Nat.le_of_ble_eq_true rfl) ?_
  conv => whnf
  repeat' first | ((with_reducible refine Box.mk ?_); conv => whnf) | ((with_reducible refine And.intro (fun _ => ?_) (fun _ => ?_)) <;> conv => whnf) | fail
  all_goals (refine res1_eq (congrArg (AV.int .i64) ?_); unfold widthK)
  · rename_i h; rw [if_pos h]
  · rename_i h h'; rw [if_neg h, if_pos h']
  · rename_i h h' h''; rw [if_neg h, if_neg h', if_pos h'']
  · rename_i h h' h''; rw [if_neg h, if_neg h', if_neg h'']

theorem bits_ok (k : Ky) : PCall P 62 [kv k] (wv k.n) := by
  refine PCall.of_awp tok mixed fn62 (Nat.le_of_ble_eq_true rfl) ?_
  conv => whnf
  repeat' first | ((with_reducible refine Box.mk ?_); conv => whnf) | ((with_reducible refine And.intro (fun _ => ?_) (fun _ => ?_)) <;> conv => whnf) | fail
  rfl
def ofBitsK (kind n : Int) (N : Nat) : Ky := ⟨kind, n, topN N (min n 128).toNat, []⟩
theorem ofBits_ok (kind n : Int) (N : Nat) (hN : N < 2 ^ 128) : PCall P 61 [.int .i64 kind, .int .i64 n, wv N] (kv (ofBitsK kind n N)) := by
  refine PCall.of_awp tok mixed fn61 (Nat.le_of_ble_eq_true rfl) ?_
  conv => whnf
  repeat' first | ((with_reducible refine Box.mk ?_); conv => whnf) | ((with_reducible refine And.intro (fun _ => ?_) (fun _ => ?_)) <;> conv => whnf) | fail
  refine ACall.of_pure (top_ok' N hN n) rfl ?_
  conv => whnf
  repeat' first | ((with_reducible refine Box.mk ?_); conv => whnf) | ((with_reducible refine And.intro (fun _ => ?_) (fun _ => ?_)) <;> conv => whnf) | fail
  rfl
def ofPathK (p : Bs) : Ky := ⟨3, (labs p).length, 0, p⟩
theorem ofPath_ok (p : Bs) (h : p.length < 4294967281) : PCall P 63 [.str p] (kv (ofPathK p)) := by
  refine PCall.of_awp tok mixed fn63 (Nat.le_of_ble_eq_true rfl) ?_
  conv => whnf
  repeat' first | ((with_reducible refine Box.mk ?_); conv => whnf) | ((with_reducible refine And.intro (fun _ => ?_) (fun _ => ?_)) <;> conv => whnf) | fail
  refine ACall.of_pure (len_ok p h) rfl ?_
  conv => whnf
  repeat' first | ((with_reducible refine Box.mk ?_); conv => whnf) | ((with_reducible refine And.intro (fun _ => ?_) (fun _ => ?_)) <;> conv => whnf) | fail
  show AV.agg [_, _, _, _, _] = AV.agg [_, _, _, _, _]
  simp [ofPathK]

def rightK (k : Ky) : Bool :=
  if k.kind = 1 ∨ k.kind = 2 then decide (0 ≤ k.len ∧ k.len ≤ widthK k.kind ∧ k.n = topN k.n (min k.len 128).toNat ∧ k.path = []) else
  if k.kind = 3 then okPath k.path && decide (k.len = ((labs k.path).length : Int) ∧ k.n = 0) else false

theorem eqK {k : Ky} : k = ofBitsK k.kind k.len k.n ↔ (k.n = topN k.n (min k.len 128).toNat ∧ k.path = []) := by
  cases k; simp [ofBitsK]
theorem eqP {k : Ky} : k = ofPathK k.path ↔ (k.kind = 3 ∧ k.len = ((labs k.path).length : Int) ∧ k.n = 0) := by
  cases k; simp [ofPathK]
theorem keyRight_ok (k : Ky) (hn : k.n < 2 ^ 128) (hp : k.path.length < 4294967281) : PCall P 40 [kv k] (.bool (rightK k)) := by
  refine PCall.of_awp tok mixed fn40 (Nat.le_of_ble_eq_true rfl) ?_
  have addr : (k.kind = 1 ∨ k.kind = 2) → rightK k = decide (0 ≤ k.len ∧ k.len ≤ widthK k.kind ∧ k.n = topN k.n (min k.len 128).toNat ∧ k.path = []) := fun h => by
    unfold rightK; rw [if_pos h]
  conv => whnf
  repeat' first | ((with_reducible refine Box.mk ?_); conv => whnf) | ((with_reducible refine And.intro (fun _ => ?_) (fun _ => ?_)) <;> conv => whnf) | fail
  all_goals try refine ⟨by kernel_rfl, ?_⟩
  all_goals ((conv => whnf); (repeat' first | ((with_reducible refine Box.mk ?_); conv => whnf) | ((with_reducible refine And.intro (fun _ => ?_) (fun _ => ?_)) <;> conv => whnf) | fail))
  · rename_i hk h0
    refine ⟨_, ACall.of_pure (width_ok k.kind) rfl ⟨rfl, rfl⟩, ?_⟩
    conv => whnf
    repeat' first | ((with_reducible refine Box.mk ?_); conv => whnf) | ((with_reducible refine And.intro (fun _ => ?_) (fun _ => ?_)) <;> conv => whnf) | fail
    · rename_i hw
      refine ⟨_, ACall.of_pure (bits_ok k) rfl ⟨rfl, rfl⟩, ?_⟩
      conv => whnf
      repeat' first | ((with_reducible refine Box.mk ?_); conv => whnf) | ((with_reducible refine And.intro (fun _ => ?_) (fun _ => ?_)) <;> conv => whnf) | fail
      refine ⟨_, ACall.of_pure (ofBits_ok k.kind k.len k.n hn) rfl ⟨rfl, rfl⟩, ?_⟩
      conv => whnf
      repeat' first | ((with_reducible refine Box.mk ?_); conv => whnf) | ((with_reducible refine And.intro (fun _ => ?_) (fun _ => ?_)) <;> conv => whnf) | fail
      · rename_i he
        have he := eqK.1 (kv_eq.1 he)
        exact bool_true (by rw [addr (by omega)]; exact decide_eq_true ⟨h0, hw, he.1, he.2⟩)
      · rename_i he
        have he : ¬ (k.n = topN k.n (min k.len 128).toNat ∧ k.path = []) := fun h => he (kv_eq.2 (eqK.2 h))
        exact bool_false (by rw [addr (by omega)]; exact decide_eq_false fun h => he ⟨h.2.2.1, h.2.2.2⟩)
    · rename_i hw
      exact bool_false (by rw [addr (by omega)]; exact decide_eq_false fun h => hw h.2.1)
  · rename_i hk h0
    exact bool_false (by rw [addr (by omega)]; exact decide_eq_false fun h => h0 h.1)
  · rename_i hk1 hk h0
    refine ⟨_, ACall.of_pure (width_ok k.kind) rfl ⟨rfl, rfl⟩, ?_⟩
    conv => whnf
    repeat' first | ((with_reducible refine Box.mk ?_); conv => whnf) | ((with_reducible refine And.intro (fun _ => ?_) (fun _ => ?_)) <;> conv => whnf) | fail
    · rename_i hw
      refine ⟨_, ACall.of_pure (bits_ok k) rfl ⟨rfl, rfl⟩, ?_⟩
      conv => whnf
      repeat' first | ((with_reducible refine Box.mk ?_); conv => whnf) | ((with_reducible refine And.intro (fun _ => ?_) (fun _ => ?_)) <;> conv => whnf) | fail
      refine ⟨_, ACall.of_pure (ofBits_ok k.kind k.len k.n hn) rfl ⟨rfl, rfl⟩, ?_⟩
      conv => whnf
      repeat' first | ((with_reducible refine Box.mk ?_); conv => whnf) | ((with_reducible refine And.intro (fun _ => ?_) (fun _ => ?_)) <;> conv => whnf) | fail
      · rename_i he
        have he := eqK.1 (kv_eq.1 he)
        exact bool_true (by rw [addr (by omega)]; exact decide_eq_true ⟨h0, hw, he.1, he.2⟩)
      · rename_i he
        have he : ¬ (k.n = topN k.n (min k.len 128).toNat ∧ k.path = []) := fun h => he (kv_eq.2 (eqK.2 h))
        exact bool_false (by rw [addr (by omega)]; exact decide_eq_false fun h => he ⟨h.2.2.1, h.2.2.2⟩)
    · rename_i hw
      exact bool_false (by rw [addr (by omega)]; exact decide_eq_false fun h => hw h.2.1)
  · rename_i hk1 hk h0
    exact bool_false (by rw [addr (by omega)]; exact decide_eq_false fun h => h0 h.1)
  · rename_i h1 h2 h3
    refine ⟨_, ACall.of_pure (right_ok k.path hp) rfl ⟨rfl, rfl⟩, ?_⟩
    have hr : rightK k = (okPath k.path && decide (k.len = ((labs k.path).length : Int) ∧ k.n = 0)) := by
      unfold rightK; rw [if_neg (by omega), if_pos h3]
    cases hb : okPath k.path
    · (conv => whnf); (repeat' first | ((with_reducible refine Box.mk ?_); conv => whnf) | ((with_reducible refine And.intro (fun _ => ?_) (fun _ => ?_)) <;> conv => whnf) | fail)
      exact bool_false (by rw [hr, hb]; rfl)
    · (conv => whnf); (repeat' first | ((with_reducible refine Box.mk ?_); conv => whnf) | ((with_reducible refine And.intro (fun _ => ?_) (fun _ => ?_)) <;> conv => whnf) | fail)
      refine ⟨_, ACall.of_pure (ofPath_ok k.path hp) rfl ⟨rfl, rfl⟩, ?_⟩
      (conv => whnf); (repeat' first | ((with_reducible refine Box.mk ?_); conv => whnf) | ((with_reducible refine And.intro (fun _ => ?_) (fun _ => ?_)) <;> conv => whnf) | fail)
      · rename_i he
        have he := eqP.1 (kv_eq.1 he)
        exact bool_true (by rw [hr, hb]; exact decide_eq_true he.2)
      · rename_i he
        have he : ¬ (k.kind = 3 ∧ k.len = ((labs k.path).length : Int) ∧ k.n = 0) := fun h => he (kv_eq.2 (eqP.2 h))
        exact bool_false (by rw [hr, hb]; exact decide_eq_false fun h => he ⟨h3, h⟩)
  · rename_i h1 h2 h3
    exact bool_false (by unfold rightK; rw [if_neg (by omega), if_neg h3])
end Go.Proofs.YtlmdacgkaailiaaDoor
