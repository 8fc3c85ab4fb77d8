/- wide: what its functions compute. -/
import Derived.Test.YtlmdacgkaailiaaDoorFns
import Derived.Test.YtlmdacgkaailiaaDoorVeT
namespace Go.Proofs.YtlmdacgkaailiaaDoor
open Go.Ve

/-- A number of 128 bits, as its two halves. -/
def wv (N : Nat) : AV := .agg [.int .u64 ((N / H64 : Nat) : Int), .int .u64 ((N % H64 : Nat) : Int)]
theorem hi_lt {N : Nat} (h : N < 2 ^ 128) : N / H64 < H64 := by
  rw [Nat.div_lt_iff_lt_mul (by decide), hh]; exact h
theorem lo_lt (N : Nat) : N % H64 < H64 := Nat.mod_lt _ (by decide)
theorem wrap_nat_u64 (n : Nat) : IntKind.u64.wrap (n : Int) = ((n % H64 : Nat) : Int) := by
  simp [IntKind.wrap, IntKind.signed, IntKind.bits]

theorem of_ok (n : Nat) (h : n < H64) : PCall P 68 [.int .u64 (n : Int)] (wv n) := by
  refine PCall.of_awp tok mixed fn68 (Nat.le_of_ble_eq_true rfl) ?_
  conv => whnf
  repeat' first | ((with_reducible refine Box.mk ?_); conv => whnf) | ((with_reducible refine And.intro (fun _ => ?_) (fun _ => ?_)) <;> conv => whnf) | fail
  show AV.agg _ = AV.agg _
  rw [Nat.div_eq_of_lt h, Nat.mod_eq_of_lt h]; rfl

theorem and_ok (N M : Nat) (hN : N < 2 ^ 128) (hM : M < 2 ^ 128) : PCall P 88 [wv N, wv M] (wv (N &&& M)) := by
  refine PCall.of_awp tok mixed fn88 (Nat.le_of_ble_eq_true rfl) ?_
  conv => whnf
  repeat' first | ((with_reducible refine Box.mk ?_); conv => whnf) | ((with_reducible refine And.intro (fun _ => ?_) (fun _ => ?_)) <;> conv => whnf) | fail
  show AV.agg [_, _] = AV.agg [_, _]
  rw [u64_and_nat _ _ (hi_lt hN) (hi_lt hM), u64_and_nat _ _ (lo_lt N) (lo_lt M), (and_halves N M).1, (and_halves N M).2]

def leftN (N : Nat) (n : Int) : Nat := if n < 1 then N else if 128 ≤ n then 0 else N * 2 ^ n.toNat % 2 ^ 128
theorem left_ok (N : Nat) (n : Int) : PCall P 70 [wv N, .int .i64 n] (wv (leftN N n)) := by
  refine PCall.of_awp tok mixed fn70 (Nat.le_of_ble_eq_true rfl) ?_
  conv => whnf
  repeat' first | ((with_reducible refine Box.mk ?_); conv => whnf) | ((with_reducible refine And.intro (fun _ => ?_) (fun _ => ?_)) <;> conv => whnf) | fail
  · rename_i h1
    rw [leftN, if_pos h1]; rfl
  · rename_i h1 h2
    show AV.agg _ = AV.agg _
    rw [leftN, if_neg h1, if_pos h2]; rfl
  · rename_i h1 h2 h3
    obtain ⟨k, rfl⟩ := Int.eq_ofNat_of_zero_le (show 0 ≤ n by omega)
    have hw : IntKind.i64.wrap ((k : Int) - 64) = ((k - 64 : Nat) : Int) := by rw [wrap_i64 (by omega) (by omega)]; omega
    refine ⟨by show 0 ≤ IntKind.i64.wrap ((k : Int) - 64); rw [hw]; omega, ?_⟩
    conv => whnf
    repeat' first | ((with_reducible refine Box.mk ?_); conv => whnf) | ((with_reducible refine And.intro (fun _ => ?_) (fun _ => ?_)) <;> conv => whnf) | fail
    obtain ⟨e1, e2⟩ := left_far N k (by omega)
    show AV.agg [_, _] = AV.agg [_, _]
    rw [leftN, if_neg h1, if_neg h2, Int.toNat_natCast, e1, e2, hw, Int.toNat_natCast]
    have e3 : min (k - 64) IntKind.u64.bits = k - 64 := by show min (k - 64) 64 = _; omega
    have e4 : IntKind.u64.wrap (((N % H64 : Nat) : Int) * 2 ^ (k - 64)) = ((N % H64 * 2 ^ (k - 64) % H64 : Nat) : Int) := by rw [← wrap_nat_u64 (N % H64 * 2 ^ (k - 64)), Int.natCast_mul, Int.natCast_pow]; rfl
    rw [e3, e4]; rfl
  · rename_i h1 h2 h3
    obtain ⟨k, rfl⟩ := Int.eq_ofNat_of_zero_le (show 0 ≤ n by omega)
    have hk : k < 64 := by omega
    have hw : IntKind.i64.wrap (64 - (k : Int)) = ((64 - k : Nat) : Int) := by rw [wrap_i64 (by omega) (by omega)]; omega
    refine ⟨by kernel_rfl, ?_⟩
    conv => whnf
    repeat' first | ((with_reducible refine Box.mk ?_); conv => whnf) | ((with_reducible refine And.intro (fun _ => ?_) (fun _ => ?_)) <;> conv => whnf) | fail
    refine ⟨by omega, ?_⟩
    conv => whnf
    repeat' first | ((with_reducible refine Box.mk ?_); conv => whnf) | ((with_reducible refine And.intro (fun _ => ?_) (fun _ => ?_)) <;> conv => whnf) | fail
    refine ⟨by show 0 ≤ IntKind.i64.wrap (64 - (k : Int)); rw [hw]; omega, ?_⟩
    conv => whnf
    repeat' first | ((with_reducible refine Box.mk ?_); conv => whnf) | ((with_reducible refine And.intro (fun _ => ?_) (fun _ => ?_)) <;> conv => whnf) | fail
    refine ⟨by omega, ?_⟩
    conv => whnf
    repeat' first | ((with_reducible refine Box.mk ?_); conv => whnf) | ((with_reducible refine And.intro (fun _ => ?_) (fun _ => ?_)) <;> conv => whnf) | fail
    show AV.agg [_, _] = AV.agg [_, _]
    have e1 : min k IntKind.u64.bits = k := by show min k 64 = _; omega
    have e2 : min (64 - k) IntKind.u64.bits = 64 - k := by show min (64 - k) 64 = _; omega
    have e3 : ∀ m : Nat, IntKind.u64.wrap ((m : Int) * 2 ^ k) = ((m * 2 ^ k % H64 : Nat) : Int) := fun m => by rw [← wrap_nat_u64, Int.natCast_mul, Int.natCast_pow]; rfl
    have e4 : (((N % H64 : Nat) : Int)).fdiv (2 ^ (64 - k)) = ((N % H64 / 2 ^ (64 - k) : Nat) : Int) := by
      rw [Int.natCast_ediv, Int.natCast_pow]
      exact Int.fdiv_eq_ediv_of_nonneg _ (Int.le_of_lt (Int.pow_pos (by decide)))
    rw [hw, Int.toNat_natCast, Int.toNat_natCast, e1, e2, e3, e3, e4, u64_or_nat _ _ (Nat.mod_lt _ (by decide)) (Nat.lt_of_le_of_lt (Nat.div_le_self _ _) (lo_lt N))]
    rw [leftN, if_neg h1, if_neg h2, Int.toNat_natCast, left_hi N k hk, left_lo]
theorem leftN_lt {N : Nat} (hN : N < 2 ^ 128) (n : Int) : leftN N n < 2 ^ 128 := by
  unfold leftN
  split
  · exact hN
  · split
    · decide
    · exact Nat.mod_lt _ (by decide)

def maskN (n : Int) : Nat := if n ≤ 0 then 0 else leftN (2 ^ 128 - 1) (128 - min n 128)
theorem mask_ok (n : Int) : PCall P 89 [.int .i64 n] (wv (maskN n)) := by
  refine PCall.of_awp tok mixed fn89 (Nat.le_of_ble_eq_true rfl) ?_
  conv => whnf
  repeat' first | ((with_reducible refine Box.mk ?_); conv => whnf) | ((with_reducible refine And.intro (fun _ => ?_) (fun _ => ?_)) <;> conv => whnf) | fail
  · rename_i h1
    rw [maskN, if_pos h1]; rfl
  · rename_i h1
    have hw : IntKind.i64.wrap (128 - min n 128) = 128 - min n 128 := wrap_i64 (by omega) (by omega)
    have c := left_ok (2 ^ 128 - 1) (IntKind.i64.wrap (128 - min n 128))
    rw [hw] at c
    refine ACall.of_pure (args := [.agg [.int .u64 18446744073709551615, .int .u64 18446744073709551615], .int .i64 (IntKind.i64.wrap (128 - min n 128))]) (by rw [hw]; exact c) rfl ?_
    (conv => whnf); (repeat' first | ((with_reducible refine Box.mk ?_); conv => whnf) | ((with_reducible refine And.intro (fun _ => ?_) (fun _ => ?_)) <;> conv => whnf) | fail)
    rw [maskN, if_neg h1]; rfl
theorem and_mask {N : Nat} (hN : N < 2 ^ 128) (n : Int) : N &&& maskN n = topN N (min n 128).toNat := by
  unfold maskN topN
  split
  · rename_i h
    rw [Nat.and_zero, show (min n 128).toNat = 0 by omega, Nat.div_eq_of_lt (by simpa using hN), Nat.zero_mul]
  · rename_i h
    unfold leftN
    split
    · rename_i h1
      have e : (min n 128).toNat = 128 := by omega
      rw [e, Nat.and_two_pow_sub_one_eq_mod, Nat.mod_eq_of_lt hN]
      simp
    · rw [if_neg (by omega)]
      have e : (128 - min n 128).toNat = 128 - (min n 128).toNat := by omega
      rw [e, all_left _ (by omega), and_top N _ hN (by omega)]
theorem top_ok' (N : Nat) (hN : N < 2 ^ 128) (n : Int) : PCall P 78 [wv N, .int .i64 n] (wv (topN N (min n 128).toNat)) := by
  have hM : maskN n < 2 ^ 128 := by
    unfold maskN
    split
    · decide
    · exact leftN_lt (by decide) _
  refine PCall.of_awp tok mixed fn78 (Nat.le_of_ble_eq_true rfl) ?_
  conv => whnf
  repeat' first | ((with_reducible refine Box.mk ?_); conv => whnf) | ((with_reducible refine And.intro (fun _ => ?_) (fun _ => ?_)) <;> conv => whnf) | fail
  refine ⟨by kernel_rfl, ?_⟩
  conv => whnf
  repeat' first | ((with_reducible refine Box.mk ?_); conv => whnf) | ((with_reducible refine And.intro (fun _ => ?_) (fun _ => ?_)) <;> conv => whnf) | fail
  refine ⟨_, ACall.of_pure (mask_ok n) rfl ⟨rfl, rfl⟩, ?_⟩
  conv => whnf
  repeat' first | ((with_reducible refine Box.mk ?_); conv => whnf) | ((with_reducible refine And.intro (fun _ => ?_) (fun _ => ?_)) <;> conv => whnf) | fail
  refine ⟨_, ACall.of_pure (and_ok N (maskN n) hN hM) rfl ⟨rfl, rfl⟩, ?_⟩
  conv => whnf
  repeat' first | ((with_reducible refine Box.mk ?_); conv => whnf) | ((with_reducible refine And.intro (fun _ => ?_) (fun _ => ?_)) <;> conv => whnf) | fail
  rw [and_mask hN]; rfl

/-- How many first bits are alike. -/
def sameGo (A B : Nat) : Nat → Nat → Nat
  | 0, i => i
  | f + 1, i => if topN A (i + 1) = topN B (i + 1) then sameGo A B f (i + 1) else i
def sameN (A B : Nat) : Nat := sameGo A B 128 0
theorem sameGo_stop {A B i : Nat} (h : ∀ j, j < i → topN A (j + 1) = topN B (j + 1)) (hs : i = 128 ∨ topN A (i + 1) ≠ topN B (i + 1)) : ∀ (f j : Nat), j + f = 128 → j ≤ i → i ≤ 128 → sameGo A B f j = i
  | 0, j, h1, h2, h3 => by simp only [sameGo]; omega
  | f + 1, j, h1, h2, h3 => by
    rw [sameGo]
    by_cases hj : j = i
    · subst hj
      rw [if_neg (hs.resolve_left (by omega))]
    · rw [if_pos (h j (by omega)), sameGo_stop h hs f (j + 1) (by omega) (by omega) h3]
theorem sameN_stop {A B i : Nat} (h : ∀ j, j < i → topN A (j + 1) = topN B (j + 1)) (hi : i ≤ 128) (hs : i = 128 ∨ topN A (i + 1) ≠ topN B (i + 1)) : sameN A B = i := sameGo_stop h hs 128 0 rfl (Nat.zero_le _) hi
theorem wv_eq {A B : Nat} : (((A / H64 : Nat) : Int) = ((B / H64 : Nat) : Int) ∧ ((A % H64 : Nat) : Int) = ((B % H64 : Nat) : Int)) ↔ A = B := by
  refine ⟨fun ⟨h1, h2⟩ => ?_, fun h => by rw [h]; exact ⟨rfl, rfl⟩⟩
  have h3 := Int.ofNat_inj.1 h1
  have h4 := Int.ofNat_inj.1 h2
  rw [← Nat.div_add_mod A H64, ← Nat.div_add_mod B H64, h3, h4]

theorem same_ok (A B : Nat) (hA : A < 2 ^ 128) (hB : B < 2 ^ 128) : PCall P 90 [wv A, wv B] (.int .i64 ((sameN A B : Nat) : Int)) := by
  refine PCall.of_awp tok mixed fn90 (Nat.le_of_ble_eq_true rfl) ?_
  conv => whnf
  repeat' first | ((with_reducible refine Box.mk ?_); conv => whnf) | ((with_reducible refine And.intro (fun _ => ?_) (fun _ => ?_)) <;> conv => whnf) | fail
  refine aloop (fun i => i ≤ 128 ∧ ∀ j, j < i → topN A (j + 1) = topN B (j + 1)) (fun i : Nat => ⟨envL [(2, .ptr 0 0), (3, .ptr 1 0), (6, .int .i64 i)], [.box 59 [.int .u64 ((A / H64 : Nat) : Int), .int .u64 ((A % H64 : Nat) : Int)], .box 59 [.int .u64 ((B / H64 : Nat) : Int), .int .u64 ((B % H64 : Nat) : Int)]]⟩)
    (fun i => 128 - i) 0 ⟨Nat.zero_le _, fun j h => by omega⟩ (weak_to ⟨rfl, rfl, rfl, trivial⟩ rfl) ?_
  rintro i ⟨hi, hs⟩
  conv => whnf
  repeat' first | ((with_reducible refine Box.mk ?_); conv => whnf) | ((with_reducible refine And.intro (fun _ => ?_) (fun _ => ?_)) <;> conv => whnf) | fail
  · rename_i hlt
    have hw : IntKind.i64.wrap ((i : Int) + 1) = ((i + 1 : Nat) : Int) := by rw [wrap_i64 (by omega) (by omega)]; rfl
    have hm : (min (IntKind.i64.wrap ((i : Int) + 1)) 128).toNat = i + 1 := by rw [hw]; omega
    have c1 := top_ok' A hA (IntKind.i64.wrap ((i : Int) + 1))
    have c2 := top_ok' B hB (IntKind.i64.wrap ((i : Int) + 1))
    rw [hm] at c1 c2
    refine ⟨by kernel_rfl, ?_⟩
    conv => whnf
    repeat' first | ((with_reducible refine Box.mk ?_); conv => whnf) | ((with_reducible refine And.intro (fun _ => ?_) (fun _ => ?_)) <;> conv => whnf) | fail
    refine ⟨_, ACall.of_pure c1 rfl ⟨rfl, rfl⟩, ?_⟩
    conv => whnf
    repeat' first | ((with_reducible refine Box.mk ?_); conv => whnf) | ((with_reducible refine And.intro (fun _ => ?_) (fun _ => ?_)) <;> conv => whnf) | fail
    refine ⟨_, ACall.of_pure c2 rfl ⟨rfl, rfl⟩, ?_⟩
    conv => whnf
    repeat' first | ((with_reducible refine Box.mk ?_); conv => whnf) | ((with_reducible refine And.intro (fun _ => ?_) (fun _ => ?_)) <;> conv => whnf) | fail
    · rename_i he
      have he := wv_eq.1 he
      refine ⟨i + 1, ⟨by omega, fun j hj => ?_⟩, by omega, weak_to ⟨rfl, rfl, wrap_nat (m := 1) (by omega), trivial⟩ rfl⟩
      by_cases hji : j = i
      · subst hji; exact he
      · exact hs j (by omega)
    · rename_i he
      have he : topN A (i + 1) ≠ topN B (i + 1) := fun e => he (wv_eq.2 e)
      refine res1_eq (congrArg (AV.int .i64) ?_)
      rw [sameN_stop hs hi (.inr he)]
  · rename_i hlt
    refine res1_eq (congrArg (AV.int .i64) ?_)
    rw [sameN_stop hs hi (.inl (by omega))]
    omega
end Go.Proofs.YtlmdacgkaailiaaDoor
