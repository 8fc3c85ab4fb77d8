/- key, the document's answer: a key out of its letters. -/
import Derived.Test.YtlmdacgkaailiaaDoorRef7c
namespace Go.Proofs.YtlmdacgkaailiaaDoor
open Go.Ve

theorem pNil2 {f : FuncId} {a : AV} {r : AV} (h : PCall P f [a, .sl []] r) : PCall P f [a, .nils] r := by
  unfold PCall at *
  refine ⟨h.1, fun M0 w vs hM hG hv => h.2 M0 w vs hM hG ⟨hv.1, fun i x hx => ?_⟩⟩
  match i, hx with
  | 0, hx => exact hv.2 0 x hx
  | 1, hx =>
    cases hx
    have e := (hv.2 1 .nils rfl).nils_inv
    rw [e]; exact .sl0 _

theorem topN_succ (N i : Nat) (hi : i < 128) : topN N (i + 1) = topN N i + (N.testBit (127 - i)).toNat * 2 ^ (127 - i) := by
  unfold topN
  have e1 : 128 - (i + 1) = 127 - i := by omega
  have e2 : 128 - i = (127 - i) + 1 := by omega
  rw [e1, e2]
  generalize 127 - i = k
  have h : N / 2 ^ k = 2 * (N / 2 ^ (k + 1)) + (N.testBit k).toNat := by
    have h1 : N / 2 ^ (k + 1) = N / 2 ^ k / 2 := by rw [Nat.div_div_eq_div_mul, ← Nat.pow_succ]
    rw [h1, Nat.testBit_eq_decide_div_mod_eq]
    have h2 := Nat.div_add_mod (N / 2 ^ k) 2
    rcases Nat.mod_two_eq_zero_or_one (N / 2 ^ k) with h3 | h3 <;> simp [h3] <;> omega
  have h4 : N / 2 ^ k * 2 ^ k = (2 * (N / 2 ^ (k + 1)) + (N.testBit k).toNat) * 2 ^ k := by rw [← h]
  rw [h4, Nat.add_mul, Nat.pow_succ]
  congr 1
  rw [Nat.mul_comm 2, Nat.mul_assoc, Nat.mul_comm 2]
theorem topN_hi {N i : Nat} (hi : 64 ≤ i) (h8 : i ≤ 128) : topN N i / H64 = N / H64 := by
  unfold topN
  have e : H64 = 2 ^ (128 - i) * 2 ^ (i - 64) := by rw [h64, ← Nat.pow_add]; congr 1; omega
  rw [e, ← Nat.div_div_eq_div_mul, Nat.mul_div_cancel _ (Nat.two_pow_pos _), Nat.div_div_eq_div_mul]
/-- One letter more. -/
theorem top_step {N i : Nat} (hi : i < 128) : topN N (i + 1) / H64 = topN N i / H64 + (if i < 64 then (N.testBit (127 - i)).toNat * 2 ^ (63 - i) else 0) ∧
    topN N (i + 1) % H64 = topN N i % H64 + (if i < 64 then 0 else (N.testBit (127 - i)).toNat * 2 ^ (127 - i)) := by
  have hs := topN_succ N i hi
  split
  · rename_i h
    have e : (N.testBit (127 - i)).toNat * 2 ^ (127 - i) = H64 * ((N.testBit (127 - i)).toNat * 2 ^ (63 - i)) := by
      have : 2 ^ (127 - i) = H64 * 2 ^ (63 - i) := by rw [h64, ← Nat.pow_add]; congr 1; omega
      rw [this, ← Nat.mul_assoc, Nat.mul_comm _ H64, Nat.mul_assoc]
    rw [hs, e]
    exact ⟨Nat.add_mul_div_left _ _ (by decide), Nat.add_mul_mod_self_left _ _ _⟩
  · rename_i h
    have d : topN N (i + 1) / H64 = topN N i / H64 := by rw [topN_hi (by omega) (by omega), topN_hi (by omega) (by omega)]
    refine ⟨by rw [d]; rfl, ?_⟩
    have h1 := Nat.div_add_mod (topN N (i + 1)) H64
    have h2 := Nat.div_add_mod (topN N i) H64
    rw [d] at h1
    omega

theorem letter_one (N i : Nat) : (letter N i = [49]) ↔ N.testBit (127 - i) = true := by
  unfold letter
  cases N.testBit (127 - i) <;> decide
theorem letB_get {N n i : Nat} (h : i < n) : (letB N n)[i]'(by rw [letB_len]; exact h) = letter N i := by simp [letB]

theorem of3_ok (l : List Bs) (B : Nat) (hB : ∀ x ∈ l, x.length ≤ B) (h : l.length * B + l.length + B + 1 ≤ 9223372036854775807) : PCall P 69 [.int .i64 3, .sl (strs l)] (kv ⟨3, l.length, 0, joinD l⟩) := by
  refine PCall.of_awp tok mixed fn69 (Nat.le_of_ble_eq_true rfl) ?_
  conv => whnf
  repeat' first | ((with_reducible refine Box.mk ?_); conv => whnf) | ((with_reducible refine And.intro (fun _ => ?_) (fun _ => ?_)) <;> conv => whnf) | fail
  (all_goals try (first | contradiction | (rename_i hbad; exact absurd rfl hbad) | (exfalso; omega)))
  refine ACall.of_pure (refJoin_ok l B hB h (by omega)) rfl ?_
  conv => whnf
  repeat' first | ((with_reducible refine Box.mk ?_); conv => whnf) | ((with_reducible refine And.intro (fun _ => ?_) (fun _ => ?_)) <;> conv => whnf) | fail
  show AV.agg [_, _, _, _, _] = AV.agg [_, _, _, _, _]
  rw [strs_len]; simp

theorem ofB_ok (kind : Int) (hk : kind ≠ 3) (N n : Nat) (hN : N < 2 ^ 128) (hn : n ≤ 128) : PCall P 69 [.int .i64 kind, .sl (strs (letB N n))] (kv ⟨kind, n, topN N n, []⟩) := by
  have t0 : topN N 0 = 0 := by unfold topN; rw [Nat.div_eq_of_lt (by simpa using hN), Nat.zero_mul]
  refine PCall.of_awp tok mixed fn69 (Nat.le_of_ble_eq_true rfl) ?_
  conv => whnf
  repeat' first | ((with_reducible refine Box.mk ?_); conv => whnf) | ((with_reducible refine And.intro (fun _ => ?_) (fun _ => ?_)) <;> conv => whnf) | fail
  (all_goals try (first | contradiction | (rename_i hbad; exact absurd rfl hbad) | (exfalso; omega)))
  refine aloop (fun i => i ≤ n) (fun i : Nat => ⟨envL [(1, .sl (strs (letB N n))), (4, .ptr 0 0), (5, .ptr 1 0), (6, .int .i64 i)], [.box 48 [.int .i64 0, .int .i64 0, .int .u64 0, .int .u64 0, .str []],
      .box 48 [.int .i64 kind, .int .i64 n, .int .u64 ((topN N i / H64 : Nat) : Int), .int .u64 ((topN N i % H64 : Nat) : Int), .str []]]⟩) (fun i => n - i) 0 (Nat.zero_le _)
    (weak_to ⟨rfl, rfl, rfl, rfl, trivial⟩ (by rw [t0]; show [_, Ob.box _ [_, _, _, _, _]] = [_, Ob.box _ [_, _, _, _, _]]; rw [strs_len, letB_len]; rfl)) ?_
  rintro i hi
  have e63 : i < 64 → IntKind.u64.wrap (IntKind.i64.wrap (63 - (i : Int))) = ((63 - i : Nat) : Int) := fun h => by
    rw [wrap_i64 (by omega) (by omega), wrap_u64 (by omega) (by omega)]; omega
  have e127 : 64 ≤ i → i < 128 → IntKind.u64.wrap (IntKind.i64.wrap (127 - (i : Int))) = ((127 - i : Nat) : Int) := fun h h2 => by
    rw [wrap_i64 (by omega) (by omega), wrap_u64 (by omega) (by omega)]; omega
  have hlt1 := topN_lt (n := i + 1) hN
  have hsz : ∀ {j : Nat}, j < n → j < (letB N n).length := fun h => by rw [letB_len]; exact h
  have shl : ∀ k : Nat, k < 64 → IntKind.u64.wrap (1 * 2 ^ (min (k : Int).toNat IntKind.u64.bits)) = ((2 ^ k : Nat) : Int) := fun k hk => by
    have e : min (k : Int).toNat IntKind.u64.bits = k := by show min k 64 = k; omega
    have : 2 ^ k < H64 := by rw [h64]; exact Nat.pow_lt_pow_right (by decide) hk
    have e2 : (1 * 2 ^ k : Int) = ((2 ^ k : Nat) : Int) := by simp
    rw [e, e2, wrap_nat_u64, Nat.mod_eq_of_lt this]
  conv => whnf
  repeat' first | ((with_reducible refine Box.mk ?_); conv => whnf) | ((with_reducible refine And.intro (fun _ => ?_) (fun _ => ?_)) <;> conv => whnf) | fail
  · rename_i hlt
    rw [strs_len, letB_len] at hlt
    have hlt' : i < n := by omega
    have hi8 : i < 128 := by omega
    obtain ⟨s1, s2⟩ := top_step (N := N) hi8
    have hcell : (strs (letB N n))[(i : Int).toNat]? = some [.str (letter N i)] := by rw [strs_at (hsz hlt'), letB_get hlt']
    have b1 := hi_lt hlt1
    have b2 := lo_lt (topN N (i + 1))
    cases hb : N.testBit (127 - i)
    · have hl : letter N i = [48] := by rw [letter, hb]; rfl
      rw [hl] at hcell
      rw [hb] at s1 s2
      have s1 : topN N (i + 1) / H64 = topN N i / H64 := by rw [s1]; split <;> simp
      have s2 : topN N (i + 1) % H64 = topN N i % H64 := by rw [s2]; split <;> simp
      refine ⟨by omega, [.str [48]], hcell, rfl, ?_⟩
      conv => whnf
      repeat' first | ((with_reducible refine Box.mk ?_); conv => whnf) | ((with_reducible refine And.intro (fun _ => ?_) (fun _ => ?_)) <;> conv => whnf) | fail
      all_goals try (exfalso; rename_i hbad; exact absurd hbad (by decide))
      all_goals try (exfalso; rename_i hbad _; exact absurd hbad (by decide))
      refine ⟨by omega, [.str [48]], hcell, rfl, ?_⟩
      conv => whnf
      repeat' first | ((with_reducible refine Box.mk ?_); conv => whnf) | ((with_reducible refine And.intro (fun _ => ?_) (fun _ => ?_)) <;> conv => whnf) | fail
      all_goals try (exfalso; rename_i hbad; exact absurd hbad (by decide))
      all_goals try (exfalso; rename_i hbad _; exact absurd hbad (by decide))
      exact ⟨i + 1, hlt', by omega, weak_to ⟨rfl, rfl, rfl, wrap_nat (m := 1) (by omega), trivial⟩ (by rw [s1, s2])⟩
    · have hl : letter N i = [49] := by rw [letter, hb]; rfl
      rw [hl] at hcell
      rw [hb] at s1 s2
      refine ⟨by omega, [.str [49]], hcell, rfl, ?_⟩
      conv => whnf
      repeat' first | ((with_reducible refine Box.mk ?_); conv => whnf) | ((with_reducible refine And.intro (fun _ => ?_) (fun _ => ?_)) <;> conv => whnf) | fail
      all_goals try (exfalso; rename_i hbad; exact absurd rfl hbad)
      · rename_i h1
        have hi6 : i < 64 := by omega
        rw [e63 hi6]
        refine ⟨by omega, ?_⟩
        conv => whnf
        repeat' first | ((with_reducible refine Box.mk ?_); conv => whnf) | ((with_reducible refine And.intro (fun _ => ?_) (fun _ => ?_)) <;> conv => whnf) | fail
        refine ⟨by omega, [.str [49]], hcell, rfl, ?_⟩
        conv => whnf
        repeat' first | ((with_reducible refine Box.mk ?_); conv => whnf) | ((with_reducible refine And.intro (fun _ => ?_) (fun _ => ?_)) <;> conv => whnf) | fail
        all_goals try (exfalso; omega)
        all_goals try (exfalso; rename_i hbad; exact absurd rfl hbad)
        rw [if_pos hi6] at s1 s2
        refine ⟨i + 1, hlt', by omega, weak_to ⟨rfl, rfl, rfl, wrap_nat (m := 1) (by omega), trivial⟩ ?_⟩
        rw [shl _ (by omega), ← Int.natCast_add, wrap_nat_u64]
        simp only [Bool.toNat_true, Nat.one_mul, Nat.add_zero] at s1 s2
        rw [← s1, ← s2, Nat.mod_eq_of_lt b1]
      · rename_i h1
        have hi6 : ¬ i < 64 := by omega
        refine ⟨by omega, [.str [49]], hcell, rfl, ?_⟩
        conv => whnf
        repeat' first | ((with_reducible refine Box.mk ?_); conv => whnf) | ((with_reducible refine And.intro (fun _ => ?_) (fun _ => ?_)) <;> conv => whnf) | fail
        all_goals try (exfalso; omega)
        all_goals try (exfalso; rename_i hbad; exact absurd rfl hbad)
        rw [e127 (by omega) hi8]
        refine ⟨by omega, ?_⟩
        conv => whnf
        repeat' first | ((with_reducible refine Box.mk ?_); conv => whnf) | ((with_reducible refine And.intro (fun _ => ?_) (fun _ => ?_)) <;> conv => whnf) | fail
        rw [if_neg hi6] at s1 s2
        refine ⟨i + 1, hlt', by omega, weak_to ⟨rfl, rfl, rfl, wrap_nat (m := 1) (by omega), trivial⟩ ?_⟩
        rw [shl _ (by omega), ← Int.natCast_add, wrap_nat_u64]
        simp only [Bool.toNat_true, Nat.one_mul, Nat.add_zero] at s1 s2
        rw [← s1, ← s2, Nat.mod_eq_of_lt b2]
  · rename_i hlt
    rw [strs_len, letB_len] at hlt
    have : i = n := by omega
    subst this
    rfl
end Go.Proofs.YtlmdacgkaailiaaDoor
