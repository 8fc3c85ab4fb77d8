/- key: arguments read as data. -/
import Derived.Test.YtlmdacgkaailiaaDoorKey
namespace Go.Proofs.YtlmdacgkaailiaaDoor
open Go.Ve

theorem lit_rng {k : IntKind} {n : Int} (h : (Lit.int k n).wf = true) : k.min ≤ n ∧ n ≤ k.max := by
  simpa [Lit.wf] using h
theorem u64_lit {n : Int} (h : (Lit.int .u64 n).wf = true) : ∃ m : Nat, n = (m : Int) ∧ m < H64 := by
  have h1 : (0 : Int) ≤ n ∧ n ≤ 18446744073709551615 := lit_rng h
  exact ⟨n.toNat, by omega, by show n.toNat < 18446744073709551616; omega⟩
theorem u32_lit {n : Int} (h : (Lit.int .u32 n).wf = true) : ∃ m : Nat, n = (m : Int) ∧ m < 4294967296 := by
  have h1 : (0 : Int) ≤ n ∧ n ≤ 4294967295 := lit_rng h
  exact ⟨n.toNat, by omega, by omega⟩
theorem i64_lit {n : Int} (h : (Lit.int .i64 n).wf = true) : -9223372036854775808 ≤ n ∧ n ≤ 9223372036854775807 := lit_rng h
theorem halves {a b : Nat} (hb : b < H64) : (a * H64 + b) / H64 = a ∧ (a * H64 + b) % H64 = b := by
  refine ⟨?_, ?_⟩
  · rw [Nat.mul_comm, Nat.mul_add_div (by decide), Nat.div_eq_of_lt hb, Nat.add_zero]
  · rw [Nat.mul_comm, Nat.mul_add_mod, Nat.mod_eq_of_lt hb]
theorem halves_lt {a b : Nat} (ha : a < H64) (hb : b < H64) : a * H64 + b < 2 ^ 128 := by
  have h1 : (a + 1) * H64 ≤ H64 * H64 := Nat.mul_le_mul_right _ ha
  rw [hh, Nat.add_mul, Nat.one_mul] at h1
  omega
theorem wide_inv {B : Nat} {x : AV} (h : WfV ty B 59 x) : ∃ W : Nat, x = wv W ∧ W < 2 ^ 128 := by
  obtain ⟨xs, rfl, h1⟩ := h.struct_inv rfl
  obtain ⟨x1, r1, rfl, ha, h2⟩ := h1.cons_inv
  obtain ⟨x2, r2, rfl, hb, h3⟩ := h2.cons_inv
  obtain rfl := h3.nil_inv
  obtain ⟨a', rfl, ha2⟩ := ha.int_inv rfl
  obtain ⟨b', rfl, hb2⟩ := hb.int_inv rfl
  obtain ⟨a, rfl, ha3⟩ := u64_lit ha2
  obtain ⟨b, rfl, hb3⟩ := u64_lit hb2
  obtain ⟨e1, e2⟩ := halves (a := a) hb3
  exact ⟨a * H64 + b, by unfold wv; rw [e1, e2]; rfl, halves_lt ha3 hb3⟩
/-- A key as data. -/
structure KOk (B : Nat) (k : Ky) : Prop where
  n : k.n < 2 ^ 128
  path : k.path.length ≤ B
  kind : -9223372036854775808 ≤ k.kind ∧ k.kind ≤ 9223372036854775807
  len : -9223372036854775808 ≤ k.len ∧ k.len ≤ 9223372036854775807
theorem key_wf {B : Nat} {xs : List AV} (h : Wf ty B 48 xs) : ∃ k : Ky, xs = [.int .i64 k.kind, .int .i64 k.len, .int .u64 ((k.n / H64 : Nat) : Int), .int .u64 ((k.n % H64 : Nat) : Int), .str k.path] ∧ KOk B k := by
  have h0 := h.struct_inv rfl
  obtain ⟨x1, r1, rfl, hk, h1⟩ := h0.cons_inv
  obtain ⟨x2, r2, rfl, hl, h2⟩ := h1.cons_inv
  obtain ⟨x3, r3, rfl, ha, h3⟩ := h2.cons_inv
  obtain ⟨x4, r4, rfl, hb, h4⟩ := h3.cons_inv
  obtain ⟨x5, r5, rfl, hp, h5⟩ := h4.cons_inv
  obtain rfl := h5.nil_inv
  obtain ⟨kd, rfl, hk2⟩ := hk.int_inv rfl
  obtain ⟨ln, rfl, hl2⟩ := hl.int_inv rfl
  obtain ⟨a', rfl, ha2⟩ := ha.int_inv rfl
  obtain ⟨b', rfl, hb2⟩ := hb.int_inv rfl
  obtain ⟨p, rfl, hp2⟩ := hp.str_inv rfl
  obtain ⟨a, rfl, ha3⟩ := u64_lit ha2
  obtain ⟨b, rfl, hb3⟩ := u64_lit hb2
  obtain ⟨e1, e2⟩ := halves (a := a) hb3
  exact ⟨⟨kd, ln, a * H64 + b, p⟩, by show _ = [_, _, AV.int _ (((a * H64 + b) / H64 : Nat) : Int), AV.int _ (((a * H64 + b) % H64 : Nat) : Int), _]; rw [e1, e2]; rfl, halves_lt ha3 hb3, hp2, i64_lit hk2, i64_lit hl2⟩
theorem key_inv {B : Nat} {x : AV} (h : WfV ty B 48 x) : ∃ k : Ky, x = kv k ∧ KOk B k := by
  obtain ⟨i, xs, h1, h2, h3⟩ := h
  obtain ⟨k, rfl, hk⟩ := key_wf h2
  rcases h3 with ⟨_, rfl⟩ | ⟨ha, _⟩
  · exact ⟨k, rfl, hk⟩
  · cases h1; cases ha
end Go.Proofs.YtlmdacgkaailiaaDoor
