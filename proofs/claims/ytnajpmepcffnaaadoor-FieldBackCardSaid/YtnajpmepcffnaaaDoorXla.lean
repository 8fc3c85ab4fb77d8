/- The program's contracts: texts joined into one: Wide Wire WireN Wire2 Wire3 Wire4 Wire5 Field Field2 Field3 Field4. -/
import Derived.Test.YtnajpmepcffnaaaDoorXFns
import Derived.Test.YtnajpmepcffnaaaDoorXvb

section
/- wide: what its functions compute. -/
namespace Go.Proofs.YtnajpmepcffnaaaDoor
open Go.Ve

/-- A number of 128 bits, as its two halves. -/
def wv (N : Nat) : AV := .agg [.int .u64 ((N / H64 : Nat) : Int), .int .u64 ((N % H64 : Nat) : Int)]
theorem hi_lt {N : Nat} (h : N < 2 ^ 128) : N / H64 < H64 := by
  rw [Nat.div_lt_iff_lt_mul (by decide), hh]; exact h
theorem lo_lt (N : Nat) : N % H64 < H64 := Nat.mod_lt _ (by decide)
theorem wrap_nat_u64 (n : Nat) : IntKind.u64.wrap (n : Int) = ((n % H64 : Nat) : Int) := by
  simp [IntKind.wrap, IntKind.signed, IntKind.bits]

theorem of_ok (n : Nat) (h : n < H64) : PCall P 64 [.int .u64 (n : Int)] (wv n) := by
  refine PCall.of_awp tok mixed fn64 (Nat.le_of_ble_eq_true rfl) ?_
  conv => whnf
  repeat' first | ((with_reducible refine Box.mk ?_); conv => whnf) | ((with_reducible refine And.intro (fun _ => ?_) (fun _ => ?_)) <;> conv => whnf) | ((with_reducible show AYld _ _ _ _ _); (refine AYld.of tok mixed ?_); conv => whnf) | ((with_reducible show forceH _ _); (refine (forceH_eq _ _).mpr ?_); conv => whnf) | fail
  show AV.agg _ = AV.agg _
  rw [Nat.div_eq_of_lt h, Nat.mod_eq_of_lt h]; rfl

theorem and_ok (N M : Nat) (hN : N < 2 ^ 128) (hM : M < 2 ^ 128) : PCall P 81 [wv N, wv M] (wv (N &&& M)) := by
  refine PCall.of_awp tok mixed fn81 (Nat.le_of_ble_eq_true rfl) ?_
  conv => whnf
  repeat' first | ((with_reducible refine Box.mk ?_); conv => whnf) | ((with_reducible refine And.intro (fun _ => ?_) (fun _ => ?_)) <;> conv => whnf) | ((with_reducible show AYld _ _ _ _ _); (refine AYld.of tok mixed ?_); conv => whnf) | ((with_reducible show forceH _ _); (refine (forceH_eq _ _).mpr ?_); conv => whnf) | fail
  show AV.agg [_, _] = AV.agg [_, _]
  rw [u64_and_nat _ _ (hi_lt hN) (hi_lt hM), u64_and_nat _ _ (lo_lt N) (lo_lt M), (and_halves N M).1, (and_halves N M).2]

def leftN (N : Nat) (n : Int) : Nat := if n < 1 then N else if 128 ≤ n then 0 else N * 2 ^ n.toNat % 2 ^ 128
theorem left_ok (N : Nat) (n : Int) : PCall P 63 [wv N, .int .i64 n] (wv (leftN N n)) := by
  refine PCall.of_awp tok mixed fn63 (Nat.le_of_ble_eq_true rfl) ?_
  conv => whnf
  repeat' first | ((with_reducible refine Box.mk ?_); conv => whnf) | ((with_reducible refine And.intro (fun _ => ?_) (fun _ => ?_)) <;> conv => whnf) | ((with_reducible show AYld _ _ _ _ _); (refine AYld.of tok mixed ?_); conv => whnf) | ((with_reducible show forceH _ _); (refine (forceH_eq _ _).mpr ?_); conv => whnf) | fail
  · rename_i h1
    rw [leftN, if_pos h1]; rfl
  · rename_i h1 h2
    show AV.agg _ = AV.agg _
    rw [leftN, if_neg h1, if_pos h2]; rfl
  · rename_i h1 h2 h3
    obtain ⟨k, rfl⟩ := Int.eq_ofNat_of_zero_le (show 0 ≤ n by omega)
    have hw : IntKind.i64.wrap ((k : Int) - 64) = ((k - 64 : Nat) : Int) := by rw [wrap_i64 (by omega) (by omega)]; omega
    refine ⟨by show 0 ≤ IntKind.i64.wrap ((k : Int) - 64); rw [hw]; omega, ?_⟩
    conv => whnf
    repeat' first | ((with_reducible refine Box.mk ?_); conv => whnf) | ((with_reducible refine And.intro (fun _ => ?_) (fun _ => ?_)) <;> conv => whnf) | ((with_reducible show AYld _ _ _ _ _); (refine AYld.of tok mixed ?_); conv => whnf) | ((with_reducible show forceH _ _); (refine (forceH_eq _ _).mpr ?_); conv => whnf) | fail
    obtain ⟨e1, e2⟩ := left_far N k (by omega)
    show AV.agg [_, _] = AV.agg [_, _]
    rw [leftN, if_neg h1, if_neg h2, Int.toNat_natCast, e1, e2, hw, Int.toNat_natCast]
    have e3 : min (k - 64) IntKind.u64.bits = k - 64 := by show min (k - 64) 64 = _; omega
    have e4 : IntKind.u64.wrap (((N % H64 : Nat) : Int) * 2 ^ (k - 64)) = ((N % H64 * 2 ^ (k - 64) % H64 : Nat) : Int) := by rw [← wrap_nat_u64 (N % H64 * 2 ^ (k - 64)), Int.natCast_mul, Int.natCast_pow]; rfl
    rw [e3, e4]; rfl
  · rename_i h1 h2 h3
    obtain ⟨k, rfl⟩ := Int.eq_ofNat_of_zero_le (show 0 ≤ n by omega)
    have hk : k < 64 := by omega
    have hw : IntKind.i64.wrap (64 - (k : Int)) = ((64 - k : Nat) : Int) := by rw [wrap_i64 (by omega) (by omega)]; omega
    refine ⟨[], by kernel_rfl, ?_⟩
    conv => whnf
    repeat' first | ((with_reducible refine Box.mk ?_); conv => whnf) | ((with_reducible refine And.intro (fun _ => ?_) (fun _ => ?_)) <;> conv => whnf) | ((with_reducible show AYld _ _ _ _ _); (refine AYld.of tok mixed ?_); conv => whnf) | ((with_reducible show forceH _ _); (refine (forceH_eq _ _).mpr ?_); conv => whnf) | fail
    refine ⟨by omega, ?_⟩
    conv => whnf
    repeat' first | ((with_reducible refine Box.mk ?_); conv => whnf) | ((with_reducible refine And.intro (fun _ => ?_) (fun _ => ?_)) <;> conv => whnf) | ((with_reducible show AYld _ _ _ _ _); (refine AYld.of tok mixed ?_); conv => whnf) | ((with_reducible show forceH _ _); (refine (forceH_eq _ _).mpr ?_); conv => whnf) | fail
    refine ⟨by show 0 ≤ IntKind.i64.wrap (64 - (k : Int)); rw [hw]; omega, ?_⟩
    conv => whnf
    repeat' first | ((with_reducible refine Box.mk ?_); conv => whnf) | ((with_reducible refine And.intro (fun _ => ?_) (fun _ => ?_)) <;> conv => whnf) | ((with_reducible show AYld _ _ _ _ _); (refine AYld.of tok mixed ?_); conv => whnf) | ((with_reducible show forceH _ _); (refine (forceH_eq _ _).mpr ?_); conv => whnf) | fail
    refine ⟨by omega, ?_⟩
    conv => whnf
    repeat' first | ((with_reducible refine Box.mk ?_); conv => whnf) | ((with_reducible refine And.intro (fun _ => ?_) (fun _ => ?_)) <;> conv => whnf) | ((with_reducible show AYld _ _ _ _ _); (refine AYld.of tok mixed ?_); conv => whnf) | ((with_reducible show forceH _ _); (refine (forceH_eq _ _).mpr ?_); conv => whnf) | fail
    show AV.agg [_, _] = AV.agg [_, _]
    have e1 : min k IntKind.u64.bits = k := by show min k 64 = _; omega
    have e2 : min (64 - k) IntKind.u64.bits = 64 - k := by show min (64 - k) 64 = _; omega
    have e3 : ∀ m : Nat, IntKind.u64.wrap ((m : Int) * 2 ^ k) = ((m * 2 ^ k % H64 : Nat) : Int) := fun m => by rw [← wrap_nat_u64, Int.natCast_mul, Int.natCast_pow]; rfl
    have e4 : (((N % H64 : Nat) : Int)).fdiv (2 ^ (64 - k)) = ((N % H64 / 2 ^ (64 - k) : Nat) : Int) := by
      rw [Int.natCast_ediv, Int.natCast_pow]
      exact Int.fdiv_eq_ediv_of_nonneg _ (Int.le_of_lt (Int.pow_pos (by decide)))
    rw [hw, Int.toNat_natCast, Int.toNat_natCast, e1, e2, e3, e3, e4, u64_or_nat _ _ (Nat.mod_lt _ (by decide)) (Nat.lt_of_le_of_lt (Nat.div_le_self _ _) (lo_lt N))]
    rw [leftN, if_neg h1, if_neg h2, Int.toNat_natCast, left_hi N k hk, left_lo]
theorem leftN_lt {N : Nat} (hN : N < 2 ^ 128) (n : Int) : leftN N n < 2 ^ 128 := by
  unfold leftN
  split
  · exact hN
  · split
    · decide
    · exact Nat.mod_lt _ (by decide)

def maskN (n : Int) : Nat := if n ≤ 0 then 0 else leftN (2 ^ 128 - 1) (128 - min n 128)
theorem mask_ok (n : Int) : PCall P 82 [.int .i64 n] (wv (maskN n)) := by
  refine PCall.of_awp tok mixed fn82 (Nat.le_of_ble_eq_true rfl) ?_
  conv => whnf
  repeat' first | ((with_reducible refine Box.mk ?_); conv => whnf) | ((with_reducible refine And.intro (fun _ => ?_) (fun _ => ?_)) <;> conv => whnf) | ((with_reducible show AYld _ _ _ _ _); (refine AYld.of tok mixed ?_); conv => whnf) | ((with_reducible show forceH _ _); (refine (forceH_eq _ _).mpr ?_); conv => whnf) | fail
  · rename_i h1
    rw [maskN, if_pos h1]; rfl
  · rename_i h1
    have hw : IntKind.i64.wrap (128 - min n 128) = 128 - min n 128 := wrap_i64 (by omega) (by omega)
    have c := left_ok (2 ^ 128 - 1) (IntKind.i64.wrap (128 - min n 128))
    rw [hw] at c
    refine ACall.of_pure (args := [.agg [.int .u64 18446744073709551615, .int .u64 18446744073709551615], .int .i64 (IntKind.i64.wrap (128 - min n 128))]) (by rw [hw]; exact c) rfl ?_
    (conv => whnf); (repeat' first | ((with_reducible refine Box.mk ?_); conv => whnf) | ((with_reducible refine And.intro (fun _ => ?_) (fun _ => ?_)) <;> conv => whnf) | ((with_reducible show AYld _ _ _ _ _); (refine AYld.of tok mixed ?_); conv => whnf) | ((with_reducible show forceH _ _); (refine (forceH_eq _ _).mpr ?_); conv => whnf) | fail)
    rw [maskN, if_neg h1]; rfl
theorem and_mask {N : Nat} (hN : N < 2 ^ 128) (n : Int) : N &&& maskN n = topN N (min n 128).toNat := by
  unfold maskN topN
  split
  · rename_i h
    rw [Nat.and_zero, show (min n 128).toNat = 0 by omega, Nat.div_eq_of_lt (by simpa using hN), Nat.zero_mul]
  · rename_i h
    unfold leftN
    split
    · rename_i h1
      have e : (min n 128).toNat = 128 := by omega
      rw [e, Nat.and_two_pow_sub_one_eq_mod, Nat.mod_eq_of_lt hN]
      simp
    · rw [if_neg (by omega)]
      have e : (128 - min n 128).toNat = 128 - (min n 128).toNat := by omega
      rw [e, all_left _ (by omega), and_top N _ hN (by omega)]
theorem top_ok' (N : Nat) (hN : N < 2 ^ 128) (n : Int) : PCall P 72 [wv N, .int .i64 n] (wv (topN N (min n 128).toNat)) := by
  have hM : maskN n < 2 ^ 128 := by
    unfold maskN
    split
    · decide
    · exact leftN_lt (by decide) _
  refine PCall.of_awp tok mixed fn72 (Nat.le_of_ble_eq_true rfl) ?_
  conv => whnf
  repeat' first | ((with_reducible refine Box.mk ?_); conv => whnf) | ((with_reducible refine And.intro (fun _ => ?_) (fun _ => ?_)) <;> conv => whnf) | ((with_reducible show AYld _ _ _ _ _); (refine AYld.of tok mixed ?_); conv => whnf) | ((with_reducible show forceH _ _); (refine (forceH_eq _ _).mpr ?_); conv => whnf) | fail
  refine ⟨[], by kernel_rfl, ?_⟩
  conv => whnf
  repeat' first | ((with_reducible refine Box.mk ?_); conv => whnf) | ((with_reducible refine And.intro (fun _ => ?_) (fun _ => ?_)) <;> conv => whnf) | ((with_reducible show AYld _ _ _ _ _); (refine AYld.of tok mixed ?_); conv => whnf) | ((with_reducible show forceH _ _); (refine (forceH_eq _ _).mpr ?_); conv => whnf) | fail
  refine ⟨_, ACall.of_pure (mask_ok n) rfl ⟨rfl, rfl⟩, ?_⟩
  conv => whnf
  repeat' first | ((with_reducible refine Box.mk ?_); conv => whnf) | ((with_reducible refine And.intro (fun _ => ?_) (fun _ => ?_)) <;> conv => whnf) | ((with_reducible show AYld _ _ _ _ _); (refine AYld.of tok mixed ?_); conv => whnf) | ((with_reducible show forceH _ _); (refine (forceH_eq _ _).mpr ?_); conv => whnf) | fail
  refine ⟨_, ACall.of_pure (and_ok N (maskN n) hN hM) rfl ⟨rfl, rfl⟩, ?_⟩
  conv => whnf
  repeat' first | ((with_reducible refine Box.mk ?_); conv => whnf) | ((with_reducible refine And.intro (fun _ => ?_) (fun _ => ?_)) <;> conv => whnf) | ((with_reducible show AYld _ _ _ _ _); (refine AYld.of tok mixed ?_); conv => whnf) | ((with_reducible show forceH _ _); (refine (forceH_eq _ _).mpr ?_); conv => whnf) | fail
  rw [and_mask hN]; rfl

/-- How many first bits are alike. -/
def sameGo (A B : Nat) : Nat → Nat → Nat
  | 0, i => i
  | f + 1, i => if topN A (i + 1) = topN B (i + 1) then sameGo A B f (i + 1) else i
def sameN (A B : Nat) : Nat := sameGo A B 128 0
theorem sameGo_stop {A B i : Nat} (h : ∀ j, j < i → topN A (j + 1) = topN B (j + 1)) (hs : i = 128 ∨ topN A (i + 1) ≠ topN B (i + 1)) : ∀ (f j : Nat), j + f = 128 → j ≤ i → i ≤ 128 → sameGo A B f j = i
  | 0, j, h1, h2, h3 => by simp only [sameGo]; omega
  | f + 1, j, h1, h2, h3 => by
    rw [sameGo]
    by_cases hj : j = i
    · subst hj
      rw [if_neg (hs.resolve_left (by omega))]
    · rw [if_pos (h j (by omega)), sameGo_stop h hs f (j + 1) (by omega) (by omega) h3]
theorem sameN_stop {A B i : Nat} (h : ∀ j, j < i → topN A (j + 1) = topN B (j + 1)) (hi : i ≤ 128) (hs : i = 128 ∨ topN A (i + 1) ≠ topN B (i + 1)) : sameN A B = i := sameGo_stop h hs 128 0 rfl (Nat.zero_le _) hi
theorem wv_eq {A B : Nat} : (((A / H64 : Nat) : Int) = ((B / H64 : Nat) : Int) ∧ ((A % H64 : Nat) : Int) = ((B % H64 : Nat) : Int)) ↔ A = B := by
  refine ⟨fun ⟨h1, h2⟩ => ?_, fun h => by rw [h]; exact ⟨rfl, rfl⟩⟩
  have h3 := Int.ofNat_inj.1 h1
  have h4 := Int.ofNat_inj.1 h2
  rw [← Nat.div_add_mod A H64, ← Nat.div_add_mod B H64, h3, h4]

end Go.Proofs.YtnajpmepcffnaaaDoor
end

section
/- wire: the writer. -/
namespace Go.Proofs.YtnajpmepcffnaaaDoor
open Go.Ve

def bcl (l : Bs) : List (List AV) := l.map byteCell
theorem bcl_len (l : Bs) : (bcl l).length = l.length := by simp [bcl]
theorem bcl_app (a b : Bs) : bcl (a ++ b) = bcl a ++ bcl b := by simp [bcl]
theorem bcl_cells (l : Bs) : allCells 1 (bcl l) := fun c hc => by
  obtain ⟨b, _, rfl⟩ := List.mem_map.1 hc
  exact ⟨rfl, rfl⟩
theorem bcl_all (l : Bs) : allLen 1 (bcl l) := fun c hc => (bcl_cells l c hc).1
/-- Bytes handed over. -/
def bsl : Bs → AV
  | [] => .nils
  | x :: r => .sl (bcl (x :: r))
/-- A writer's bytes. -/
def wH : Bs → Hp
  | [] => [.box 26 [.nils]]
  | x :: r => [.box 26 [.own 1], .row 5 1 (bcl (x :: r))]
/-- What is behind a writer that held bs and holds cs. -/
def wP : Bs → Bs → Hp
  | [], cs => wH cs
  | _ :: _, cs => [.box 26 [.own 2], .dead, .row 5 1 (bcl cs)]
/-- A number's last k bytes. -/
def numB (n : Nat) : Nat → Bs
  | 0 => []
  | k + 1 => UInt8.ofNat (n / 256 ^ k) :: numB n k
theorem numB_len (n : Nat) : ∀ k, (numB n k).length = k
  | 0 => rfl
  | k + 1 => by simp [numB, numB_len n k]
theorem numB_get {n : Nat} : ∀ {k t : Nat}, t < k → (numB n k)[t]? = some (UInt8.ofNat (n / 256 ^ (k - 1 - t)))
  | 0, _, h => by omega
  | k + 1, 0, _ => by simp [numB]
  | k + 1, t + 1, h => by
    simp only [numB, List.getElem?_cons_succ]
    rw [numB_get (by omega)]
    congr 4; omega
theorem numB_take {n k t : Nat} (h : t < k) : (numB n k).take (t + 1) = (numB n k).take t ++ [UInt8.ofNat (n / 256 ^ (k - 1 - t))] := by
  rw [List.take_add_one, numB_get h]; rfl
/-- How many bytes a number has. -/
def szN (k : Int) : Nat := (min (max k 1) 8).toNat
theorem szN_pos (k : Int) : 1 ≤ szN k ∧ szN k ≤ 8 := by unfold szN; omega
theorem wSize_ok (k : Int) : PCall P 52 [.int .i64 k] (.int .i64 (szN k : Nat)) := by
  refine PCall.of_awp tok mixed fn52 (Nat.le_of_ble_eq_true rfl) ?_
  (conv => whnf); (repeat' first | ((with_reducible refine Box.mk ?_); conv => whnf) | ((with_reducible refine And.intro (fun _ => ?_) (fun _ => ?_)) <;> conv => whnf) | ((with_reducible show AYld _ _ _ _ _); (refine AYld.of tok mixed ?_); conv => whnf) | ((with_reducible show forceH _ _); (refine (forceH_eq _ _).mpr ?_); conv => whnf) | ((with_reducible show ACall _ _ _ _ _); (refine ACall.of_pure (by assumption) (by rfl) ?_); conv => whnf) | ((with_reducible show Exists _); (refine ⟨_, ACall.of_pure (by assumption) (by rfl) ⟨rfl, rfl⟩, ?_⟩); conv => whnf) | ((with_reducible show ∃ L, drawR L _ = true ∧ _); (refine ⟨[], by kernel_rfl, ?_⟩); conv => whnf) | ((with_reducible show _ ∧ _ ∧ _); (refine ⟨by omega, by omega, ?_⟩); conv => whnf) | fail)
  exact res1_eq (congrArg (AV.int .i64) (by unfold szN; omega))
theorem u8_of (n : Nat) : IntKind.u8.wrap (n : Int) = ((UInt8.ofNat n).toNat : Int) := by
  have : IntKind.u8.wrap (n : Int) = ((n % 256 : Nat) : Int) := by
    simp [IntKind.wrap, IntKind.signed, IntKind.bits]
  rw [this]; rfl
theorem byte_at {n i : Nat} (hi : i < 8) : [AV.int .u8 (IntKind.u8.wrap (Int.fdiv (n : Int) (2 ^ (min ((8 * i : Nat) : Int).toNat IntKind.u64.bits))))] = byteCell (UInt8.ofNat (n / 256 ^ i)) := by
  rw [Int.toNat_natCast, Nat.min_eq_left (by show 8 * i ≤ 64; omega)]
  have e2 : Int.fdiv (n : Int) (2 ^ (8 * i)) = ((n / 256 ^ i : Nat) : Int) := by
    rw [show (256 : Nat) = 2 ^ 8 from rfl, ← Nat.pow_mul, Int.fdiv_eq_ediv_of_nonneg _ (Int.pow_nonneg (by decide))]
    norm_cast
  rw [e2, u8_of]; rfl
theorem wNum_nil (n k : Int) : PCall P 32 [.nilp, .int .u64 n, .int .i64 k] .nilp := by
  refine PCall.of_awp tok mixed fn32 (Nat.le_of_ble_eq_true rfl) ?_
  (conv => whnf); (repeat' first | ((with_reducible refine Box.mk ?_); conv => whnf) | ((with_reducible refine And.intro (fun _ => ?_) (fun _ => ?_)) <;> conv => whnf) | ((with_reducible show AYld _ _ _ _ _); (refine AYld.of tok mixed ?_); conv => whnf) | ((with_reducible show forceH _ _); (refine (forceH_eq _ _).mpr ?_); conv => whnf) | ((with_reducible show ACall _ _ _ _ _); (refine ACall.of_pure (by assumption) (by rfl) ?_); conv => whnf) | ((with_reducible show Exists _); (refine ⟨_, ACall.of_pure (by assumption) (by rfl) ⟨rfl, rfl⟩, ?_⟩); conv => whnf) | ((with_reducible show ∃ L, drawR L _ = true ∧ _); (refine ⟨[], by kernel_rfl, ?_⟩); conv => whnf) | ((with_reducible show _ ∧ _ ∧ _); (refine ⟨by omega, by omega, ?_⟩); conv => whnf) | fail)
  all_goals first
    | rfl
    | contradiction
theorem take_ne {l : Bs} {t : Nat} (h : l.take t = []) (ht : t ≤ l.length) : t = 0 := by
  have : (l.take t).length = t := by rw [List.length_take]; omega
  rw [h] at this; exact this.symm
set_option maxHeartbeats 4000000 in
theorem wNum0 (n : Nat) (k : Int) : DCall P 32 [.ptr 0 0, .int .u64 n, .int .i64 k] (wH []) (.ptr 0 0) (wP [] (numB n (szN k))) := by
  have q1 := wSize_ok k
  have hk := szN_pos k
  have hlen := numB_len n (szN k)
  have htk := fun t (h : t < szN k) => numB_take (n := n) h
  have hall : (numB n (szN k)).take (szN k) = numB n (szN k) := List.take_of_length_le (by omega)
  generalize szN k = K at *
  have htl : ∀ t, t ≤ K → ((numB n K).take t).length = t := fun t ht => by rw [List.length_take, hlen]; omega
  refine DCall.of_awp tok mixed fn32 (Nat.le_of_ble_eq_true rfl) ?_
  (conv => whnf); (repeat' first | ((with_reducible refine Box.mk ?_); conv => whnf) | ((with_reducible refine And.intro (fun _ => ?_) (fun _ => ?_)) <;> conv => whnf) | ((with_reducible show AYld _ _ _ _ _); (refine AYld.of tok mixed ?_); conv => whnf) | ((with_reducible show forceH _ _); (refine (forceH_eq _ _).mpr ?_); conv => whnf) | ((with_reducible show ACall _ _ _ _ _); (refine ACall.of_pure (by assumption) (by rfl) ?_); conv => whnf) | ((with_reducible show Exists _); (refine ⟨_, ACall.of_pure (by assumption) (by rfl) ⟨rfl, rfl⟩, ?_⟩); conv => whnf) | ((with_reducible show ∃ L, drawR L _ = true ∧ _); (refine ⟨[], by kernel_rfl, ?_⟩); conv => whnf) | ((with_reducible show _ ∧ _ ∧ _); (refine ⟨by omega, by omega, ?_⟩); conv => whnf) | fail)
  all_goals try contradiction
  refine aloop (fun x : Nat × Bs => x.1 ≤ K ∧ x.2 = (numB n K).take x.1) (fun x => ⟨envL [(0, .ptr 0 0), (1, .int .u64 n), (7, .int .i64 ((K : Int) - 1 - (x.1 : Int)))], wH x.2⟩) (fun x => K - x.1) (0, []) ⟨Nat.zero_le _, rfl⟩
    (weak_to ⟨rfl, rfl, congrArg (AV.int .i64) (by show IntKind.i64.wrap _ = _; rw [wrap_i64 (by omega) (by omega)]; show (K : Int) - 1 = (K : Int) - 1 - ((0 : Nat) : Int); omega), trivial⟩ rfl) ?_
  rintro ⟨t, l⟩ ⟨ht, hl⟩
  have ht : t ≤ K := ht
  have hl : l = (numB n K).take t := hl
  have hll : l.length = t := by rw [hl]; exact htl t ht
  have hbl := bcl_len l
  have hi8 : t < K → IntKind.i64.wrap (8 * ((K : Int) - 1 - (t : Int))) = ((8 * (K - 1 - t) : Nat) : Int) := fun h => by rw [wrap_i64 (by omega) (by omega)]; omega
  have hby := fun h : t < K => byte_at (n := n) (i := K - 1 - t) (by omega)
  have hstep := fun h : t < K => htk t h
  rw [← hl] at hstep
  have hi1 : t < K → IntKind.i64.wrap ((K : Int) - 1 - (t : Int) - 1) = (K : Int) - 1 - ((t + 1 : Nat) : Int) := fun h => by rw [wrap_i64 (by omega) (by omega)]; omega
  cases l with
  | nil =>
    (conv => whnf); (repeat' first | ((with_reducible refine Box.mk ?_); conv => whnf) | ((with_reducible refine And.intro (fun _ => ?_) (fun _ => ?_)) <;> conv => whnf) | ((with_reducible show AYld _ _ _ _ _); (refine AYld.of tok mixed ?_); conv => whnf) | ((with_reducible show forceH _ _); (refine (forceH_eq _ _).mpr ?_); conv => whnf) | ((with_reducible show ACall _ _ _ _ _); (refine ACall.of_pure (by assumption) (by rfl) ?_); conv => whnf) | ((with_reducible show Exists _); (refine ⟨_, ACall.of_pure (by assumption) (by rfl) ⟨rfl, rfl⟩, ?_⟩); conv => whnf) | ((with_reducible show _ ∧ _ ∧ _); (refine ⟨by omega, by omega, ?_⟩); conv => whnf) | fail)
    · rename_i h0
      have hlt : t < K := by have h0 : 0 ≤ (K : Int) - 1 - (t : Int) := h0; omega
      have hs2 := hstep hlt
      have hb2 := hby hlt
      refine ⟨[(10, [4])], by kernel_rfl, ?_⟩
      (conv => whnf); (repeat' first | ((with_reducible refine Box.mk ?_); conv => whnf) | ((with_reducible refine And.intro (fun _ => ?_) (fun _ => ?_)) <;> conv => whnf) | ((with_reducible show AYld _ _ _ _ _); (refine AYld.of tok mixed ?_); conv => whnf) | ((with_reducible show forceH _ _); (refine (forceH_eq _ _).mpr ?_); conv => whnf) | ((with_reducible show ACall _ _ _ _ _); (refine ACall.of_pure (by assumption) (by rfl) ?_); conv => whnf) | ((with_reducible show Exists _); (refine ⟨_, ACall.of_pure (by assumption) (by rfl) ⟨rfl, rfl⟩, ?_⟩); conv => whnf) | ((with_reducible show _ ∧ _ ∧ _); (refine ⟨by omega, by omega, ?_⟩); conv => whnf) | fail)
      rw [hi8 hlt]
      refine ⟨by omega, ?_⟩
      (conv => whnf); (repeat' first | ((with_reducible refine Box.mk ?_); conv => whnf) | ((with_reducible refine And.intro (fun _ => ?_) (fun _ => ?_)) <;> conv => whnf) | ((with_reducible show AYld _ _ _ _ _); (refine AYld.of tok mixed ?_); conv => whnf) | ((with_reducible show forceH _ _); (refine (forceH_eq _ _).mpr ?_); conv => whnf) | ((with_reducible show ACall _ _ _ _ _); (refine ACall.of_pure (by assumption) (by rfl) ?_); conv => whnf) | ((with_reducible show Exists _); (refine ⟨_, ACall.of_pure (by assumption) (by rfl) ⟨rfl, rfl⟩, ?_⟩); conv => whnf) | ((with_reducible show _ ∧ _ ∧ _); (refine ⟨by omega, by omega, ?_⟩); conv => whnf) | fail)
      (refine And.intro ?_ ?_); (focus ((conv => whnf); (repeat' first | exact trivial | ((refine And.intro ?_ ?_); (focus ((conv => whnf); (first | exact ⟨rfl, rfl⟩ | exact ⟨by decide, by decide, rfl, rfl⟩ | exact ⟨by omega, by omega, rfl, rfl⟩ | exact ⟨by (simp only [List.length_drop, List.length_take]; omega), rfl, rfl⟩ | exact ⟨_, rfl, rfl, rfl⟩ | exact ⟨by omega, _, by assumption, rfl, rfl, rfl⟩ | ((refine ACall.of_pure (by assumption) (by rfl) ?_); (refine And.intro ?_ ?_ <;> rfl))))); (conv => whnf)))))
      (conv => whnf); (repeat' first | ((with_reducible refine Box.mk ?_); conv => whnf) | ((with_reducible refine And.intro (fun _ => ?_) (fun _ => ?_)) <;> conv => whnf) | ((with_reducible show AYld _ _ _ _ _); (refine AYld.of tok mixed ?_); conv => whnf) | ((with_reducible show forceH _ _); (refine (forceH_eq _ _).mpr ?_); conv => whnf) | ((with_reducible show ACall _ _ _ _ _); (refine ACall.of_pure (by assumption) (by rfl) ?_); conv => whnf) | ((with_reducible show Exists _); (refine ⟨_, ACall.of_pure (by assumption) (by rfl) ⟨rfl, rfl⟩, ?_⟩); conv => whnf) | ((with_reducible show _ ∧ _ ∧ _); (refine ⟨by omega, by omega, ?_⟩); conv => whnf) | fail)
      rw [hb2]
      refine ⟨bcl_cells [_], fun h => (by cases h), fun _ => ⟨Nat.le_of_ble_eq_true rfl, Nat.le_of_ble_eq_true rfl, ?_⟩⟩
      (conv => whnf); (repeat' first | ((with_reducible refine Box.mk ?_); conv => whnf) | ((with_reducible refine And.intro (fun _ => ?_) (fun _ => ?_)) <;> conv => whnf) | ((with_reducible show AYld _ _ _ _ _); (refine AYld.of tok mixed ?_); conv => whnf) | ((with_reducible show forceH _ _); (refine (forceH_eq _ _).mpr ?_); conv => whnf) | ((with_reducible show ACall _ _ _ _ _); (refine ACall.of_pure (by assumption) (by rfl) ?_); conv => whnf) | ((with_reducible show Exists _); (refine ⟨_, ACall.of_pure (by assumption) (by rfl) ⟨rfl, rfl⟩, ?_⟩); conv => whnf) | ((with_reducible show _ ∧ _ ∧ _); (refine ⟨by omega, by omega, ?_⟩); conv => whnf) | fail)
      exact ⟨(t + 1, _), ⟨hlt, hs2.symm⟩, by show K - (t + 1) < K - t; omega, weak_ren_to [(0, true), (2, true)] rfl rfl rfl ⟨rfl, rfl, congrArg (AV.int .i64) (hi1 hlt), trivial⟩⟩
    · rename_i h0
      have h0 : ¬ 0 ≤ (K : Int) - 1 - (t : Int) := h0
      exfalso
      have : t = 0 := hll.symm
      omega
  | cons x r =>
    (conv => whnf); (repeat' first | ((with_reducible refine Box.mk ?_); conv => whnf) | ((with_reducible refine And.intro (fun _ => ?_) (fun _ => ?_)) <;> conv => whnf) | ((with_reducible show AYld _ _ _ _ _); (refine AYld.of tok mixed ?_); conv => whnf) | ((with_reducible show forceH _ _); (refine (forceH_eq _ _).mpr ?_); conv => whnf) | ((with_reducible show ACall _ _ _ _ _); (refine ACall.of_pure (by assumption) (by rfl) ?_); conv => whnf) | ((with_reducible show Exists _); (refine ⟨_, ACall.of_pure (by assumption) (by rfl) ⟨rfl, rfl⟩, ?_⟩); conv => whnf) | ((with_reducible show _ ∧ _ ∧ _); (refine ⟨by omega, by omega, ?_⟩); conv => whnf) | fail)
    · rename_i h0
      have hlt : t < K := by have h0 : 0 ≤ (K : Int) - 1 - (t : Int) := h0; omega
      have hs2 := hstep hlt
      have hb2 := hby hlt
      refine ⟨[(10, [4])], by kernel_rfl, ?_⟩
      (conv => whnf); (repeat' first | ((with_reducible refine Box.mk ?_); conv => whnf) | ((with_reducible refine And.intro (fun _ => ?_) (fun _ => ?_)) <;> conv => whnf) | ((with_reducible show AYld _ _ _ _ _); (refine AYld.of tok mixed ?_); conv => whnf) | ((with_reducible show forceH _ _); (refine (forceH_eq _ _).mpr ?_); conv => whnf) | ((with_reducible show ACall _ _ _ _ _); (refine ACall.of_pure (by assumption) (by rfl) ?_); conv => whnf) | ((with_reducible show Exists _); (refine ⟨_, ACall.of_pure (by assumption) (by rfl) ⟨rfl, rfl⟩, ?_⟩); conv => whnf) | ((with_reducible show _ ∧ _ ∧ _); (refine ⟨by omega, by omega, ?_⟩); conv => whnf) | fail)
      rw [hi8 hlt]
      refine ⟨by omega, ?_⟩
      (conv => whnf); (repeat' first | ((with_reducible refine Box.mk ?_); conv => whnf) | ((with_reducible refine And.intro (fun _ => ?_) (fun _ => ?_)) <;> conv => whnf) | ((with_reducible show AYld _ _ _ _ _); (refine AYld.of tok mixed ?_); conv => whnf) | ((with_reducible show forceH _ _); (refine (forceH_eq _ _).mpr ?_); conv => whnf) | ((with_reducible show ACall _ _ _ _ _); (refine ACall.of_pure (by assumption) (by rfl) ?_); conv => whnf) | ((with_reducible show Exists _); (refine ⟨_, ACall.of_pure (by assumption) (by rfl) ⟨rfl, rfl⟩, ?_⟩); conv => whnf) | ((with_reducible show _ ∧ _ ∧ _); (refine ⟨by omega, by omega, ?_⟩); conv => whnf) | fail)
      (refine And.intro ?_ ?_); (focus ((conv => whnf); (repeat' first | exact trivial | ((refine And.intro ?_ ?_); (focus ((conv => whnf); (first | exact ⟨rfl, rfl⟩ | exact ⟨by decide, by decide, rfl, rfl⟩ | exact ⟨by omega, by omega, rfl, rfl⟩ | exact ⟨by (simp only [List.length_drop, List.length_take]; omega), rfl, rfl⟩ | exact ⟨_, rfl, rfl, rfl⟩ | exact ⟨by omega, _, by assumption, rfl, rfl, rfl⟩ | ((refine ACall.of_pure (by assumption) (by rfl) ?_); (refine And.intro ?_ ?_ <;> rfl))))); (conv => whnf)))))
      (conv => whnf); (repeat' first | ((with_reducible refine Box.mk ?_); conv => whnf) | ((with_reducible refine And.intro (fun _ => ?_) (fun _ => ?_)) <;> conv => whnf) | ((with_reducible show AYld _ _ _ _ _); (refine AYld.of tok mixed ?_); conv => whnf) | ((with_reducible show forceH _ _); (refine (forceH_eq _ _).mpr ?_); conv => whnf) | ((with_reducible show ACall _ _ _ _ _); (refine ACall.of_pure (by assumption) (by rfl) ?_); conv => whnf) | ((with_reducible show Exists _); (refine ⟨_, ACall.of_pure (by assumption) (by rfl) ⟨rfl, rfl⟩, ?_⟩); conv => whnf) | ((with_reducible show _ ∧ _ ∧ _); (refine ⟨by omega, by omega, ?_⟩); conv => whnf) | fail)
      rw [hb2]
      refine ⟨bcl_cells [_], by rw [hbl]; show (_ + 1) * 1 ≤ _; omega, by rw [hbl]; show _ + 1 ≤ _; omega, ?_⟩
      (conv => whnf); (repeat' first | ((with_reducible refine Box.mk ?_); conv => whnf) | ((with_reducible refine And.intro (fun _ => ?_) (fun _ => ?_)) <;> conv => whnf) | ((with_reducible show AYld _ _ _ _ _); (refine AYld.of tok mixed ?_); conv => whnf) | ((with_reducible show forceH _ _); (refine (forceH_eq _ _).mpr ?_); conv => whnf) | ((with_reducible show ACall _ _ _ _ _); (refine ACall.of_pure (by assumption) (by rfl) ?_); conv => whnf) | ((with_reducible show Exists _); (refine ⟨_, ACall.of_pure (by assumption) (by rfl) ⟨rfl, rfl⟩, ?_⟩); conv => whnf) | ((with_reducible show _ ∧ _ ∧ _); (refine ⟨by omega, by omega, ?_⟩); conv => whnf) | fail)
      refine ⟨(t + 1, x :: r ++ [UInt8.ofNat (n / 256 ^ (K - 1 - t))]), ⟨hlt, hs2.symm⟩, by show K - (t + 1) < K - t; omega, weak_ren_to [(0, true), (3, true)] rfl rfl ?_ ⟨rfl, rfl, congrArg (AV.int .i64) (hi1 hlt), trivial⟩⟩
      show [_, Ob.row _ _ (bcl (x :: r) ++ [byteCell _])] = [_, Ob.row _ _ (bcl (x :: r ++ [_]))]
      rw [bcl_app]; rfl
    · rename_i h0
      have h0 : ¬ 0 ≤ (K : Int) - 1 - (t : Int) := h0
      have : t = K := by omega
      subst this
      rw [← hall, ← hl]
      exact weak_to ⟨rfl, trivial⟩ rfl
set_option maxHeartbeats 4000000 in
theorem wNum1 (y : UInt8) (bs : Bs) (hbs : (y :: bs).length ≤ 1000000000) (n : Nat) (k : Int) : DCall P 32 [.ptr 0 0, .int .u64 n, .int .i64 k] (wH (y :: bs)) (.ptr 0 0) (wP (y :: bs) (y :: bs ++ numB n (szN k))) := by
  have q1 := wSize_ok k
  have hk := szN_pos k
  have hlen := numB_len n (szN k)
  have htk := fun t (h : t < szN k) => numB_take (n := n) h
  have hall : (numB n (szN k)).take (szN k) = numB n (szN k) := List.take_of_length_le (by omega)
  generalize szN k = K at *
  have htl : ∀ t, t ≤ K → ((numB n K).take t).length = t := fun t ht => by rw [List.length_take, hlen]; omega
  refine DCall.of_awp tok mixed fn32 (Nat.le_of_ble_eq_true rfl) ?_
  (conv => whnf); (repeat' first | ((with_reducible refine Box.mk ?_); conv => whnf) | ((with_reducible refine And.intro (fun _ => ?_) (fun _ => ?_)) <;> conv => whnf) | ((with_reducible show AYld _ _ _ _ _); (refine AYld.of tok mixed ?_); conv => whnf) | ((with_reducible show forceH _ _); (refine (forceH_eq _ _).mpr ?_); conv => whnf) | ((with_reducible show ACall _ _ _ _ _); (refine ACall.of_pure (by assumption) (by rfl) ?_); conv => whnf) | ((with_reducible show Exists _); (refine ⟨_, ACall.of_pure (by assumption) (by rfl) ⟨rfl, rfl⟩, ?_⟩); conv => whnf) | ((with_reducible show ∃ L, drawR L _ = true ∧ _); (refine ⟨[], by kernel_rfl, ?_⟩); conv => whnf) | ((with_reducible show _ ∧ _ ∧ _); (refine ⟨by omega, by omega, ?_⟩); conv => whnf) | fail)
  all_goals try contradiction
  refine aloop (fun x : Nat × Bs => x.1 ≤ K ∧ x.2 = (numB n K).take x.1) (fun x => ⟨envL [(0, .ptr 0 0), (1, .int .u64 n), (7, .int .i64 ((K : Int) - 1 - (x.1 : Int)))], wP (y :: bs) (y :: bs ++ x.2)⟩) (fun x => K - x.1) (0, []) ⟨Nat.zero_le _, rfl⟩
    (weak_ren_to [(0, true), (1, false), (1, true)] rfl rfl (by show [_, _, Ob.row _ _ (bcl (y :: bs))] = [_, _, Ob.row _ _ (bcl (y :: bs ++ []))]; rw [List.append_nil]; rfl) ⟨rfl, rfl, congrArg (AV.int .i64) (by show IntKind.i64.wrap _ = _; rw [wrap_i64 (by omega) (by omega)]; show (K : Int) - 1 = (K : Int) - 1 - ((0 : Nat) : Int); omega), trivial⟩) ?_
  rintro ⟨t, l⟩ ⟨ht, hl⟩
  have ht : t ≤ K := ht
  have hl : l = (numB n K).take t := hl
  have hll : l.length = t := by rw [hl]; exact htl t ht
  have hbl := bcl_len (y :: bs ++ l)
  rw [List.length_append] at hbl
  have hi8 : t < K → IntKind.i64.wrap (8 * ((K : Int) - 1 - (t : Int))) = ((8 * (K - 1 - t) : Nat) : Int) := fun h => by rw [wrap_i64 (by omega) (by omega)]; omega
  have hby := fun h : t < K => byte_at (n := n) (i := K - 1 - t) (by omega)
  have hstep := fun h : t < K => htk t h
  rw [← hl] at hstep
  have hi1 : t < K → IntKind.i64.wrap ((K : Int) - 1 - (t : Int) - 1) = (K : Int) - 1 - ((t + 1 : Nat) : Int) := fun h => by rw [wrap_i64 (by omega) (by omega)]; omega
  (conv => whnf); (repeat' first | ((with_reducible refine Box.mk ?_); conv => whnf) | ((with_reducible refine And.intro (fun _ => ?_) (fun _ => ?_)) <;> conv => whnf) | ((with_reducible show AYld _ _ _ _ _); (refine AYld.of tok mixed ?_); conv => whnf) | ((with_reducible show forceH _ _); (refine (forceH_eq _ _).mpr ?_); conv => whnf) | ((with_reducible show ACall _ _ _ _ _); (refine ACall.of_pure (by assumption) (by rfl) ?_); conv => whnf) | ((with_reducible show Exists _); (refine ⟨_, ACall.of_pure (by assumption) (by rfl) ⟨rfl, rfl⟩, ?_⟩); conv => whnf) | ((with_reducible show _ ∧ _ ∧ _); (refine ⟨by omega, by omega, ?_⟩); conv => whnf) | fail)
  · rename_i h0
    have hlt : t < K := by have h0 : 0 ≤ (K : Int) - 1 - (t : Int) := h0; omega
    have hs2 := hstep hlt
    have hb2 := hby hlt
    refine ⟨[(10, [4])], by kernel_rfl, ?_⟩
    (conv => whnf); (repeat' first | ((with_reducible refine Box.mk ?_); conv => whnf) | ((with_reducible refine And.intro (fun _ => ?_) (fun _ => ?_)) <;> conv => whnf) | ((with_reducible show AYld _ _ _ _ _); (refine AYld.of tok mixed ?_); conv => whnf) | ((with_reducible show forceH _ _); (refine (forceH_eq _ _).mpr ?_); conv => whnf) | ((with_reducible show ACall _ _ _ _ _); (refine ACall.of_pure (by assumption) (by rfl) ?_); conv => whnf) | ((with_reducible show Exists _); (refine ⟨_, ACall.of_pure (by assumption) (by rfl) ⟨rfl, rfl⟩, ?_⟩); conv => whnf) | ((with_reducible show _ ∧ _ ∧ _); (refine ⟨by omega, by omega, ?_⟩); conv => whnf) | fail)
    rw [hi8 hlt]
    refine ⟨by omega, ?_⟩
    (conv => whnf); (repeat' first | ((with_reducible refine Box.mk ?_); conv => whnf) | ((with_reducible refine And.intro (fun _ => ?_) (fun _ => ?_)) <;> conv => whnf) | ((with_reducible show AYld _ _ _ _ _); (refine AYld.of tok mixed ?_); conv => whnf) | ((with_reducible show forceH _ _); (refine (forceH_eq _ _).mpr ?_); conv => whnf) | ((with_reducible show ACall _ _ _ _ _); (refine ACall.of_pure (by assumption) (by rfl) ?_); conv => whnf) | ((with_reducible show Exists _); (refine ⟨_, ACall.of_pure (by assumption) (by rfl) ⟨rfl, rfl⟩, ?_⟩); conv => whnf) | ((with_reducible show _ ∧ _ ∧ _); (refine ⟨by omega, by omega, ?_⟩); conv => whnf) | fail)
    (refine And.intro ?_ ?_); (focus ((conv => whnf); (repeat' first | exact trivial | ((refine And.intro ?_ ?_); (focus ((conv => whnf); (first | exact ⟨rfl, rfl⟩ | exact ⟨by decide, by decide, rfl, rfl⟩ | exact ⟨by omega, by omega, rfl, rfl⟩ | exact ⟨by (simp only [List.length_drop, List.length_take]; omega), rfl, rfl⟩ | exact ⟨_, rfl, rfl, rfl⟩ | exact ⟨by omega, _, by assumption, rfl, rfl, rfl⟩ | ((refine ACall.of_pure (by assumption) (by rfl) ?_); (refine And.intro ?_ ?_ <;> rfl))))); (conv => whnf)))))
    (conv => whnf); (repeat' first | ((with_reducible refine Box.mk ?_); conv => whnf) | ((with_reducible refine And.intro (fun _ => ?_) (fun _ => ?_)) <;> conv => whnf) | ((with_reducible show AYld _ _ _ _ _); (refine AYld.of tok mixed ?_); conv => whnf) | ((with_reducible show forceH _ _); (refine (forceH_eq _ _).mpr ?_); conv => whnf) | ((with_reducible show ACall _ _ _ _ _); (refine ACall.of_pure (by assumption) (by rfl) ?_); conv => whnf) | ((with_reducible show Exists _); (refine ⟨_, ACall.of_pure (by assumption) (by rfl) ⟨rfl, rfl⟩, ?_⟩); conv => whnf) | ((with_reducible show _ ∧ _ ∧ _); (refine ⟨by omega, by omega, ?_⟩); conv => whnf) | fail)
    rw [hb2]
    refine ⟨bcl_cells [_], by rw [hbl]; show (_ + 1) * 1 ≤ _; omega, by rw [hbl]; show _ + 1 ≤ _; omega, ?_⟩
    (conv => whnf); (repeat' first | ((with_reducible refine Box.mk ?_); conv => whnf) | ((with_reducible refine And.intro (fun _ => ?_) (fun _ => ?_)) <;> conv => whnf) | ((with_reducible show AYld _ _ _ _ _); (refine AYld.of tok mixed ?_); conv => whnf) | ((with_reducible show forceH _ _); (refine (forceH_eq _ _).mpr ?_); conv => whnf) | ((with_reducible show ACall _ _ _ _ _); (refine ACall.of_pure (by assumption) (by rfl) ?_); conv => whnf) | ((with_reducible show Exists _); (refine ⟨_, ACall.of_pure (by assumption) (by rfl) ⟨rfl, rfl⟩, ?_⟩); conv => whnf) | ((with_reducible show _ ∧ _ ∧ _); (refine ⟨by omega, by omega, ?_⟩); conv => whnf) | fail)
    refine ⟨(t + 1, l ++ [UInt8.ofNat (n / 256 ^ (K - 1 - t))]), ⟨hlt, hs2.symm⟩, by show K - (t + 1) < K - t; omega, weak_ren_to [(0, true), (1, false), (4, true)] rfl rfl ?_ ⟨rfl, rfl, congrArg (AV.int .i64) (hi1 hlt), trivial⟩⟩
    show [_, _, Ob.row _ _ (bcl (y :: bs ++ l) ++ [byteCell _])] = [_, _, Ob.row _ _ (bcl (y :: bs ++ (l ++ [_])))]
    rw [← List.append_assoc, bcl_app (y :: bs ++ l)]; rfl
  · rename_i h0
    have h0 : ¬ 0 ≤ (K : Int) - 1 - (t : Int) := h0
    have : t = K := by omega
    subst this
    rw [← hall, ← hl]
    exact weak_to ⟨rfl, trivial⟩ rfl
theorem wNum_ok (bs : Bs) (hbs : bs.length ≤ 1000000000) (n : Nat) (k : Int) : DCall P 32 [.ptr 0 0, .int .u64 n, .int .i64 k] (wH bs) (.ptr 0 0) (wP bs (bs ++ numB n (szN k))) := by
  cases bs with
  | nil => exact wNum0 n k
  | cons y r => exact wNum1 y r hbs n k
theorem wRaw_nil (x : AV) : PCall P 44 [.nilp, x] .nilp := by
  refine PCall.of_awp tok mixed fn44 (Nat.le_of_ble_eq_true rfl) ?_
  (conv => whnf); (repeat' first | ((with_reducible refine Box.mk ?_); conv => whnf) | ((with_reducible refine And.intro (fun _ => ?_) (fun _ => ?_)) <;> conv => whnf) | ((with_reducible show AYld _ _ _ _ _); (refine AYld.of tok mixed ?_); conv => whnf) | ((with_reducible show forceH _ _); (refine (forceH_eq _ _).mpr ?_); conv => whnf) | ((with_reducible show ACall _ _ _ _ _); (refine ACall.of_pure (by assumption) (by rfl) ?_); conv => whnf) | ((with_reducible show Exists _); (refine ⟨_, ACall.of_pure (by assumption) (by rfl) ⟨rfl, rfl⟩, ?_⟩); conv => whnf) | ((with_reducible show ∃ L, drawR L _ = true ∧ _); (refine ⟨[], by kernel_rfl, ?_⟩); conv => whnf) | ((with_reducible show _ ∧ _ ∧ _); (refine ⟨by omega, by omega, ?_⟩); conv => whnf) | fail)
  all_goals first
    | rfl
    | contradiction
theorem bcl_app_wp {y : UInt8} {r l : Bs} : wP (y :: r) (y :: r ++ l) = [.box 26 [.own 2], .dead, .row 5 1 (bcl (y :: r) ++ bcl l)] := by
  rw [← bcl_app]; rfl
/-- Bytes handed over: nil, or a list. -/
def bv (nl : Bool) (l : Bs) : AV := bif nl then .nils else .sl (bcl l)
theorem wRaw_ok (bs : Bs) (hbs : bs.length ≤ 1000000000) (nl : Bool) (l : Bs) (hnl : nl = true → l = []) (hl : l.length ≤ 1000000000) : DCall P 44 [.ptr 0 0, bv nl l] (wH bs) (.ptr 0 0) (wP bs (bs ++ l)) := by
  have hbl := bcl_len l
  refine DCall.of_awp tok mixed fn44 (Nat.le_of_ble_eq_true rfl) ?_
  cases bs with
  | nil =>
    cases nl with
    | true =>
      obtain rfl := hnl rfl
      (conv => whnf); (repeat' first | ((with_reducible refine Box.mk ?_); conv => whnf) | ((with_reducible refine And.intro (fun _ => ?_) (fun _ => ?_)) <;> conv => whnf) | ((with_reducible show AYld _ _ _ _ _); (refine AYld.of tok mixed ?_); conv => whnf) | ((with_reducible show forceH _ _); (refine (forceH_eq _ _).mpr ?_); conv => whnf) | ((with_reducible show ACall _ _ _ _ _); (refine ACall.of_pure (by assumption) (by rfl) ?_); conv => whnf) | ((with_reducible show Exists _); (refine ⟨_, ACall.of_pure (by assumption) (by rfl) ⟨rfl, rfl⟩, ?_⟩); conv => whnf) | ((with_reducible show ∃ L, drawR L _ = true ∧ _); (refine ⟨[], by kernel_rfl, ?_⟩); conv => whnf) | ((with_reducible show _ ∧ _ ∧ _); (refine ⟨by omega, by omega, ?_⟩); conv => whnf) | fail)
      all_goals try contradiction
      refine ⟨bcl_cells [], fun _ => ?_, fun h => absurd rfl h⟩
      (conv => whnf); (repeat' first | ((with_reducible refine Box.mk ?_); conv => whnf) | ((with_reducible refine And.intro (fun _ => ?_) (fun _ => ?_)) <;> conv => whnf) | ((with_reducible show AYld _ _ _ _ _); (refine AYld.of tok mixed ?_); conv => whnf) | ((with_reducible show forceH _ _); (refine (forceH_eq _ _).mpr ?_); conv => whnf) | ((with_reducible show ACall _ _ _ _ _); (refine ACall.of_pure (by assumption) (by rfl) ?_); conv => whnf) | ((with_reducible show Exists _); (refine ⟨_, ACall.of_pure (by assumption) (by rfl) ⟨rfl, rfl⟩, ?_⟩); conv => whnf) | ((with_reducible show ∃ L, drawR L _ = true ∧ _); (refine ⟨[], by kernel_rfl, ?_⟩); conv => whnf) | ((with_reducible show _ ∧ _ ∧ _); (refine ⟨by omega, by omega, ?_⟩); conv => whnf) | fail)
      exact weak_to ⟨rfl, trivial⟩ rfl
    | false =>
      (conv => whnf); (repeat' first | ((with_reducible refine Box.mk ?_); conv => whnf) | ((with_reducible refine And.intro (fun _ => ?_) (fun _ => ?_)) <;> conv => whnf) | ((with_reducible show AYld _ _ _ _ _); (refine AYld.of tok mixed ?_); conv => whnf) | ((with_reducible show forceH _ _); (refine (forceH_eq _ _).mpr ?_); conv => whnf) | ((with_reducible show ACall _ _ _ _ _); (refine ACall.of_pure (by assumption) (by rfl) ?_); conv => whnf) | ((with_reducible show Exists _); (refine ⟨_, ACall.of_pure (by assumption) (by rfl) ⟨rfl, rfl⟩, ?_⟩); conv => whnf) | ((with_reducible show ∃ L, drawR L _ = true ∧ _); (refine ⟨[], by kernel_rfl, ?_⟩); conv => whnf) | ((with_reducible show _ ∧ _ ∧ _); (refine ⟨by omega, by omega, ?_⟩); conv => whnf) | fail)
      all_goals try contradiction
      refine ⟨bcl_cells l, fun h => ?_, fun h => ⟨by rw [hbl]; show l.length * 1 ≤ _; omega, by rw [hbl]; omega, ?_⟩⟩
      · obtain rfl : l = [] := by cases l with | nil => rfl | cons a b => cases h
        (conv => whnf); (repeat' first | ((with_reducible refine Box.mk ?_); conv => whnf) | ((with_reducible refine And.intro (fun _ => ?_) (fun _ => ?_)) <;> conv => whnf) | ((with_reducible show AYld _ _ _ _ _); (refine AYld.of tok mixed ?_); conv => whnf) | ((with_reducible show forceH _ _); (refine (forceH_eq _ _).mpr ?_); conv => whnf) | ((with_reducible show ACall _ _ _ _ _); (refine ACall.of_pure (by assumption) (by rfl) ?_); conv => whnf) | ((with_reducible show Exists _); (refine ⟨_, ACall.of_pure (by assumption) (by rfl) ⟨rfl, rfl⟩, ?_⟩); conv => whnf) | ((with_reducible show ∃ L, drawR L _ = true ∧ _); (refine ⟨[], by kernel_rfl, ?_⟩); conv => whnf) | ((with_reducible show _ ∧ _ ∧ _); (refine ⟨by omega, by omega, ?_⟩); conv => whnf) | fail)
        exact weak_to ⟨rfl, trivial⟩ rfl
      · cases l with
        | nil => exact absurd rfl h
        | cons a b =>
          (conv => whnf); (repeat' first | ((with_reducible refine Box.mk ?_); conv => whnf) | ((with_reducible refine And.intro (fun _ => ?_) (fun _ => ?_)) <;> conv => whnf) | ((with_reducible show AYld _ _ _ _ _); (refine AYld.of tok mixed ?_); conv => whnf) | ((with_reducible show forceH _ _); (refine (forceH_eq _ _).mpr ?_); conv => whnf) | ((with_reducible show ACall _ _ _ _ _); (refine ACall.of_pure (by assumption) (by rfl) ?_); conv => whnf) | ((with_reducible show Exists _); (refine ⟨_, ACall.of_pure (by assumption) (by rfl) ⟨rfl, rfl⟩, ?_⟩); conv => whnf) | ((with_reducible show ∃ L, drawR L _ = true ∧ _); (refine ⟨[], by kernel_rfl, ?_⟩); conv => whnf) | ((with_reducible show _ ∧ _ ∧ _); (refine ⟨by omega, by omega, ?_⟩); conv => whnf) | fail)
          exact weak_to ⟨rfl, trivial⟩ rfl
  | cons y r =>
    have hbl2 := bcl_len (y :: r)
    cases nl with
    | true =>
      obtain rfl := hnl rfl
      (conv => whnf); (repeat' first | ((with_reducible refine Box.mk ?_); conv => whnf) | ((with_reducible refine And.intro (fun _ => ?_) (fun _ => ?_)) <;> conv => whnf) | ((with_reducible show AYld _ _ _ _ _); (refine AYld.of tok mixed ?_); conv => whnf) | ((with_reducible show forceH _ _); (refine (forceH_eq _ _).mpr ?_); conv => whnf) | ((with_reducible show ACall _ _ _ _ _); (refine ACall.of_pure (by assumption) (by rfl) ?_); conv => whnf) | ((with_reducible show Exists _); (refine ⟨_, ACall.of_pure (by assumption) (by rfl) ⟨rfl, rfl⟩, ?_⟩); conv => whnf) | ((with_reducible show ∃ L, drawR L _ = true ∧ _); (refine ⟨[], by kernel_rfl, ?_⟩); conv => whnf) | ((with_reducible show _ ∧ _ ∧ _); (refine ⟨by omega, by omega, ?_⟩); conv => whnf) | fail)
      all_goals try contradiction
      refine ⟨bcl_cells [], by rw [hbl2]; show (_ + 0) * 1 ≤ _; omega, by rw [hbl2]; show _ + 0 ≤ _; omega, ?_⟩
      (conv => whnf); (repeat' first | ((with_reducible refine Box.mk ?_); conv => whnf) | ((with_reducible refine And.intro (fun _ => ?_) (fun _ => ?_)) <;> conv => whnf) | ((with_reducible show AYld _ _ _ _ _); (refine AYld.of tok mixed ?_); conv => whnf) | ((with_reducible show forceH _ _); (refine (forceH_eq _ _).mpr ?_); conv => whnf) | ((with_reducible show ACall _ _ _ _ _); (refine ACall.of_pure (by assumption) (by rfl) ?_); conv => whnf) | ((with_reducible show Exists _); (refine ⟨_, ACall.of_pure (by assumption) (by rfl) ⟨rfl, rfl⟩, ?_⟩); conv => whnf) | ((with_reducible show ∃ L, drawR L _ = true ∧ _); (refine ⟨[], by kernel_rfl, ?_⟩); conv => whnf) | ((with_reducible show _ ∧ _ ∧ _); (refine ⟨by omega, by omega, ?_⟩); conv => whnf) | fail)
      exact weak_to ⟨rfl, trivial⟩ (by rw [bcl_app_wp]; rfl)
    | false =>
      (conv => whnf); (repeat' first | ((with_reducible refine Box.mk ?_); conv => whnf) | ((with_reducible refine And.intro (fun _ => ?_) (fun _ => ?_)) <;> conv => whnf) | ((with_reducible show AYld _ _ _ _ _); (refine AYld.of tok mixed ?_); conv => whnf) | ((with_reducible show forceH _ _); (refine (forceH_eq _ _).mpr ?_); conv => whnf) | ((with_reducible show ACall _ _ _ _ _); (refine ACall.of_pure (by assumption) (by rfl) ?_); conv => whnf) | ((with_reducible show Exists _); (refine ⟨_, ACall.of_pure (by assumption) (by rfl) ⟨rfl, rfl⟩, ?_⟩); conv => whnf) | ((with_reducible show ∃ L, drawR L _ = true ∧ _); (refine ⟨[], by kernel_rfl, ?_⟩); conv => whnf) | ((with_reducible show _ ∧ _ ∧ _); (refine ⟨by omega, by omega, ?_⟩); conv => whnf) | fail)
      all_goals try contradiction
      refine ⟨bcl_cells l, by rw [hbl2, hbl]; show _ * 1 ≤ _; omega, by rw [hbl2, hbl]; omega, ?_⟩
      (conv => whnf); (repeat' first | ((with_reducible refine Box.mk ?_); conv => whnf) | ((with_reducible refine And.intro (fun _ => ?_) (fun _ => ?_)) <;> conv => whnf) | ((with_reducible show AYld _ _ _ _ _); (refine AYld.of tok mixed ?_); conv => whnf) | ((with_reducible show forceH _ _); (refine (forceH_eq _ _).mpr ?_); conv => whnf) | ((with_reducible show ACall _ _ _ _ _); (refine ACall.of_pure (by assumption) (by rfl) ?_); conv => whnf) | ((with_reducible show Exists _); (refine ⟨_, ACall.of_pure (by assumption) (by rfl) ⟨rfl, rfl⟩, ?_⟩); conv => whnf) | ((with_reducible show ∃ L, drawR L _ = true ∧ _); (refine ⟨[], by kernel_rfl, ?_⟩); conv => whnf) | ((with_reducible show _ ∧ _ ∧ _); (refine ⟨by omega, by omega, ?_⟩); conv => whnf) | fail)
      exact weak_to ⟨rfl, trivial⟩ (by rw [bcl_app_wp])
theorem wWide_nil (hi lo : Nat) : PCall P 58 [.nilp, .agg [.int .u64 hi, .int .u64 lo]] .nilp := by
  have q1 := wNum_nil hi 8
  have q2 := wNum_nil lo 8
  refine PCall.of_awp tok mixed fn58 (Nat.le_of_ble_eq_true rfl) ?_
  (conv => whnf); (repeat' first | ((with_reducible refine Box.mk ?_); conv => whnf) | ((with_reducible refine And.intro (fun _ => ?_) (fun _ => ?_)) <;> conv => whnf) | ((with_reducible show AYld _ _ _ _ _); (refine AYld.of tok mixed ?_); conv => whnf) | ((with_reducible show forceH _ _); (refine (forceH_eq _ _).mpr ?_); conv => whnf) | ((with_reducible show ACall _ _ _ _ _); (refine ACall.of_pure (by assumption) (by rfl) ?_); conv => whnf) | ((with_reducible show Exists _); (refine ⟨_, ACall.of_pure (by assumption) (by rfl) ⟨rfl, rfl⟩, ?_⟩); conv => whnf) | ((with_reducible show ∃ L, drawR L _ = true ∧ _); (refine ⟨[], by kernel_rfl, ?_⟩); conv => whnf) | ((with_reducible show _ ∧ _ ∧ _); (refine ⟨by omega, by omega, ?_⟩); conv => whnf) | fail)
  rfl
theorem wWide_ok (bs : Bs) (hbs : bs.length ≤ 900000000) (hi lo : Nat) : DCall P 58 [.ptr 0 0, .agg [.int .u64 hi, .int .u64 lo]] (wH bs) (.ptr 0 0) (wP bs (bs ++ (numB hi 8 ++ numB lo 8))) := by
  have hb1 := numB_len hi 8
  have q1 := wNum_ok bs (by omega) hi 8
  have q2 := wNum_ok (bs ++ numB hi 8) (by rw [List.length_append]; omega) lo 8
  rw [show szN 8 = 8 from rfl] at q1 q2
  rw [List.append_assoc] at q2
  have ew : ∃ a b, numB hi 8 = a :: b := ⟨_, _, rfl⟩
  obtain ⟨a, b, ew⟩ := ew
  rw [ew] at q1 q2 ⊢
  refine DCall.of_awp tok mixed fn58 (Nat.le_of_ble_eq_true rfl) ?_
  cases bs with
  | nil =>
    (conv => whnf); (repeat' first | ((with_reducible refine Box.mk ?_); conv => whnf) | ((with_reducible refine And.intro (fun _ => ?_) (fun _ => ?_)) <;> conv => whnf) | ((with_reducible show AYld _ _ _ _ _); (refine AYld.of tok mixed ?_); conv => whnf) | ((with_reducible show forceH _ _); (refine (forceH_eq _ _).mpr ?_); conv => whnf) | ((with_reducible show ACall _ _ _ _ _); (refine ACall.of_pure (by assumption) (by rfl) ?_); conv => whnf) | ((with_reducible show Exists _); (refine ⟨_, ACall.of_pure (by assumption) (by rfl) ⟨rfl, rfl⟩, ?_⟩); conv => whnf) | ((with_reducible show _ ∧ _ ∧ _); (refine ⟨by omega, by omega, ?_⟩); conv => whnf) | fail)
    refine ⟨[(2003, []), (2006, []), (3005, [3])], by kernel_rfl, ?_⟩
    (conv => whnf); (repeat' first | ((with_reducible refine Box.mk ?_); conv => whnf) | ((with_reducible refine And.intro (fun _ => ?_) (fun _ => ?_)) <;> conv => whnf) | ((with_reducible show AYld _ _ _ _ _); (refine AYld.of tok mixed ?_); conv => whnf) | ((with_reducible show forceH _ _); (refine (forceH_eq _ _).mpr ?_); conv => whnf) | ((with_reducible show ACall _ _ _ _ _); (refine ACall.of_pure (by assumption) (by rfl) ?_); conv => whnf) | ((with_reducible show Exists _); (refine ⟨_, ACall.of_pure (by assumption) (by rfl) ⟨rfl, rfl⟩, ?_⟩); conv => whnf) | ((with_reducible show _ ∧ _ ∧ _); (refine ⟨by omega, by omega, ?_⟩); conv => whnf) | fail)
    refine aDw [0] q1 rfl rfl rfl ?_
    (conv => whnf); (repeat' first | ((with_reducible refine Box.mk ?_); conv => whnf) | ((with_reducible refine And.intro (fun _ => ?_) (fun _ => ?_)) <;> conv => whnf) | ((with_reducible show AYld _ _ _ _ _); (refine AYld.of tok mixed ?_); conv => whnf) | ((with_reducible show forceH _ _); (refine (forceH_eq _ _).mpr ?_); conv => whnf) | ((with_reducible show ACall _ _ _ _ _); (refine ACall.of_pure (by assumption) (by rfl) ?_); conv => whnf) | ((with_reducible show Exists _); (refine ⟨_, ACall.of_pure (by assumption) (by rfl) ⟨rfl, rfl⟩, ?_⟩); conv => whnf) | ((with_reducible show _ ∧ _ ∧ _); (refine ⟨by omega, by omega, ?_⟩); conv => whnf) | fail)
    (refine And.intro ?_ ?_); (focus ((conv => whnf); (repeat' first | exact trivial | ((refine And.intro ?_ ?_); (focus ((conv => whnf); (first | exact ⟨rfl, rfl⟩ | exact ⟨by decide, by decide, rfl, rfl⟩ | exact ⟨by omega, by omega, rfl, rfl⟩ | exact ⟨by (simp only [List.length_drop, List.length_take]; omega), rfl, rfl⟩ | exact ⟨_, rfl, rfl, rfl⟩ | exact ⟨by omega, _, by assumption, rfl, rfl, rfl⟩ | ((refine ACall.of_pure (by assumption) (by rfl) ?_); (refine And.intro ?_ ?_ <;> rfl))))); (conv => whnf)))))
    (conv => whnf); (repeat' first | ((with_reducible refine Box.mk ?_); conv => whnf) | ((with_reducible refine And.intro (fun _ => ?_) (fun _ => ?_)) <;> conv => whnf) | ((with_reducible show AYld _ _ _ _ _); (refine AYld.of tok mixed ?_); conv => whnf) | ((with_reducible show forceH _ _); (refine (forceH_eq _ _).mpr ?_); conv => whnf) | ((with_reducible show ACall _ _ _ _ _); (refine ACall.of_pure (by assumption) (by rfl) ?_); conv => whnf) | ((with_reducible show Exists _); (refine ⟨_, ACall.of_pure (by assumption) (by rfl) ⟨rfl, rfl⟩, ?_⟩); conv => whnf) | ((with_reducible show _ ∧ _ ∧ _); (refine ⟨by omega, by omega, ?_⟩); conv => whnf) | fail)
    refine aDw [0, 2] q2 rfl rfl rfl ?_
    (conv => whnf); (repeat' first | ((with_reducible refine Box.mk ?_); conv => whnf) | ((with_reducible refine And.intro (fun _ => ?_) (fun _ => ?_)) <;> conv => whnf) | ((with_reducible show AYld _ _ _ _ _); (refine AYld.of tok mixed ?_); conv => whnf) | ((with_reducible show forceH _ _); (refine (forceH_eq _ _).mpr ?_); conv => whnf) | ((with_reducible show ACall _ _ _ _ _); (refine ACall.of_pure (by assumption) (by rfl) ?_); conv => whnf) | ((with_reducible show Exists _); (refine ⟨_, ACall.of_pure (by assumption) (by rfl) ⟨rfl, rfl⟩, ?_⟩); conv => whnf) | ((with_reducible show _ ∧ _ ∧ _); (refine ⟨by omega, by omega, ?_⟩); conv => whnf) | fail)
    exact weak_ren_to [(0, true), (3, true)] rfl rfl rfl ⟨rfl, trivial⟩
  | cons y r =>
    (conv => whnf); (repeat' first | ((with_reducible refine Box.mk ?_); conv => whnf) | ((with_reducible refine And.intro (fun _ => ?_) (fun _ => ?_)) <;> conv => whnf) | ((with_reducible show AYld _ _ _ _ _); (refine AYld.of tok mixed ?_); conv => whnf) | ((with_reducible show forceH _ _); (refine (forceH_eq _ _).mpr ?_); conv => whnf) | ((with_reducible show ACall _ _ _ _ _); (refine ACall.of_pure (by assumption) (by rfl) ?_); conv => whnf) | ((with_reducible show Exists _); (refine ⟨_, ACall.of_pure (by assumption) (by rfl) ⟨rfl, rfl⟩, ?_⟩); conv => whnf) | ((with_reducible show _ ∧ _ ∧ _); (refine ⟨by omega, by omega, ?_⟩); conv => whnf) | fail)
    refine ⟨[(2003, []), (2006, []), (3005, [3])], by kernel_rfl, ?_⟩
    (conv => whnf); (repeat' first | ((with_reducible refine Box.mk ?_); conv => whnf) | ((with_reducible refine And.intro (fun _ => ?_) (fun _ => ?_)) <;> conv => whnf) | ((with_reducible show AYld _ _ _ _ _); (refine AYld.of tok mixed ?_); conv => whnf) | ((with_reducible show forceH _ _); (refine (forceH_eq _ _).mpr ?_); conv => whnf) | ((with_reducible show ACall _ _ _ _ _); (refine ACall.of_pure (by assumption) (by rfl) ?_); conv => whnf) | ((with_reducible show Exists _); (refine ⟨_, ACall.of_pure (by assumption) (by rfl) ⟨rfl, rfl⟩, ?_⟩); conv => whnf) | ((with_reducible show _ ∧ _ ∧ _); (refine ⟨by omega, by omega, ?_⟩); conv => whnf) | fail)
    refine aDw [0, 1] q1 rfl rfl rfl ?_
    (conv => whnf); (repeat' first | ((with_reducible refine Box.mk ?_); conv => whnf) | ((with_reducible refine And.intro (fun _ => ?_) (fun _ => ?_)) <;> conv => whnf) | ((with_reducible show AYld _ _ _ _ _); (refine AYld.of tok mixed ?_); conv => whnf) | ((with_reducible show forceH _ _); (refine (forceH_eq _ _).mpr ?_); conv => whnf) | ((with_reducible show ACall _ _ _ _ _); (refine ACall.of_pure (by assumption) (by rfl) ?_); conv => whnf) | ((with_reducible show Exists _); (refine ⟨_, ACall.of_pure (by assumption) (by rfl) ⟨rfl, rfl⟩, ?_⟩); conv => whnf) | ((with_reducible show _ ∧ _ ∧ _); (refine ⟨by omega, by omega, ?_⟩); conv => whnf) | fail)
    (refine And.intro ?_ ?_); (focus ((conv => whnf); (repeat' first | exact trivial | ((refine And.intro ?_ ?_); (focus ((conv => whnf); (first | exact ⟨rfl, rfl⟩ | exact ⟨by decide, by decide, rfl, rfl⟩ | exact ⟨by omega, by omega, rfl, rfl⟩ | exact ⟨by (simp only [List.length_drop, List.length_take]; omega), rfl, rfl⟩ | exact ⟨_, rfl, rfl, rfl⟩ | exact ⟨by omega, _, by assumption, rfl, rfl, rfl⟩ | ((refine ACall.of_pure (by assumption) (by rfl) ?_); (refine And.intro ?_ ?_ <;> rfl))))); (conv => whnf)))))
    (conv => whnf); (repeat' first | ((with_reducible refine Box.mk ?_); conv => whnf) | ((with_reducible refine And.intro (fun _ => ?_) (fun _ => ?_)) <;> conv => whnf) | ((with_reducible show AYld _ _ _ _ _); (refine AYld.of tok mixed ?_); conv => whnf) | ((with_reducible show forceH _ _); (refine (forceH_eq _ _).mpr ?_); conv => whnf) | ((with_reducible show ACall _ _ _ _ _); (refine ACall.of_pure (by assumption) (by rfl) ?_); conv => whnf) | ((with_reducible show Exists _); (refine ⟨_, ACall.of_pure (by assumption) (by rfl) ⟨rfl, rfl⟩, ?_⟩); conv => whnf) | ((with_reducible show _ ∧ _ ∧ _); (refine ⟨by omega, by omega, ?_⟩); conv => whnf) | fail)
    refine aDw [0, 3] q2 rfl rfl rfl ?_
    (conv => whnf); (repeat' first | ((with_reducible refine Box.mk ?_); conv => whnf) | ((with_reducible refine And.intro (fun _ => ?_) (fun _ => ?_)) <;> conv => whnf) | ((with_reducible show AYld _ _ _ _ _); (refine AYld.of tok mixed ?_); conv => whnf) | ((with_reducible show forceH _ _); (refine (forceH_eq _ _).mpr ?_); conv => whnf) | ((with_reducible show ACall _ _ _ _ _); (refine ACall.of_pure (by assumption) (by rfl) ?_); conv => whnf) | ((with_reducible show Exists _); (refine ⟨_, ACall.of_pure (by assumption) (by rfl) ⟨rfl, rfl⟩, ?_⟩); conv => whnf) | ((with_reducible show _ ∧ _ ∧ _); (refine ⟨by omega, by omega, ?_⟩); conv => whnf) | fail)
    exact weak_ren_to [(0, true), (1, false), (4, true)] rfl rfl rfl ⟨rfl, trivial⟩
/-- What is written of a text. -/
def textB (s : Bs) : Bs := numB (s.take 65535).length 2 ++ s.take 65535
theorem text_cut (s : Bs) : List.drop 0 (List.take (min ((s.length : Nat) : Int) 65535).toNat s) = s.take 65535 := by
  rw [List.drop_zero]
  by_cases h : s.length ≤ 65535
  · rw [List.take_of_length_le h, List.take_of_length_le (by omega)]
  · congr 1; omega
theorem text_len (s : Bs) : (s.take 65535).length ≤ 65535 ∧ IntKind.u64.wrap (((s.take 65535).length : Nat) : Int) = (((s.take 65535).length : Nat) : Int) := by
  have h : (s.take 65535).length ≤ 65535 := by rw [List.length_take]; omega
  exact ⟨h, wrap_u64 (by omega) (by omega)⟩
theorem clone_own (l : Bs) (hl : l.length ≤ 1000000000) : DCall P 34 [.own 0] [.row 5 1 (bcl l)] (.sl (bcl l)) [.row 5 1 (bcl l)] := by
  have hbl := bcl_len l
  refine DCall.of_awp tok mixed fn34 (Nat.le_of_ble_eq_true rfl) ?_
  (conv => whnf); (repeat' first | ((with_reducible refine Box.mk ?_); conv => whnf) | ((with_reducible refine And.intro (fun _ => ?_) (fun _ => ?_)) <;> conv => whnf) | ((with_reducible show AYld _ _ _ _ _); (refine AYld.of tok mixed ?_); conv => whnf) | ((with_reducible show forceH _ _); (refine (forceH_eq _ _).mpr ?_); conv => whnf) | ((with_reducible show ACall _ _ _ _ _); (refine ACall.of_pure (by assumption) (by rfl) ?_); conv => whnf) | ((with_reducible show Exists _); (refine ⟨_, ACall.of_pure (by assumption) (by rfl) ⟨rfl, rfl⟩, ?_⟩); conv => whnf) | ((with_reducible show _ ∧ _ ∧ _); (refine ⟨by omega, by omega, ?_⟩); conv => whnf) | fail)
  refine ⟨?_, fun h => ?_⟩
  · (conv => whnf); (repeat' first | ((with_reducible refine Box.mk ?_); conv => whnf) | ((with_reducible refine And.intro (fun _ => ?_) (fun _ => ?_)) <;> conv => whnf) | ((with_reducible show AYld _ _ _ _ _); (refine AYld.of tok mixed ?_); conv => whnf) | ((with_reducible show forceH _ _); (refine (forceH_eq _ _).mpr ?_); conv => whnf) | ((with_reducible show ACall _ _ _ _ _); (refine ACall.of_pure (by assumption) (by rfl) ?_); conv => whnf) | ((with_reducible show Exists _); (refine ⟨_, ACall.of_pure (by assumption) (by rfl) ⟨rfl, rfl⟩, ?_⟩); conv => whnf) | ((with_reducible show _ ∧ _ ∧ _); (refine ⟨by omega, by omega, ?_⟩); conv => whnf) | fail)
    refine ⟨bcl_cells l, by rw [hbl]; show (0 + _) * 1 ≤ _; omega, by rw [hbl]; show 0 + _ ≤ _; omega, ?_⟩
    (conv => whnf); (repeat' first | ((with_reducible refine Box.mk ?_); conv => whnf) | ((with_reducible refine And.intro (fun _ => ?_) (fun _ => ?_)) <;> conv => whnf) | ((with_reducible show AYld _ _ _ _ _); (refine AYld.of tok mixed ?_); conv => whnf) | ((with_reducible show forceH _ _); (refine (forceH_eq _ _).mpr ?_); conv => whnf) | ((with_reducible show ACall _ _ _ _ _); (refine ACall.of_pure (by assumption) (by rfl) ?_); conv => whnf) | ((with_reducible show Exists _); (refine ⟨_, ACall.of_pure (by assumption) (by rfl) ⟨rfl, rfl⟩, ?_⟩); conv => whnf) | ((with_reducible show _ ∧ _ ∧ _); (refine ⟨by omega, by omega, ?_⟩); conv => whnf) | fail)
    exact weak_cr 2 [(0, true)] rfl rfl rfl rfl rfl
  · (conv => whnf); (repeat' first | ((with_reducible refine Box.mk ?_); conv => whnf) | ((with_reducible refine And.intro (fun _ => ?_) (fun _ => ?_)) <;> conv => whnf) | ((with_reducible show AYld _ _ _ _ _); (refine AYld.of tok mixed ?_); conv => whnf) | ((with_reducible show forceH _ _); (refine (forceH_eq _ _).mpr ?_); conv => whnf) | ((with_reducible show ACall _ _ _ _ _); (refine ACall.of_pure (by assumption) (by rfl) ?_); conv => whnf) | ((with_reducible show Exists _); (refine ⟨_, ACall.of_pure (by assumption) (by rfl) ⟨rfl, rfl⟩, ?_⟩); conv => whnf) | ((with_reducible show _ ∧ _ ∧ _); (refine ⟨by omega, by omega, ?_⟩); conv => whnf) | fail)
    rw [h]
    exact weak_le ⟨.inr ⟨rfl, rfl⟩, trivial⟩ rfl
/-- Nil or not: as a list. -/
theorem clone_sl (l : Bs) (hl : l.length ≤ 1000000000) : DCall P 34 [.sl (bcl l)] [] (.sl (bcl l)) [] := by
  have hbl := bcl_len l
  refine DCall.of_awp tok mixed fn34 (Nat.le_of_ble_eq_true rfl) ?_
  (conv => whnf); (repeat' first | ((with_reducible refine Box.mk ?_); conv => whnf) | ((with_reducible refine And.intro (fun _ => ?_) (fun _ => ?_)) <;> conv => whnf) | ((with_reducible show AYld _ _ _ _ _); (refine AYld.of tok mixed ?_); conv => whnf) | ((with_reducible show forceH _ _); (refine (forceH_eq _ _).mpr ?_); conv => whnf) | ((with_reducible show ACall _ _ _ _ _); (refine ACall.of_pure (by assumption) (by rfl) ?_); conv => whnf) | ((with_reducible show Exists _); (refine ⟨_, ACall.of_pure (by assumption) (by rfl) ⟨rfl, rfl⟩, ?_⟩); conv => whnf) | ((with_reducible show _ ∧ _ ∧ _); (refine ⟨by omega, by omega, ?_⟩); conv => whnf) | fail)
  refine ⟨?_, fun h => ?_⟩
  · (conv => whnf); (repeat' first | ((with_reducible refine Box.mk ?_); conv => whnf) | ((with_reducible refine And.intro (fun _ => ?_) (fun _ => ?_)) <;> conv => whnf) | ((with_reducible show AYld _ _ _ _ _); (refine AYld.of tok mixed ?_); conv => whnf) | ((with_reducible show forceH _ _); (refine (forceH_eq _ _).mpr ?_); conv => whnf) | ((with_reducible show ACall _ _ _ _ _); (refine ACall.of_pure (by assumption) (by rfl) ?_); conv => whnf) | ((with_reducible show Exists _); (refine ⟨_, ACall.of_pure (by assumption) (by rfl) ⟨rfl, rfl⟩, ?_⟩); conv => whnf) | ((with_reducible show _ ∧ _ ∧ _); (refine ⟨by omega, by omega, ?_⟩); conv => whnf) | fail)
    refine ⟨bcl_cells l, by rw [hbl]; show (0 + _) * 1 ≤ _; omega, by rw [hbl]; show 0 + _ ≤ _; omega, ?_⟩
    (conv => whnf); (repeat' first | ((with_reducible refine Box.mk ?_); conv => whnf) | ((with_reducible refine And.intro (fun _ => ?_) (fun _ => ?_)) <;> conv => whnf) | ((with_reducible show AYld _ _ _ _ _); (refine AYld.of tok mixed ?_); conv => whnf) | ((with_reducible show forceH _ _); (refine (forceH_eq _ _).mpr ?_); conv => whnf) | ((with_reducible show ACall _ _ _ _ _); (refine ACall.of_pure (by assumption) (by rfl) ?_); conv => whnf) | ((with_reducible show Exists _); (refine ⟨_, ACall.of_pure (by assumption) (by rfl) ⟨rfl, rfl⟩, ?_⟩); conv => whnf) | ((with_reducible show _ ∧ _ ∧ _); (refine ⟨by omega, by omega, ?_⟩); conv => whnf) | fail)
    exact weak_cr 1 [] rfl rfl rfl rfl rfl
  · (conv => whnf); (repeat' first | ((with_reducible refine Box.mk ?_); conv => whnf) | ((with_reducible refine And.intro (fun _ => ?_) (fun _ => ?_)) <;> conv => whnf) | ((with_reducible show AYld _ _ _ _ _); (refine AYld.of tok mixed ?_); conv => whnf) | ((with_reducible show forceH _ _); (refine (forceH_eq _ _).mpr ?_); conv => whnf) | ((with_reducible show ACall _ _ _ _ _); (refine ACall.of_pure (by assumption) (by rfl) ?_); conv => whnf) | ((with_reducible show Exists _); (refine ⟨_, ACall.of_pure (by assumption) (by rfl) ⟨rfl, rfl⟩, ?_⟩); conv => whnf) | ((with_reducible show _ ∧ _ ∧ _); (refine ⟨by omega, by omega, ?_⟩); conv => whnf) | fail)
    rw [h]
    exact weak_nils rfl ⟨rfl, trivial⟩
theorem clone_nil : PCall P 34 [.nils] .nils := by
  refine PCall.of_awp tok mixed fn34 (Nat.le_of_ble_eq_true rfl) ?_
  (conv => whnf); (repeat' first | ((with_reducible refine Box.mk ?_); conv => whnf) | ((with_reducible refine And.intro (fun _ => ?_) (fun _ => ?_)) <;> conv => whnf) | ((with_reducible show AYld _ _ _ _ _); (refine AYld.of tok mixed ?_); conv => whnf) | ((with_reducible show forceH _ _); (refine (forceH_eq _ _).mpr ?_); conv => whnf) | ((with_reducible show ACall _ _ _ _ _); (refine ACall.of_pure (by assumption) (by rfl) ?_); conv => whnf) | ((with_reducible show Exists _); (refine ⟨_, ACall.of_pure (by assumption) (by rfl) ⟨rfl, rfl⟩, ?_⟩); conv => whnf) | ((with_reducible show _ ∧ _ ∧ _); (refine ⟨by omega, by omega, ?_⟩); conv => whnf) | fail)
  · rfl
  · contradiction
theorem wBytes_nil : PCall P 20 [.nilp] .nils := by
  refine PCall.of_awp tok mixed fn20 (Nat.le_of_ble_eq_true rfl) ?_
  (conv => whnf); (repeat' first | ((with_reducible refine Box.mk ?_); conv => whnf) | ((with_reducible refine And.intro (fun _ => ?_) (fun _ => ?_)) <;> conv => whnf) | ((with_reducible show AYld _ _ _ _ _); (refine AYld.of tok mixed ?_); conv => whnf) | ((with_reducible show forceH _ _); (refine (forceH_eq _ _).mpr ?_); conv => whnf) | ((with_reducible show ACall _ _ _ _ _); (refine ACall.of_pure (by assumption) (by rfl) ?_); conv => whnf) | ((with_reducible show Exists _); (refine ⟨_, ACall.of_pure (by assumption) (by rfl) ⟨rfl, rfl⟩, ?_⟩); conv => whnf) | ((with_reducible show ∃ L, drawR L _ = true ∧ _); (refine ⟨[], by kernel_rfl, ?_⟩); conv => whnf) | ((with_reducible show _ ∧ _ ∧ _); (refine ⟨by omega, by omega, ?_⟩); conv => whnf) | fail)
  all_goals first
    | rfl
    | contradiction
theorem wBytes_ok (bs : Bs) (hbs : bs.length ≤ 1000000000) : DCall P 20 [.ptr 0 0] (wH bs) (.sl (bcl bs)) (wH bs) := by
  have q1 := clone_nil
  refine DCall.of_awp tok mixed fn20 (Nat.le_of_ble_eq_true rfl) ?_
  cases bs with
  | nil =>
    (conv => whnf); (repeat' first | ((with_reducible refine Box.mk ?_); conv => whnf) | ((with_reducible refine And.intro (fun _ => ?_) (fun _ => ?_)) <;> conv => whnf) | ((with_reducible show AYld _ _ _ _ _); (refine AYld.of tok mixed ?_); conv => whnf) | ((with_reducible show forceH _ _); (refine (forceH_eq _ _).mpr ?_); conv => whnf) | ((with_reducible show ACall _ _ _ _ _); (refine ACall.of_pure (by assumption) (by rfl) ?_); conv => whnf) | ((with_reducible show Exists _); (refine ⟨_, ACall.of_pure (by assumption) (by rfl) ⟨rfl, rfl⟩, ?_⟩); conv => whnf) | ((with_reducible show ∃ L, drawR L _ = true ∧ _); (refine ⟨[], by kernel_rfl, ?_⟩); conv => whnf) | ((with_reducible show _ ∧ _ ∧ _); (refine ⟨by omega, by omega, ?_⟩); conv => whnf) | fail)
    all_goals try contradiction
    exact weak_le ⟨.inr ⟨rfl, rfl⟩, trivial⟩ rfl
  | cons y r =>
    have q2 := clone_own (y :: r) hbs
    (conv => whnf); (repeat' first | ((with_reducible refine Box.mk ?_); conv => whnf) | ((with_reducible refine And.intro (fun _ => ?_) (fun _ => ?_)) <;> conv => whnf) | ((with_reducible show AYld _ _ _ _ _); (refine AYld.of tok mixed ?_); conv => whnf) | ((with_reducible show forceH _ _); (refine (forceH_eq _ _).mpr ?_); conv => whnf) | ((with_reducible show ACall _ _ _ _ _); (refine ACall.of_pure (by assumption) (by rfl) ?_); conv => whnf) | ((with_reducible show Exists _); (refine ⟨_, ACall.of_pure (by assumption) (by rfl) ⟨rfl, rfl⟩, ?_⟩); conv => whnf) | ((with_reducible show ∃ L, drawR L _ = true ∧ _); (refine ⟨[], by kernel_rfl, ?_⟩); conv => whnf) | ((with_reducible show _ ∧ _ ∧ _); (refine ⟨by omega, by omega, ?_⟩); conv => whnf) | fail)
    all_goals try contradiction
    refine aW [1] q2 rfl rfl rfl ?_
    (conv => whnf); (repeat' first | ((with_reducible refine Box.mk ?_); conv => whnf) | ((with_reducible refine And.intro (fun _ => ?_) (fun _ => ?_)) <;> conv => whnf) | ((with_reducible show AYld _ _ _ _ _); (refine AYld.of tok mixed ?_); conv => whnf) | ((with_reducible show forceH _ _); (refine (forceH_eq _ _).mpr ?_); conv => whnf) | ((with_reducible show ACall _ _ _ _ _); (refine ACall.of_pure (by assumption) (by rfl) ?_); conv => whnf) | ((with_reducible show Exists _); (refine ⟨_, ACall.of_pure (by assumption) (by rfl) ⟨rfl, rfl⟩, ?_⟩); conv => whnf) | ((with_reducible show ∃ L, drawR L _ = true ∧ _); (refine ⟨[], by kernel_rfl, ?_⟩); conv => whnf) | ((with_reducible show _ ∧ _ ∧ _); (refine ⟨by omega, by omega, ?_⟩); conv => whnf) | fail)
    exact weak_to ⟨rfl, trivial⟩ rfl
/-- A reader of what is left; its fault. -/
def rH (bs : Bs) (e : Int) : Hp := [.box 74 [.bool true, .sl (bcl bs), .int .i64 e]]
theorem from_sl (l : Bs) (hl : l.length ≤ 1000000000) : DCall P 14 [.sl (bcl l)] [] (.ptr 0 0) (rH l 0) := by
  have q1 := clone_sl l hl
  refine DCall.of_awp tok mixed fn14 (Nat.le_of_ble_eq_true rfl) ?_
  (conv => whnf); (repeat' first | ((with_reducible refine Box.mk ?_); conv => whnf) | ((with_reducible refine And.intro (fun _ => ?_) (fun _ => ?_)) <;> conv => whnf) | ((with_reducible show AYld _ _ _ _ _); (refine AYld.of tok mixed ?_); conv => whnf) | ((with_reducible show forceH _ _); (refine (forceH_eq _ _).mpr ?_); conv => whnf) | ((with_reducible show ACall _ _ _ _ _); (refine ACall.of_pure (by assumption) (by rfl) ?_); conv => whnf) | ((with_reducible show Exists _); (refine ⟨_, ACall.of_pure (by assumption) (by rfl) ⟨rfl, rfl⟩, ?_⟩); conv => whnf) | ((with_reducible show ∃ L, drawR L _ = true ∧ _); (refine ⟨[], by kernel_rfl, ?_⟩); conv => whnf) | ((with_reducible show _ ∧ _ ∧ _); (refine ⟨by omega, by omega, ?_⟩); conv => whnf) | fail)
  refine aW [] q1 rfl rfl rfl ?_
  (conv => whnf); (repeat' first | ((with_reducible refine Box.mk ?_); conv => whnf) | ((with_reducible refine And.intro (fun _ => ?_) (fun _ => ?_)) <;> conv => whnf) | ((with_reducible show AYld _ _ _ _ _); (refine AYld.of tok mixed ?_); conv => whnf) | ((with_reducible show forceH _ _); (refine (forceH_eq _ _).mpr ?_); conv => whnf) | ((with_reducible show ACall _ _ _ _ _); (refine ACall.of_pure (by assumption) (by rfl) ?_); conv => whnf) | ((with_reducible show Exists _); (refine ⟨_, ACall.of_pure (by assumption) (by rfl) ⟨rfl, rfl⟩, ?_⟩); conv => whnf) | ((with_reducible show ∃ L, drawR L _ = true ∧ _); (refine ⟨[], by kernel_rfl, ?_⟩); conv => whnf) | ((with_reducible show _ ∧ _ ∧ _); (refine ⟨by omega, by omega, ?_⟩); conv => whnf) | fail)
  exact weak_to ⟨rfl, trivial⟩ rfl
theorem from_own (l : Bs) (hl : l.length ≤ 1000000000) : DCall P 14 [.own 0] [.row 5 1 (bcl l)] (.ptr 1 0) (.row 5 1 (bcl l) :: rH l 0) := by
  have q1 := clone_own l hl
  refine DCall.of_awp tok mixed fn14 (Nat.le_of_ble_eq_true rfl) ?_
  (conv => whnf); (repeat' first | ((with_reducible refine Box.mk ?_); conv => whnf) | ((with_reducible refine And.intro (fun _ => ?_) (fun _ => ?_)) <;> conv => whnf) | ((with_reducible show AYld _ _ _ _ _); (refine AYld.of tok mixed ?_); conv => whnf) | ((with_reducible show forceH _ _); (refine (forceH_eq _ _).mpr ?_); conv => whnf) | ((with_reducible show ACall _ _ _ _ _); (refine ACall.of_pure (by assumption) (by rfl) ?_); conv => whnf) | ((with_reducible show Exists _); (refine ⟨_, ACall.of_pure (by assumption) (by rfl) ⟨rfl, rfl⟩, ?_⟩); conv => whnf) | ((with_reducible show ∃ L, drawR L _ = true ∧ _); (refine ⟨[], by kernel_rfl, ?_⟩); conv => whnf) | ((with_reducible show _ ∧ _ ∧ _); (refine ⟨by omega, by omega, ?_⟩); conv => whnf) | fail)
  refine aW [0] q1 rfl rfl rfl ?_
  (conv => whnf); (repeat' first | ((with_reducible refine Box.mk ?_); conv => whnf) | ((with_reducible refine And.intro (fun _ => ?_) (fun _ => ?_)) <;> conv => whnf) | ((with_reducible show AYld _ _ _ _ _); (refine AYld.of tok mixed ?_); conv => whnf) | ((with_reducible show forceH _ _); (refine (forceH_eq _ _).mpr ?_); conv => whnf) | ((with_reducible show ACall _ _ _ _ _); (refine ACall.of_pure (by assumption) (by rfl) ?_); conv => whnf) | ((with_reducible show Exists _); (refine ⟨_, ACall.of_pure (by assumption) (by rfl) ⟨rfl, rfl⟩, ?_⟩); conv => whnf) | ((with_reducible show ∃ L, drawR L _ = true ∧ _); (refine ⟨[], by kernel_rfl, ?_⟩); conv => whnf) | ((with_reducible show _ ∧ _ ∧ _); (refine ⟨by omega, by omega, ?_⟩); conv => whnf) | fail)
  exact weak_to ⟨rfl, trivial⟩ rfl
theorem rErr_nil : PCall P 37 [.nilp] (.int .i64 6) := by
  refine PCall.of_awp tok mixed fn37 (Nat.le_of_ble_eq_true rfl) ?_
  (conv => whnf); (repeat' first | ((with_reducible refine Box.mk ?_); conv => whnf) | ((with_reducible refine And.intro (fun _ => ?_) (fun _ => ?_)) <;> conv => whnf) | ((with_reducible show AYld _ _ _ _ _); (refine AYld.of tok mixed ?_); conv => whnf) | ((with_reducible show forceH _ _); (refine (forceH_eq _ _).mpr ?_); conv => whnf) | ((with_reducible show ACall _ _ _ _ _); (refine ACall.of_pure (by assumption) (by rfl) ?_); conv => whnf) | ((with_reducible show Exists _); (refine ⟨_, ACall.of_pure (by assumption) (by rfl) ⟨rfl, rfl⟩, ?_⟩); conv => whnf) | ((with_reducible show ∃ L, drawR L _ = true ∧ _); (refine ⟨[], by kernel_rfl, ?_⟩); conv => whnf) | ((with_reducible show _ ∧ _ ∧ _); (refine ⟨by omega, by omega, ?_⟩); conv => whnf) | fail)
  all_goals first
    | rfl
    | contradiction
theorem rErr_ok (bs : Bs) (e : Int) : DCall P 37 [.ptr 0 0] (rH bs e) (.int .i64 e) (rH bs e) := by
  refine DCall.of_awp tok mixed fn37 (Nat.le_of_ble_eq_true rfl) ?_
  (conv => whnf); (repeat' first | ((with_reducible refine Box.mk ?_); conv => whnf) | ((with_reducible refine And.intro (fun _ => ?_) (fun _ => ?_)) <;> conv => whnf) | ((with_reducible show AYld _ _ _ _ _); (refine AYld.of tok mixed ?_); conv => whnf) | ((with_reducible show forceH _ _); (refine (forceH_eq _ _).mpr ?_); conv => whnf) | ((with_reducible show ACall _ _ _ _ _); (refine ACall.of_pure (by assumption) (by rfl) ?_); conv => whnf) | ((with_reducible show Exists _); (refine ⟨_, ACall.of_pure (by assumption) (by rfl) ⟨rfl, rfl⟩, ?_⟩); conv => whnf) | ((with_reducible show ∃ L, drawR L _ = true ∧ _); (refine ⟨[], by kernel_rfl, ?_⟩); conv => whnf) | ((with_reducible show _ ∧ _ ∧ _); (refine ⟨by omega, by omega, ?_⟩); conv => whnf) | fail)
  all_goals try contradiction
  exact weak_to ⟨rfl, trivial⟩ rfl
/-- How many are left. -/
def restN (bs : Bs) (e : Int) : Int := if e = 0 then (bs.length : Int) else 0
def endN (bs : Bs) (e : Int) : Int := if 0 < restN bs e then 2 else e
theorem rLeft_ok (bs : Bs) (e : Int) : DCall P 40 [.ptr 0 0] (rH bs e) (.int .i64 (restN bs e)) (rH bs e) := by
  have q1 := rErr_ok bs e
  have hbl := bcl_len bs
  refine DCall.of_awp tok mixed fn40 (Nat.le_of_ble_eq_true rfl) ?_
  (conv => whnf); (repeat' first | ((with_reducible refine Box.mk ?_); conv => whnf) | ((with_reducible refine And.intro (fun _ => ?_) (fun _ => ?_)) <;> conv => whnf) | ((with_reducible show AYld _ _ _ _ _); (refine AYld.of tok mixed ?_); conv => whnf) | ((with_reducible show forceH _ _); (refine (forceH_eq _ _).mpr ?_); conv => whnf) | ((with_reducible show ACall _ _ _ _ _); (refine ACall.of_pure (by assumption) (by rfl) ?_); conv => whnf) | ((with_reducible show Exists _); (refine ⟨_, ACall.of_pure (by assumption) (by rfl) ⟨rfl, rfl⟩, ?_⟩); conv => whnf) | ((with_reducible show ∃ L, drawR L _ = true ∧ _); (refine ⟨[], by kernel_rfl, ?_⟩); conv => whnf) | ((with_reducible show _ ∧ _ ∧ _); (refine ⟨by omega, by omega, ?_⟩); conv => whnf) | fail)
  refine aW [0] q1 rfl rfl rfl ?_
  (conv => whnf); (repeat' first | ((with_reducible refine Box.mk ?_); conv => whnf) | ((with_reducible refine And.intro (fun _ => ?_) (fun _ => ?_)) <;> conv => whnf) | ((with_reducible show AYld _ _ _ _ _); (refine AYld.of tok mixed ?_); conv => whnf) | ((with_reducible show forceH _ _); (refine (forceH_eq _ _).mpr ?_); conv => whnf) | ((with_reducible show ACall _ _ _ _ _); (refine ACall.of_pure (by assumption) (by rfl) ?_); conv => whnf) | ((with_reducible show Exists _); (refine ⟨_, ACall.of_pure (by assumption) (by rfl) ⟨rfl, rfl⟩, ?_⟩); conv => whnf) | ((with_reducible show ∃ L, drawR L _ = true ∧ _); (refine ⟨[], by kernel_rfl, ?_⟩); conv => whnf) | ((with_reducible show _ ∧ _ ∧ _); (refine ⟨by omega, by omega, ?_⟩); conv => whnf) | fail)
  · rename_i h
    exact weak_to ⟨congrArg (AV.int .i64) (by rw [restN, if_pos h, hbl]), trivial⟩ rfl
  · rename_i h
    exact weak_to ⟨congrArg (AV.int .i64) (by rw [restN, if_neg h]), trivial⟩ rfl
theorem rEnd_ok (bs : Bs) (e : Int) : DCall P 17 [.ptr 0 0] (rH bs e) (.int .i64 (endN bs e)) (rH bs e) := by
  have q1 := rErr_ok bs e
  have q2 := rLeft_ok bs e
  refine DCall.of_awp tok mixed fn17 (Nat.le_of_ble_eq_true rfl) ?_
  (conv => whnf); (repeat' first | ((with_reducible refine Box.mk ?_); conv => whnf) | ((with_reducible refine And.intro (fun _ => ?_) (fun _ => ?_)) <;> conv => whnf) | ((with_reducible show AYld _ _ _ _ _); (refine AYld.of tok mixed ?_); conv => whnf) | ((with_reducible show forceH _ _); (refine (forceH_eq _ _).mpr ?_); conv => whnf) | ((with_reducible show ACall _ _ _ _ _); (refine ACall.of_pure (by assumption) (by rfl) ?_); conv => whnf) | ((with_reducible show Exists _); (refine ⟨_, ACall.of_pure (by assumption) (by rfl) ⟨rfl, rfl⟩, ?_⟩); conv => whnf) | ((with_reducible show ∃ L, drawR L _ = true ∧ _); (refine ⟨[], by kernel_rfl, ?_⟩); conv => whnf) | ((with_reducible show _ ∧ _ ∧ _); (refine ⟨by omega, by omega, ?_⟩); conv => whnf) | fail)
  refine aW [0] q2 rfl rfl rfl ?_
  (conv => whnf); (repeat' first | ((with_reducible refine Box.mk ?_); conv => whnf) | ((with_reducible refine And.intro (fun _ => ?_) (fun _ => ?_)) <;> conv => whnf) | ((with_reducible show AYld _ _ _ _ _); (refine AYld.of tok mixed ?_); conv => whnf) | ((with_reducible show forceH _ _); (refine (forceH_eq _ _).mpr ?_); conv => whnf) | ((with_reducible show ACall _ _ _ _ _); (refine ACall.of_pure (by assumption) (by rfl) ?_); conv => whnf) | ((with_reducible show Exists _); (refine ⟨_, ACall.of_pure (by assumption) (by rfl) ⟨rfl, rfl⟩, ?_⟩); conv => whnf) | ((with_reducible show ∃ L, drawR L _ = true ∧ _); (refine ⟨[], by kernel_rfl, ?_⟩); conv => whnf) | ((with_reducible show _ ∧ _ ∧ _); (refine ⟨by omega, by omega, ?_⟩); conv => whnf) | fail)
  · rename_i h
    exact weak_to ⟨congrArg (AV.int .i64) (by rw [endN, if_pos h]), trivial⟩ rfl
  · rename_i h
    refine aW [0] q1 rfl rfl rfl ?_
    (conv => whnf); (repeat' first | ((with_reducible refine Box.mk ?_); conv => whnf) | ((with_reducible refine And.intro (fun _ => ?_) (fun _ => ?_)) <;> conv => whnf) | ((with_reducible show AYld _ _ _ _ _); (refine AYld.of tok mixed ?_); conv => whnf) | ((with_reducible show forceH _ _); (refine (forceH_eq _ _).mpr ?_); conv => whnf) | ((with_reducible show ACall _ _ _ _ _); (refine ACall.of_pure (by assumption) (by rfl) ?_); conv => whnf) | ((with_reducible show Exists _); (refine ⟨_, ACall.of_pure (by assumption) (by rfl) ⟨rfl, rfl⟩, ?_⟩); conv => whnf) | ((with_reducible show ∃ L, drawR L _ = true ∧ _); (refine ⟨[], by kernel_rfl, ?_⟩); conv => whnf) | ((with_reducible show _ ∧ _ ∧ _); (refine ⟨by omega, by omega, ?_⟩); conv => whnf) | fail)
    exact weak_to ⟨congrArg (AV.int .i64) (by rw [endN, if_neg h]), trivial⟩ rfl
/-- A fault, if something isn't so. -/
def mustE (e : Int) (b : Bool) : Int := if e = 0 ∧ b = false then 3 else e
theorem rMust_ok (bs : Bs) (e : Int) (b : Bool) : DCall P 36 [.ptr 0 0, .bool b] (rH bs e) (mkRes []) (rH bs (mustE e b)) := by
  have q1 := rErr_ok bs e
  cases b
  all_goals (
    refine DCall.of_awp tok mixed fn36 (Nat.le_of_ble_eq_true rfl) ?_
    (conv => whnf); (repeat' first | ((with_reducible refine Box.mk ?_); conv => whnf) | ((with_reducible refine And.intro (fun _ => ?_) (fun _ => ?_)) <;> conv => whnf) | ((with_reducible show AYld _ _ _ _ _); (refine AYld.of tok mixed ?_); conv => whnf) | ((with_reducible show forceH _ _); (refine (forceH_eq _ _).mpr ?_); conv => whnf) | ((with_reducible show ACall _ _ _ _ _); (refine ACall.of_pure (by assumption) (by rfl) ?_); conv => whnf) | ((with_reducible show Exists _); (refine ⟨_, ACall.of_pure (by assumption) (by rfl) ⟨rfl, rfl⟩, ?_⟩); conv => whnf) | ((with_reducible show ∃ L, drawR L _ = true ∧ _); (refine ⟨[], by kernel_rfl, ?_⟩); conv => whnf) | ((with_reducible show _ ∧ _ ∧ _); (refine ⟨by omega, by omega, ?_⟩); conv => whnf) | fail)
    refine aW [0] q1 rfl rfl rfl ?_
    (conv => whnf); (repeat' first | ((with_reducible refine Box.mk ?_); conv => whnf) | ((with_reducible refine And.intro (fun _ => ?_) (fun _ => ?_)) <;> conv => whnf) | ((with_reducible show AYld _ _ _ _ _); (refine AYld.of tok mixed ?_); conv => whnf) | ((with_reducible show forceH _ _); (refine (forceH_eq _ _).mpr ?_); conv => whnf) | ((with_reducible show ACall _ _ _ _ _); (refine ACall.of_pure (by assumption) (by rfl) ?_); conv => whnf) | ((with_reducible show Exists _); (refine ⟨_, ACall.of_pure (by assumption) (by rfl) ⟨rfl, rfl⟩, ?_⟩); conv => whnf) | ((with_reducible show ∃ L, drawR L _ = true ∧ _); (refine ⟨[], by kernel_rfl, ?_⟩); conv => whnf) | ((with_reducible show _ ∧ _ ∧ _); (refine ⟨by omega, by omega, ?_⟩); conv => whnf) | fail))
  · rename_i h
    exact weak_to ⟨rfl, trivial⟩ (by rw [mustE, if_pos ⟨h, rfl⟩]; rfl)
  · rename_i h
    exact weak_to ⟨rfl, trivial⟩ (by rw [mustE, if_neg (fun hc => h hc.1)]; rfl)
  · exact weak_to ⟨rfl, trivial⟩ (by rw [mustE, if_neg (fun hc => by cases hc.2)]; rfl)
  · exact weak_to ⟨rfl, trivial⟩ (by rw [mustE, if_neg (fun hc => by cases hc.2)]; rfl)
/-- So many bytes are read: these; what is left; the fault. -/
def rawF (n : Int) (bs : Bs) (e : Int) : Bs × Bs × Int :=
  if mustE e (decide (0 ≤ n)) ≠ 0 then ([], bs, mustE e (decide (0 ≤ n))) else if (bs.length : Int) < n then ([], bs, 8) else (bs.take n.toNat, bs.drop n.toNat, 0)
theorem rRaw_ok (bs : Bs) (e n : Int) (hbs : bs.length ≤ 1000000000) : DCall P 42 [.ptr 0 0, .int .i64 n] (rH bs e) (.sl (bcl (rawF n bs e).1)) (rH (rawF n bs e).2.1 (rawF n bs e).2.2) := by
  have q1 := fun b => rMust_ok bs e b
  have hbl := bcl_len bs
  by_cases h0 : mustE e (decide (0 ≤ n)) = 0
  · have hn : 0 ≤ n := by
      by_cases hc : 0 ≤ n
      · exact hc
      · rw [decide_eq_false hc] at h0
        unfold mustE at h0
        split at h0
        · cases h0
        · rename_i h1; exact absurd ⟨h0, rfl⟩ h1
    rw [decide_eq_true hn] at h0
    have q1' := q1 true
    rw [h0] at q1'
    have q2 := rErr_ok bs 0
    by_cases hl : (bs.length : Int) < n
    · have e1 : rawF n bs e = ([], bs, 8) := by unfold rawF; rw [decide_eq_true hn, if_neg (fun h => h h0), if_pos hl]
      rw [e1]
      refine DCall.of_awp tok mixed fn42 (Nat.le_of_ble_eq_true rfl) ?_
      (conv => whnf); (repeat' first | ((with_reducible refine Box.mk ?_); conv => whnf) | ((with_reducible refine And.intro (fun _ => ?_) (fun _ => ?_)) <;> conv => whnf) | ((with_reducible show AYld _ _ _ _ _); (refine AYld.of tok mixed ?_); conv => whnf) | ((with_reducible show forceH _ _); (refine (forceH_eq _ _).mpr ?_); conv => whnf) | ((with_reducible show ACall _ _ _ _ _); (refine ACall.of_pure (by assumption) (by rfl) ?_); conv => whnf) | ((with_reducible show Exists _); (refine ⟨_, ACall.of_pure (by assumption) (by rfl) ⟨rfl, rfl⟩, ?_⟩); conv => whnf) | ((with_reducible show ∃ L, drawR L _ = true ∧ _); (refine ⟨[], by kernel_rfl, ?_⟩); conv => whnf) | ((with_reducible show _ ∧ _ ∧ _); (refine ⟨by omega, by omega, ?_⟩); conv => whnf) | fail)
      · refine aW [0] q1' rfl rfl rfl ?_
        (conv => whnf); (repeat' first | ((with_reducible refine Box.mk ?_); conv => whnf) | ((with_reducible refine And.intro (fun _ => ?_) (fun _ => ?_)) <;> conv => whnf) | ((with_reducible show AYld _ _ _ _ _); (refine AYld.of tok mixed ?_); conv => whnf) | ((with_reducible show forceH _ _); (refine (forceH_eq _ _).mpr ?_); conv => whnf) | ((with_reducible show ACall _ _ _ _ _); (refine ACall.of_pure (by assumption) (by rfl) ?_); conv => whnf) | ((with_reducible show Exists _); (refine ⟨_, ACall.of_pure (by assumption) (by rfl) ⟨rfl, rfl⟩, ?_⟩); conv => whnf) | ((with_reducible show ∃ L, drawR L _ = true ∧ _); (refine ⟨[], by kernel_rfl, ?_⟩); conv => whnf) | ((with_reducible show _ ∧ _ ∧ _); (refine ⟨by omega, by omega, ?_⟩); conv => whnf) | fail)
        refine aW [0] q2 rfl rfl rfl ?_
        (conv => whnf); (repeat' first | ((with_reducible refine Box.mk ?_); conv => whnf) | ((with_reducible refine And.intro (fun _ => ?_) (fun _ => ?_)) <;> conv => whnf) | ((with_reducible show AYld _ _ _ _ _); (refine AYld.of tok mixed ?_); conv => whnf) | ((with_reducible show forceH _ _); (refine (forceH_eq _ _).mpr ?_); conv => whnf) | ((with_reducible show ACall _ _ _ _ _); (refine ACall.of_pure (by assumption) (by rfl) ?_); conv => whnf) | ((with_reducible show Exists _); (refine ⟨_, ACall.of_pure (by assumption) (by rfl) ⟨rfl, rfl⟩, ?_⟩); conv => whnf) | ((with_reducible show ∃ L, drawR L _ = true ∧ _); (refine ⟨[], by kernel_rfl, ?_⟩); conv => whnf) | ((with_reducible show _ ∧ _ ∧ _); (refine ⟨by omega, by omega, ?_⟩); conv => whnf) | fail)
        all_goals try contradiction
        · exact weak_le ⟨.inr ⟨rfl, rfl⟩, trivial⟩ rfl
        · exfalso; omega
      · contradiction
    · obtain ⟨k, rfl⟩ : ∃ k : Nat, n = k := ⟨n.toNat, by omega⟩
      have e1 : rawF k bs e = (bs.take k, bs.drop k, 0) := by unfold rawF; rw [decide_eq_true hn, if_neg (fun h => h h0), if_neg hl]; rfl
      have hk : k ≤ bs.length := by omega
      rw [e1]
      refine DCall.of_awp tok mixed fn42 (Nat.le_of_ble_eq_true rfl) ?_
      (conv => whnf); (repeat' first | ((with_reducible refine Box.mk ?_); conv => whnf) | ((with_reducible refine And.intro (fun _ => ?_) (fun _ => ?_)) <;> conv => whnf) | ((with_reducible show AYld _ _ _ _ _); (refine AYld.of tok mixed ?_); conv => whnf) | ((with_reducible show forceH _ _); (refine (forceH_eq _ _).mpr ?_); conv => whnf) | ((with_reducible show ACall _ _ _ _ _); (refine ACall.of_pure (by assumption) (by rfl) ?_); conv => whnf) | ((with_reducible show Exists _); (refine ⟨_, ACall.of_pure (by assumption) (by rfl) ⟨rfl, rfl⟩, ?_⟩); conv => whnf) | ((with_reducible show ∃ L, drawR L _ = true ∧ _); (refine ⟨[], by kernel_rfl, ?_⟩); conv => whnf) | ((with_reducible show _ ∧ _ ∧ _); (refine ⟨by omega, by omega, ?_⟩); conv => whnf) | fail)
      · refine aW [0] q1' rfl rfl rfl ?_
        (conv => whnf); (repeat' first | ((with_reducible refine Box.mk ?_); conv => whnf) | ((with_reducible refine And.intro (fun _ => ?_) (fun _ => ?_)) <;> conv => whnf) | ((with_reducible show AYld _ _ _ _ _); (refine AYld.of tok mixed ?_); conv => whnf) | ((with_reducible show forceH _ _); (refine (forceH_eq _ _).mpr ?_); conv => whnf) | ((with_reducible show ACall _ _ _ _ _); (refine ACall.of_pure (by assumption) (by rfl) ?_); conv => whnf) | ((with_reducible show Exists _); (refine ⟨_, ACall.of_pure (by assumption) (by rfl) ⟨rfl, rfl⟩, ?_⟩); conv => whnf) | ((with_reducible show ∃ L, drawR L _ = true ∧ _); (refine ⟨[], by kernel_rfl, ?_⟩); conv => whnf) | ((with_reducible show _ ∧ _ ∧ _); (refine ⟨by omega, by omega, ?_⟩); conv => whnf) | fail)
        refine aW [0] q2 rfl rfl rfl ?_
        (conv => whnf); (repeat' first | ((with_reducible refine Box.mk ?_); conv => whnf) | ((with_reducible refine And.intro (fun _ => ?_) (fun _ => ?_)) <;> conv => whnf) | ((with_reducible show AYld _ _ _ _ _); (refine AYld.of tok mixed ?_); conv => whnf) | ((with_reducible show forceH _ _); (refine (forceH_eq _ _).mpr ?_); conv => whnf) | ((with_reducible show ACall _ _ _ _ _); (refine ACall.of_pure (by assumption) (by rfl) ?_); conv => whnf) | ((with_reducible show Exists _); (refine ⟨_, ACall.of_pure (by assumption) (by rfl) ⟨rfl, rfl⟩, ?_⟩); conv => whnf) | ((with_reducible show ∃ L, drawR L _ = true ∧ _); (refine ⟨[], by kernel_rfl, ?_⟩); conv => whnf) | ((with_reducible show _ ∧ _ ∧ _); (refine ⟨by omega, by omega, ?_⟩); conv => whnf) | fail)
        all_goals try contradiction
        · exfalso; omega
        · refine ⟨by show (k : Int) * ((1 : Nat) : Int) ≤ _; omega, by omega, ?_⟩
          have hd : List.drop 0 (List.take ((k : Nat) : Int).toNat (bcl bs)) = bcl (bs.take k) := by rw [List.drop_zero, Int.toNat_natCast]; exact (List.map_take ..).symm
          have hd2 : List.drop ((k : Nat) : Int).toNat (List.take (bcl bs).length (bcl bs)) = bcl (bs.drop k) := by rw [List.take_length, Int.toNat_natCast]; exact (List.map_drop ..).symm
          have hcp : List.take (List.replicate ((k : Nat) : Int).toNat [AV.int .u8 0]).length (bcl (bs.take k)) ++ List.drop (bcl (bs.take k)).length (List.replicate ((k : Nat) : Int).toNat [AV.int .u8 0]) = bcl (bs.take k) := by
            have hl1 : (bcl (bs.take k)).length = k := by rw [bcl_len, List.length_take]; omega
            rw [hl1, List.length_replicate, Int.toNat_natCast, List.drop_of_length_le (by rw [List.length_replicate]; omega), List.append_nil, List.take_of_length_le (by omega)]
          (conv => whnf); (repeat' first | ((with_reducible refine Box.mk ?_); conv => whnf) | ((with_reducible refine And.intro (fun _ => ?_) (fun _ => ?_)) <;> conv => whnf) | ((with_reducible show AYld _ _ _ _ _); (refine AYld.of tok mixed ?_); conv => whnf) | ((with_reducible show forceH _ _); (refine (forceH_eq _ _).mpr ?_); conv => whnf) | ((with_reducible show ACall _ _ _ _ _); (refine ACall.of_pure (by assumption) (by rfl) ?_); conv => whnf) | ((with_reducible show Exists _); (refine ⟨_, ACall.of_pure (by assumption) (by rfl) ⟨rfl, rfl⟩, ?_⟩); conv => whnf) | ((with_reducible show ∃ L, drawR L _ = true ∧ _); (refine ⟨[], by kernel_rfl, ?_⟩); conv => whnf) | ((with_reducible show _ ∧ _ ∧ _); (refine ⟨by omega, by omega, ?_⟩); conv => whnf) | fail)
          rw [hd]
          refine ⟨bcl_all bs, ?_⟩
          (conv => whnf); (repeat' first | ((with_reducible refine Box.mk ?_); conv => whnf) | ((with_reducible refine And.intro (fun _ => ?_) (fun _ => ?_)) <;> conv => whnf) | ((with_reducible show AYld _ _ _ _ _); (refine AYld.of tok mixed ?_); conv => whnf) | ((with_reducible show forceH _ _); (refine (forceH_eq _ _).mpr ?_); conv => whnf) | ((with_reducible show ACall _ _ _ _ _); (refine ACall.of_pure (by assumption) (by rfl) ?_); conv => whnf) | ((with_reducible show Exists _); (refine ⟨_, ACall.of_pure (by assumption) (by rfl) ⟨rfl, rfl⟩, ?_⟩); conv => whnf) | ((with_reducible show ∃ L, drawR L _ = true ∧ _); (refine ⟨[], by kernel_rfl, ?_⟩); conv => whnf) | ((with_reducible show _ ∧ _ ∧ _); (refine ⟨by omega, by omega, ?_⟩); conv => whnf) | fail)
          refine ⟨bcl_cells _, ?_⟩
          (conv => whnf); (repeat' first | ((with_reducible refine Box.mk ?_); conv => whnf) | ((with_reducible refine And.intro (fun _ => ?_) (fun _ => ?_)) <;> conv => whnf) | ((with_reducible show AYld _ _ _ _ _); (refine AYld.of tok mixed ?_); conv => whnf) | ((with_reducible show forceH _ _); (refine (forceH_eq _ _).mpr ?_); conv => whnf) | ((with_reducible show ACall _ _ _ _ _); (refine ACall.of_pure (by assumption) (by rfl) ?_); conv => whnf) | ((with_reducible show Exists _); (refine ⟨_, ACall.of_pure (by assumption) (by rfl) ⟨rfl, rfl⟩, ?_⟩); conv => whnf) | ((with_reducible show ∃ L, drawR L _ = true ∧ _); (refine ⟨[], by kernel_rfl, ?_⟩); conv => whnf) | ((with_reducible show _ ∧ _ ∧ _); (refine ⟨by omega, by omega, ?_⟩); conv => whnf) | fail)
          rw [hd2]
          refine ⟨bcl_all bs, ?_⟩
          (conv => whnf); (repeat' first | ((with_reducible refine Box.mk ?_); conv => whnf) | ((with_reducible refine And.intro (fun _ => ?_) (fun _ => ?_)) <;> conv => whnf) | ((with_reducible show AYld _ _ _ _ _); (refine AYld.of tok mixed ?_); conv => whnf) | ((with_reducible show forceH _ _); (refine (forceH_eq _ _).mpr ?_); conv => whnf) | ((with_reducible show ACall _ _ _ _ _); (refine ACall.of_pure (by assumption) (by rfl) ?_); conv => whnf) | ((with_reducible show Exists _); (refine ⟨_, ACall.of_pure (by assumption) (by rfl) ⟨rfl, rfl⟩, ?_⟩); conv => whnf) | ((with_reducible show ∃ L, drawR L _ = true ∧ _); (refine ⟨[], by kernel_rfl, ?_⟩); conv => whnf) | ((with_reducible show _ ∧ _ ∧ _); (refine ⟨by omega, by omega, ?_⟩); conv => whnf) | fail)
          exact weak_cr 1 [(0, true)] rfl rfl rfl (congrArg AV.sl hcp) rfl
      · contradiction
  · have e1 : rawF n bs e = ([], bs, mustE e (decide (0 ≤ n))) := by unfold rawF; rw [if_pos h0]
    rw [e1]
    have q2 := rErr_ok bs (mustE e (decide (0 ≤ n)))
    generalize hm : mustE e (decide (0 ≤ n)) = m at *
    refine DCall.of_awp tok mixed fn42 (Nat.le_of_ble_eq_true rfl) ?_
    (conv => whnf); (repeat' first | ((with_reducible refine Box.mk ?_); conv => whnf) | ((with_reducible refine And.intro (fun _ => ?_) (fun _ => ?_)) <;> conv => whnf) | ((with_reducible show AYld _ _ _ _ _); (refine AYld.of tok mixed ?_); conv => whnf) | ((with_reducible show forceH _ _); (refine (forceH_eq _ _).mpr ?_); conv => whnf) | ((with_reducible show ACall _ _ _ _ _); (refine ACall.of_pure (by assumption) (by rfl) ?_); conv => whnf) | ((with_reducible show Exists _); (refine ⟨_, ACall.of_pure (by assumption) (by rfl) ⟨rfl, rfl⟩, ?_⟩); conv => whnf) | ((with_reducible show ∃ L, drawR L _ = true ∧ _); (refine ⟨[], by kernel_rfl, ?_⟩); conv => whnf) | ((with_reducible show _ ∧ _ ∧ _); (refine ⟨by omega, by omega, ?_⟩); conv => whnf) | fail)
    · rename_i hn
      have q1' := q1 true
      rw [decide_eq_true hn] at hm
      rw [hm] at q1'
      refine aW [0] q1' rfl rfl rfl ?_
      (conv => whnf); (repeat' first | ((with_reducible refine Box.mk ?_); conv => whnf) | ((with_reducible refine And.intro (fun _ => ?_) (fun _ => ?_)) <;> conv => whnf) | ((with_reducible show AYld _ _ _ _ _); (refine AYld.of tok mixed ?_); conv => whnf) | ((with_reducible show forceH _ _); (refine (forceH_eq _ _).mpr ?_); conv => whnf) | ((with_reducible show ACall _ _ _ _ _); (refine ACall.of_pure (by assumption) (by rfl) ?_); conv => whnf) | ((with_reducible show Exists _); (refine ⟨_, ACall.of_pure (by assumption) (by rfl) ⟨rfl, rfl⟩, ?_⟩); conv => whnf) | ((with_reducible show ∃ L, drawR L _ = true ∧ _); (refine ⟨[], by kernel_rfl, ?_⟩); conv => whnf) | ((with_reducible show _ ∧ _ ∧ _); (refine ⟨by omega, by omega, ?_⟩); conv => whnf) | fail)
      refine aW [0] q2 rfl rfl rfl ?_
      (conv => whnf); (repeat' first | ((with_reducible refine Box.mk ?_); conv => whnf) | ((with_reducible refine And.intro (fun _ => ?_) (fun _ => ?_)) <;> conv => whnf) | ((with_reducible show AYld _ _ _ _ _); (refine AYld.of tok mixed ?_); conv => whnf) | ((with_reducible show forceH _ _); (refine (forceH_eq _ _).mpr ?_); conv => whnf) | ((with_reducible show ACall _ _ _ _ _); (refine ACall.of_pure (by assumption) (by rfl) ?_); conv => whnf) | ((with_reducible show Exists _); (refine ⟨_, ACall.of_pure (by assumption) (by rfl) ⟨rfl, rfl⟩, ?_⟩); conv => whnf) | ((with_reducible show ∃ L, drawR L _ = true ∧ _); (refine ⟨[], by kernel_rfl, ?_⟩); conv => whnf) | ((with_reducible show _ ∧ _ ∧ _); (refine ⟨by omega, by omega, ?_⟩); conv => whnf) | fail)
      all_goals try contradiction
      exact weak_le ⟨.inr ⟨rfl, rfl⟩, trivial⟩ rfl
    · rename_i hn
      have q1' := q1 false
      rw [decide_eq_false hn] at hm
      rw [hm] at q1'
      refine aW [0] q1' rfl rfl rfl ?_
      (conv => whnf); (repeat' first | ((with_reducible refine Box.mk ?_); conv => whnf) | ((with_reducible refine And.intro (fun _ => ?_) (fun _ => ?_)) <;> conv => whnf) | ((with_reducible show AYld _ _ _ _ _); (refine AYld.of tok mixed ?_); conv => whnf) | ((with_reducible show forceH _ _); (refine (forceH_eq _ _).mpr ?_); conv => whnf) | ((with_reducible show ACall _ _ _ _ _); (refine ACall.of_pure (by assumption) (by rfl) ?_); conv => whnf) | ((with_reducible show Exists _); (refine ⟨_, ACall.of_pure (by assumption) (by rfl) ⟨rfl, rfl⟩, ?_⟩); conv => whnf) | ((with_reducible show ∃ L, drawR L _ = true ∧ _); (refine ⟨[], by kernel_rfl, ?_⟩); conv => whnf) | ((with_reducible show _ ∧ _ ∧ _); (refine ⟨by omega, by omega, ?_⟩); conv => whnf) | fail)
      refine aW [0] q2 rfl rfl rfl ?_
      (conv => whnf); (repeat' first | ((with_reducible refine Box.mk ?_); conv => whnf) | ((with_reducible refine And.intro (fun _ => ?_) (fun _ => ?_)) <;> conv => whnf) | ((with_reducible show AYld _ _ _ _ _); (refine AYld.of tok mixed ?_); conv => whnf) | ((with_reducible show forceH _ _); (refine (forceH_eq _ _).mpr ?_); conv => whnf) | ((with_reducible show ACall _ _ _ _ _); (refine ACall.of_pure (by assumption) (by rfl) ?_); conv => whnf) | ((with_reducible show Exists _); (refine ⟨_, ACall.of_pure (by assumption) (by rfl) ⟨rfl, rfl⟩, ?_⟩); conv => whnf) | ((with_reducible show ∃ L, drawR L _ = true ∧ _); (refine ⟨[], by kernel_rfl, ?_⟩); conv => whnf) | ((with_reducible show _ ∧ _ ∧ _); (refine ⟨by omega, by omega, ?_⟩); conv => whnf) | fail)
      all_goals try contradiction
      exact weak_le ⟨.inr ⟨rfl, rfl⟩, trivial⟩ rfl
end Go.Proofs.YtnajpmepcffnaaaDoor
end

section
/- wire: the writer, its bytes as a row that may be nil. -/
namespace Go.Proofs.YtnajpmepcffnaaaDoor
open Go.Ve

/-- A writer that has written nothing yet. -/
def wN : Hp := [.box 26 [.nils]]
/-- A writer of these bytes. -/
def wR (bs : Bs) : Hp := [.box 26 [.own 1], .row 5 1 (bcl bs)]
/-- The same, when its bytes have moved. -/
def wQ (bs : Bs) : Hp := [.box 26 [.own 2], .dead, .row 5 1 (bcl bs)]
theorem nrBox (n : Nat) (t : TypeId) : NrH n [.box t [.nils]] [.box t [.own n]] := ⟨.inr ⟨rfl, .inr ⟨rfl, rfl⟩, trivial⟩, trivial⟩
theorem nrh_refl (n : Nat) : ∀ H : Hp, NrH n H H
  | [] => trivial
  | _ :: r => ⟨.inl rfl, nrh_refl n r⟩
set_option maxHeartbeats 4000000 in
theorem wNumR (bs : Bs) (hbs : bs.length ≤ 1000000000) (n : Nat) (k : Int) : DCall P 32 [.ptr 0 0, .int .u64 n, .int .i64 k] (wR bs) (.ptr 0 0) (wQ (bs ++ numB n (szN k))) := by
  have q1 := wSize_ok k
  have hk := szN_pos k
  have hlen := numB_len n (szN k)
  have htk := fun t (h : t < szN k) => numB_take (n := n) h
  have hall : (numB n (szN k)).take (szN k) = numB n (szN k) := List.take_of_length_le (by omega)
  generalize szN k = K at *
  have htl : ∀ t, t ≤ K → ((numB n K).take t).length = t := fun t ht => by rw [List.length_take, hlen]; omega
  refine DCall.of_awp tok mixed fn32 (Nat.le_of_ble_eq_true rfl) ?_
  (conv => whnf); (repeat' first | ((with_reducible refine Box.mk ?_); conv => whnf) | ((with_reducible refine And.intro (fun _ => ?_) (fun _ => ?_)) <;> conv => whnf) | ((with_reducible show AYld _ _ _ _ _); (refine AYld.of tok mixed ?_); conv => whnf) | ((with_reducible show forceH _ _); (refine (forceH_eq _ _).mpr ?_); conv => whnf) | ((with_reducible show ACall _ _ _ _ _); (refine ACall.of_pure (by assumption) (by rfl) ?_); conv => whnf) | ((with_reducible show Exists _); (refine ⟨_, ACall.of_pure (by assumption) (by rfl) ⟨rfl, rfl⟩, ?_⟩); conv => whnf) | ((with_reducible show ∃ L, drawR L _ = true ∧ _); (refine ⟨[], by kernel_rfl, ?_⟩); conv => whnf) | ((with_reducible show _ ∧ _ ∧ _); (refine ⟨by omega, by omega, ?_⟩); conv => whnf) | fail)
  all_goals try contradiction
  refine aloop (fun x : Nat × Bs => x.1 ≤ K ∧ x.2 = (numB n K).take x.1) (fun x => ⟨envL [(0, .ptr 0 0), (1, .int .u64 n), (7, .int .i64 ((K : Int) - 1 - (x.1 : Int)))], wQ (bs ++ x.2)⟩) (fun x => K - x.1) (0, []) ⟨Nat.zero_le _, rfl⟩
    (weak_ren_to [(0, true), (1, false), (1, true)] rfl rfl (by show [_, _, Ob.row _ _ (bcl bs)] = [_, _, Ob.row _ _ (bcl (bs ++ []))]; rw [List.append_nil]; rfl) ⟨rfl, rfl, congrArg (AV.int .i64) (by show IntKind.i64.wrap _ = _; rw [wrap_i64 (by omega) (by omega)]; show (K : Int) - 1 = (K : Int) - 1 - ((0 : Nat) : Int); omega), trivial⟩) ?_
  rintro ⟨t, l⟩ ⟨ht, hl⟩
  have ht : t ≤ K := ht
  have hl : l = (numB n K).take t := hl
  have hll : l.length = t := by rw [hl]; exact htl t ht
  have hbl := bcl_len (bs ++ l)
  rw [List.length_append] at hbl
  have hi8 : t < K → IntKind.i64.wrap (8 * ((K : Int) - 1 - (t : Int))) = ((8 * (K - 1 - t) : Nat) : Int) := fun h => by rw [wrap_i64 (by omega) (by omega)]; omega
  have hby := fun h : t < K => byte_at (n := n) (i := K - 1 - t) (by omega)
  have hstep := fun h : t < K => htk t h
  rw [← hl] at hstep
  have hi1 : t < K → IntKind.i64.wrap ((K : Int) - 1 - (t : Int) - 1) = (K : Int) - 1 - ((t + 1 : Nat) : Int) := fun h => by rw [wrap_i64 (by omega) (by omega)]; omega
  (conv => whnf); (repeat' first | ((with_reducible refine Box.mk ?_); conv => whnf) | ((with_reducible refine And.intro (fun _ => ?_) (fun _ => ?_)) <;> conv => whnf) | ((with_reducible show AYld _ _ _ _ _); (refine AYld.of tok mixed ?_); conv => whnf) | ((with_reducible show forceH _ _); (refine (forceH_eq _ _).mpr ?_); conv => whnf) | ((with_reducible show ACall _ _ _ _ _); (refine ACall.of_pure (by assumption) (by rfl) ?_); conv => whnf) | ((with_reducible show Exists _); (refine ⟨_, ACall.of_pure (by assumption) (by rfl) ⟨rfl, rfl⟩, ?_⟩); conv => whnf) | ((with_reducible show _ ∧ _ ∧ _); (refine ⟨by omega, by omega, ?_⟩); conv => whnf) | fail)
  · rename_i h0
    have hlt : t < K := by have h0 : 0 ≤ (K : Int) - 1 - (t : Int) := h0; omega
    have hs2 := hstep hlt
    have hb2 := hby hlt
    refine ⟨[(10, [4])], by kernel_rfl, ?_⟩
    (conv => whnf); (repeat' first | ((with_reducible refine Box.mk ?_); conv => whnf) | ((with_reducible refine And.intro (fun _ => ?_) (fun _ => ?_)) <;> conv => whnf) | ((with_reducible show AYld _ _ _ _ _); (refine AYld.of tok mixed ?_); conv => whnf) | ((with_reducible show forceH _ _); (refine (forceH_eq _ _).mpr ?_); conv => whnf) | ((with_reducible show ACall _ _ _ _ _); (refine ACall.of_pure (by assumption) (by rfl) ?_); conv => whnf) | ((with_reducible show Exists _); (refine ⟨_, ACall.of_pure (by assumption) (by rfl) ⟨rfl, rfl⟩, ?_⟩); conv => whnf) | ((with_reducible show _ ∧ _ ∧ _); (refine ⟨by omega, by omega, ?_⟩); conv => whnf) | fail)
    rw [hi8 hlt]
    refine ⟨by omega, ?_⟩
    (conv => whnf); (repeat' first | ((with_reducible refine Box.mk ?_); conv => whnf) | ((with_reducible refine And.intro (fun _ => ?_) (fun _ => ?_)) <;> conv => whnf) | ((with_reducible show AYld _ _ _ _ _); (refine AYld.of tok mixed ?_); conv => whnf) | ((with_reducible show forceH _ _); (refine (forceH_eq _ _).mpr ?_); conv => whnf) | ((with_reducible show ACall _ _ _ _ _); (refine ACall.of_pure (by assumption) (by rfl) ?_); conv => whnf) | ((with_reducible show Exists _); (refine ⟨_, ACall.of_pure (by assumption) (by rfl) ⟨rfl, rfl⟩, ?_⟩); conv => whnf) | ((with_reducible show _ ∧ _ ∧ _); (refine ⟨by omega, by omega, ?_⟩); conv => whnf) | fail)
    (refine And.intro ?_ ?_); (focus ((conv => whnf); (repeat' first | exact trivial | ((refine And.intro ?_ ?_); (focus ((conv => whnf); (first | exact ⟨rfl, rfl⟩ | exact ⟨by decide, by decide, rfl, rfl⟩ | exact ⟨by omega, by omega, rfl, rfl⟩ | exact ⟨by (simp only [List.length_drop, List.length_take]; omega), rfl, rfl⟩ | exact ⟨_, rfl, rfl, rfl⟩ | exact ⟨by omega, _, by assumption, rfl, rfl, rfl⟩ | ((refine ACall.of_pure (by assumption) (by rfl) ?_); (refine And.intro ?_ ?_ <;> rfl))))); (conv => whnf)))))
    (conv => whnf); (repeat' first | ((with_reducible refine Box.mk ?_); conv => whnf) | ((with_reducible refine And.intro (fun _ => ?_) (fun _ => ?_)) <;> conv => whnf) | ((with_reducible show AYld _ _ _ _ _); (refine AYld.of tok mixed ?_); conv => whnf) | ((with_reducible show forceH _ _); (refine (forceH_eq _ _).mpr ?_); conv => whnf) | ((with_reducible show ACall _ _ _ _ _); (refine ACall.of_pure (by assumption) (by rfl) ?_); conv => whnf) | ((with_reducible show Exists _); (refine ⟨_, ACall.of_pure (by assumption) (by rfl) ⟨rfl, rfl⟩, ?_⟩); conv => whnf) | ((with_reducible show _ ∧ _ ∧ _); (refine ⟨by omega, by omega, ?_⟩); conv => whnf) | fail)
    rw [hb2]
    refine ⟨bcl_cells [_], by rw [hbl]; show (_ + 1) * 1 ≤ _; omega, by rw [hbl]; show _ + 1 ≤ _; omega, ?_⟩
    (conv => whnf); (repeat' first | ((with_reducible refine Box.mk ?_); conv => whnf) | ((with_reducible refine And.intro (fun _ => ?_) (fun _ => ?_)) <;> conv => whnf) | ((with_reducible show AYld _ _ _ _ _); (refine AYld.of tok mixed ?_); conv => whnf) | ((with_reducible show forceH _ _); (refine (forceH_eq _ _).mpr ?_); conv => whnf) | ((with_reducible show ACall _ _ _ _ _); (refine ACall.of_pure (by assumption) (by rfl) ?_); conv => whnf) | ((with_reducible show Exists _); (refine ⟨_, ACall.of_pure (by assumption) (by rfl) ⟨rfl, rfl⟩, ?_⟩); conv => whnf) | ((with_reducible show _ ∧ _ ∧ _); (refine ⟨by omega, by omega, ?_⟩); conv => whnf) | fail)
    refine ⟨(t + 1, l ++ [UInt8.ofNat (n / 256 ^ (K - 1 - t))]), ⟨hlt, hs2.symm⟩, by show K - (t + 1) < K - t; omega, weak_ren_to [(0, true), (1, false), (4, true)] rfl rfl ?_ ⟨rfl, rfl, congrArg (AV.int .i64) (hi1 hlt), trivial⟩⟩
    show [_, _, Ob.row _ _ (bcl (bs ++ l) ++ [byteCell _])] = [_, _, Ob.row _ _ (bcl (bs ++ (l ++ [_])))]
    rw [← List.append_assoc, bcl_app (bs ++ l)]; rfl
  · rename_i h0
    have h0 : ¬ 0 ≤ (K : Int) - 1 - (t : Int) := h0
    have : t = K := by omega
    subst this
    rw [← hall, ← hl]
    exact weak_to ⟨rfl, trivial⟩ rfl
set_option maxHeartbeats 4000000 in
theorem wNumN (n : Nat) (k : Int) : DCall P 32 [.ptr 0 0, .int .u64 n, .int .i64 k] wN (.ptr 0 0) (wR (numB n (szN k))) := by
  have h := wNum0 n k
  have hk := szN_pos k
  obtain ⟨a, b, e⟩ : ∃ a b, numB n (szN k) = a :: b := by
    cases hK : szN k with
    | zero => omega
    | succ j => exact ⟨_, _, rfl⟩
  rw [e] at h ⊢
  exact h
theorem wRawR (bs : Bs) (hbs : bs.length ≤ 1000000000) (l : Bs) (hl : l.length ≤ 1000000000) : DCall P 44 [.ptr 0 0, .sl (bcl l)] (wR bs) (.ptr 0 0) (wQ (bs ++ l)) := by
  have hbl := bcl_len l
  have hbl2 := bcl_len bs
  refine DCall.of_awp tok mixed fn44 (Nat.le_of_ble_eq_true rfl) ?_
  (conv => whnf); (repeat' first | ((with_reducible refine Box.mk ?_); conv => whnf) | ((with_reducible refine And.intro (fun _ => ?_) (fun _ => ?_)) <;> conv => whnf) | ((with_reducible show AYld _ _ _ _ _); (refine AYld.of tok mixed ?_); conv => whnf) | ((with_reducible show forceH _ _); (refine (forceH_eq _ _).mpr ?_); conv => whnf) | ((with_reducible show ACall _ _ _ _ _); (refine ACall.of_pure (by assumption) (by rfl) ?_); conv => whnf) | ((with_reducible show Exists _); (refine ⟨_, ACall.of_pure (by assumption) (by rfl) ⟨rfl, rfl⟩, ?_⟩); conv => whnf) | ((with_reducible show ∃ L, drawR L _ = true ∧ _); (refine ⟨[], by kernel_rfl, ?_⟩); conv => whnf) | ((with_reducible show _ ∧ _ ∧ _); (refine ⟨by omega, by omega, ?_⟩); conv => whnf) | fail)
  all_goals try contradiction
  refine ⟨bcl_cells l, by rw [hbl2, hbl]; show _ * 1 ≤ _; omega, by rw [hbl2, hbl]; omega, ?_⟩
  (conv => whnf); (repeat' first | ((with_reducible refine Box.mk ?_); conv => whnf) | ((with_reducible refine And.intro (fun _ => ?_) (fun _ => ?_)) <;> conv => whnf) | ((with_reducible show AYld _ _ _ _ _); (refine AYld.of tok mixed ?_); conv => whnf) | ((with_reducible show forceH _ _); (refine (forceH_eq _ _).mpr ?_); conv => whnf) | ((with_reducible show ACall _ _ _ _ _); (refine ACall.of_pure (by assumption) (by rfl) ?_); conv => whnf) | ((with_reducible show Exists _); (refine ⟨_, ACall.of_pure (by assumption) (by rfl) ⟨rfl, rfl⟩, ?_⟩); conv => whnf) | ((with_reducible show ∃ L, drawR L _ = true ∧ _); (refine ⟨[], by kernel_rfl, ?_⟩); conv => whnf) | ((with_reducible show _ ∧ _ ∧ _); (refine ⟨by omega, by omega, ?_⟩); conv => whnf) | fail)
  exact weak_to ⟨rfl, trivial⟩ (by show [_, _, Ob.row _ _ (bcl bs ++ bcl l)] = [_, _, Ob.row _ _ (bcl (bs ++ l))]; rw [bcl_app])
theorem wRawN (l : Bs) (hl : l.length ≤ 1000000000) : DCall P 44 [.ptr 0 0, .sl (bcl l)] wN (.ptr 0 0) (wR l) := by
  have hbl := bcl_len l
  refine DCall.of_awp tok mixed fn44 (Nat.le_of_ble_eq_true rfl) ?_
  (conv => whnf); (repeat' first | ((with_reducible refine Box.mk ?_); conv => whnf) | ((with_reducible refine And.intro (fun _ => ?_) (fun _ => ?_)) <;> conv => whnf) | ((with_reducible show AYld _ _ _ _ _); (refine AYld.of tok mixed ?_); conv => whnf) | ((with_reducible show forceH _ _); (refine (forceH_eq _ _).mpr ?_); conv => whnf) | ((with_reducible show ACall _ _ _ _ _); (refine ACall.of_pure (by assumption) (by rfl) ?_); conv => whnf) | ((with_reducible show Exists _); (refine ⟨_, ACall.of_pure (by assumption) (by rfl) ⟨rfl, rfl⟩, ?_⟩); conv => whnf) | ((with_reducible show ∃ L, drawR L _ = true ∧ _); (refine ⟨[], by kernel_rfl, ?_⟩); conv => whnf) | ((with_reducible show _ ∧ _ ∧ _); (refine ⟨by omega, by omega, ?_⟩); conv => whnf) | fail)
  all_goals try contradiction
  refine ⟨bcl_cells l, fun h => ?_, fun h => ⟨by rw [hbl]; show l.length * 1 ≤ _; omega, by rw [hbl]; omega, ?_⟩⟩
  · (conv => whnf); (repeat' first | ((with_reducible refine Box.mk ?_); conv => whnf) | ((with_reducible refine And.intro (fun _ => ?_) (fun _ => ?_)) <;> conv => whnf) | ((with_reducible show AYld _ _ _ _ _); (refine AYld.of tok mixed ?_); conv => whnf) | ((with_reducible show forceH _ _); (refine (forceH_eq _ _).mpr ?_); conv => whnf) | ((with_reducible show ACall _ _ _ _ _); (refine ACall.of_pure (by assumption) (by rfl) ?_); conv => whnf) | ((with_reducible show Exists _); (refine ⟨_, ACall.of_pure (by assumption) (by rfl) ⟨rfl, rfl⟩, ?_⟩); conv => whnf) | ((with_reducible show ∃ L, drawR L _ = true ∧ _); (refine ⟨[], by kernel_rfl, ?_⟩); conv => whnf) | ((with_reducible show _ ∧ _ ∧ _); (refine ⟨by omega, by omega, ?_⟩); conv => whnf) | fail)
    show Weak _ _ ⟨_, [Ob.box _ _, Ob.row _ _ (bcl l)]⟩
    rw [h]
    exact weak_nilrow (l := [(0, .ptr 0 0)]) (H' := [.box 26 [.own 1]]) _ 1 (by decide) ⟨.inl rfl, trivial⟩ (nrBox 1 _)
  · (conv => whnf); (repeat' first | ((with_reducible refine Box.mk ?_); conv => whnf) | ((with_reducible refine And.intro (fun _ => ?_) (fun _ => ?_)) <;> conv => whnf) | ((with_reducible show AYld _ _ _ _ _); (refine AYld.of tok mixed ?_); conv => whnf) | ((with_reducible show forceH _ _); (refine (forceH_eq _ _).mpr ?_); conv => whnf) | ((with_reducible show ACall _ _ _ _ _); (refine ACall.of_pure (by assumption) (by rfl) ?_); conv => whnf) | ((with_reducible show Exists _); (refine ⟨_, ACall.of_pure (by assumption) (by rfl) ⟨rfl, rfl⟩, ?_⟩); conv => whnf) | ((with_reducible show ∃ L, drawR L _ = true ∧ _); (refine ⟨[], by kernel_rfl, ?_⟩); conv => whnf) | ((with_reducible show _ ∧ _ ∧ _); (refine ⟨by omega, by omega, ?_⟩); conv => whnf) | fail)
    exact weak_to ⟨rfl, trivial⟩ rfl
theorem wBytesR (bs : Bs) (hbs : bs.length ≤ 1000000000) : DCall P 20 [.ptr 0 0] (wR bs) (.sl (bcl bs)) (wR bs) := by
  have q2 := clone_own bs hbs
  refine DCall.of_awp tok mixed fn20 (Nat.le_of_ble_eq_true rfl) ?_
  (conv => whnf); (repeat' first | ((with_reducible refine Box.mk ?_); conv => whnf) | ((with_reducible refine And.intro (fun _ => ?_) (fun _ => ?_)) <;> conv => whnf) | ((with_reducible show AYld _ _ _ _ _); (refine AYld.of tok mixed ?_); conv => whnf) | ((with_reducible show forceH _ _); (refine (forceH_eq _ _).mpr ?_); conv => whnf) | ((with_reducible show ACall _ _ _ _ _); (refine ACall.of_pure (by assumption) (by rfl) ?_); conv => whnf) | ((with_reducible show Exists _); (refine ⟨_, ACall.of_pure (by assumption) (by rfl) ⟨rfl, rfl⟩, ?_⟩); conv => whnf) | ((with_reducible show ∃ L, drawR L _ = true ∧ _); (refine ⟨[], by kernel_rfl, ?_⟩); conv => whnf) | ((with_reducible show _ ∧ _ ∧ _); (refine ⟨by omega, by omega, ?_⟩); conv => whnf) | fail)
  all_goals try contradiction
  refine aW [1] q2 rfl rfl rfl ?_
  (conv => whnf); (repeat' first | ((with_reducible refine Box.mk ?_); conv => whnf) | ((with_reducible refine And.intro (fun _ => ?_) (fun _ => ?_)) <;> conv => whnf) | ((with_reducible show AYld _ _ _ _ _); (refine AYld.of tok mixed ?_); conv => whnf) | ((with_reducible show forceH _ _); (refine (forceH_eq _ _).mpr ?_); conv => whnf) | ((with_reducible show ACall _ _ _ _ _); (refine ACall.of_pure (by assumption) (by rfl) ?_); conv => whnf) | ((with_reducible show Exists _); (refine ⟨_, ACall.of_pure (by assumption) (by rfl) ⟨rfl, rfl⟩, ?_⟩); conv => whnf) | ((with_reducible show ∃ L, drawR L _ = true ∧ _); (refine ⟨[], by kernel_rfl, ?_⟩); conv => whnf) | ((with_reducible show _ ∧ _ ∧ _); (refine ⟨by omega, by omega, ?_⟩); conv => whnf) | fail)
  exact weak_to ⟨rfl, trivial⟩ rfl
theorem wBytesN : DCall P 20 [.ptr 0 0] wN (.sl []) wN := wBytes_ok [] (by decide)
theorem wWideN (hi lo : Nat) : DCall P 58 [.ptr 0 0, .agg [.int .u64 hi, .int .u64 lo]] wN (.ptr 0 0) (wR (numB hi 8 ++ numB lo 8)) := by
  have h := wWide_ok [] (by decide) hi lo
  exact h
end Go.Proofs.YtnajpmepcffnaaaDoor
end

section
/- wire: numbers and texts read. -/
namespace Go.Proofs.YtnajpmepcffnaaaDoor
open Go.Ve

/-- The number that bytes tell. -/
def valA : Nat → Bs → Nat
  | n, [] => n
  | n, b :: r => valA (n * 256 + b.toNat) r
def valB (l : Bs) : Nat := valA 0 l
theorem valA_snoc (b : UInt8) : ∀ (l : Bs) (n : Nat), valA n (l ++ [b]) = valA n l * 256 + b.toNat
  | [], _ => rfl
  | _ :: r, _ => valA_snoc b r _
theorem valB_snoc (l : Bs) (b : UInt8) : valB (l ++ [b]) = valB l * 256 + b.toNat := valA_snoc b l 0
theorem valA_lt : ∀ (l : Bs) (n : Nat), valA n l < (n + 1) * 256 ^ l.length
  | [], n => by simp [valA]
  | b :: r, n => by
    have h := valA_lt r (n * 256 + b.toNat)
    have hb := b.toNat_lt
    have h2 : (n * 256 + b.toNat + 1) * 256 ^ r.length ≤ ((n + 1) * 256) * 256 ^ r.length := Nat.mul_le_mul_right _ (by omega)
    rw [List.length_cons, Nat.pow_succ, Nat.mul_comm (256 ^ r.length) 256, ← Nat.mul_assoc]
    exact Nat.lt_of_lt_of_le h h2
theorem valB_lt (l : Bs) : valB l < 256 ^ l.length := by
  have := valA_lt l 0
  rwa [Nat.zero_add, Nat.one_mul] at this
theorem valB_lt8 {l : Bs} (h : l.length ≤ 8) : valB l < H64 := Nat.lt_of_lt_of_le (valB_lt l) (by
  have := Nat.pow_le_pow_right (n := 256) (by decide) h
  exact this)
theorem valB_take {l : Bs} {i : Nat} {b : UInt8} (h : l[i]? = some b) : valB (l.take (i + 1)) = valB (l.take i) * 256 + b.toNat := by
  rw [List.take_add_one, h]; exact valB_snoc _ _
theorem shl_or {n : Nat} (b : UInt8) (h : n * 256 + b.toNat < H64) : bits .or .u64 (IntKind.u64.wrap ((n : Int) * 2 ^ 8)) (b.toNat : Int) = ((n * 256 + b.toNat : Nat) : Int) := by
  have hb := b.toNat_lt
  have h1 : n * 256 < H64 := Nat.lt_of_le_of_lt (Nat.le_add_right _ _) h
  have h2 : b.toNat < H64 := Nat.lt_of_le_of_lt (Nat.le_add_left _ _) h
  have e1 : IntKind.u64.wrap ((n : Int) * 2 ^ 8) = ((n * 256 : Nat) : Int) := by
    have : (n : Int) * 2 ^ 8 = ((n * 256 : Nat) : Int) := by rw [Int.natCast_mul]; rfl
    rw [this, wrap_nat_u64, Nat.mod_eq_of_lt h1]
  rw [e1, u64_or_nat _ _ h1 h2]
  have := Nat.two_pow_add_eq_or_of_lt (i := 8) (b := b.toNat) hb n
  rw [Nat.mul_comm n 256]
  exact congrArg Nat.cast this.symm
theorem raw_len (n : Int) (bs : Bs) (e : Int) : (rawF n bs e).1.length ≤ n.toNat := by
  unfold rawF
  split
  · exact Nat.zero_le _
  · split
    · exact Nat.zero_le _
    · show (bs.take _).length ≤ _
      rw [List.length_take]; omega
theorem raw_rest (n : Int) (bs : Bs) (e : Int) : (rawF n bs e).2.1.length ≤ bs.length := by
  unfold rawF
  split
  · exact Nat.le_refl _
  · split
    · exact Nat.le_refl _
    · show (bs.drop _).length ≤ _
      rw [List.length_drop]; omega
theorem bcl_get {l : Bs} {i : Nat} {b : UInt8} (h : l[i]? = some b) : (bcl l)[(i : Int).toNat]? = some (byteCell b) := by
  rw [Int.toNat_natCast, bcl, List.getElem?_map, h]; rfl
theorem wrap64_u8 (b : UInt8) : IntKind.u64.wrap (b.toNat : Int) = (b.toNat : Int) := by
  have hb := b.toNat_lt
  exact wrap_u64 (by omega) (by omega)
set_option maxHeartbeats 4000000 in
theorem rNum_ok (bs : Bs) (e k : Int) (hbs : bs.length ≤ 1000000000) : DCall P 35 [.ptr 0 0, .int .i64 k] (rH bs e) (.int .u64 (valB (rawF (szN k : Nat) bs e).1 : Nat)) (rH (rawF (szN k : Nat) bs e).2.1 (rawF (szN k : Nat) bs e).2.2) := by
  have q1 := wSize_ok k
  have hk := szN_pos k
  have q2 := rRaw_ok bs e (szN k : Nat) hbs
  have hl := raw_len (szN k : Nat) bs e
  generalize (rawF (szN k : Nat) bs e).2.1 = bs' at *
  generalize (rawF (szN k : Nat) bs e).2.2 = e' at *
  generalize (rawF (szN k : Nat) bs e).1 = x at *
  have hbl := bcl_len x
  refine DCall.of_awp tok mixed fn35 (Nat.le_of_ble_eq_true rfl) ?_
  (conv => whnf); (repeat' first | ((with_reducible refine Box.mk ?_); conv => whnf) | ((with_reducible refine And.intro (fun _ => ?_) (fun _ => ?_)) <;> conv => whnf) | ((with_reducible show AYld _ _ _ _ _); (refine AYld.of tok mixed ?_); conv => whnf) | ((with_reducible show forceH _ _); (refine (forceH_eq _ _).mpr ?_); conv => whnf) | ((with_reducible show ACall _ _ _ _ _); (refine ACall.of_pure (by assumption) (by rfl) ?_); conv => whnf) | ((with_reducible show Exists _); (refine ⟨_, ACall.of_pure (by assumption) (by rfl) ⟨rfl, rfl⟩, ?_⟩); conv => whnf) | ((with_reducible show ∃ L, drawR L _ = true ∧ _); (refine ⟨[], by kernel_rfl, ?_⟩); conv => whnf) | ((with_reducible show _ ∧ _ ∧ _); (refine ⟨by omega, by omega, ?_⟩); conv => whnf) | fail)
  refine aW [0] q2 rfl rfl rfl ?_
  (conv => whnf); (repeat' first | ((with_reducible refine Box.mk ?_); conv => whnf) | ((with_reducible refine And.intro (fun _ => ?_) (fun _ => ?_)) <;> conv => whnf) | ((with_reducible show AYld _ _ _ _ _); (refine AYld.of tok mixed ?_); conv => whnf) | ((with_reducible show forceH _ _); (refine (forceH_eq _ _).mpr ?_); conv => whnf) | ((with_reducible show ACall _ _ _ _ _); (refine ACall.of_pure (by assumption) (by rfl) ?_); conv => whnf) | ((with_reducible show Exists _); (refine ⟨_, ACall.of_pure (by assumption) (by rfl) ⟨rfl, rfl⟩, ?_⟩); conv => whnf) | ((with_reducible show ∃ L, drawR L _ = true ∧ _); (refine ⟨[], by kernel_rfl, ?_⟩); conv => whnf) | ((with_reducible show _ ∧ _ ∧ _); (refine ⟨by omega, by omega, ?_⟩); conv => whnf) | fail)
  refine aloop (fun i : Nat => i ≤ x.length) (fun i => ⟨envL [(5, .int .u64 (valB (x.take i) : Nat)), (11, .sl (bcl x)), (12, .int .i64 (bcl x).length), (13, .int .i64 i)], rH bs' e'⟩) (fun i => x.length - i) 0 (Nat.zero_le _) (weak_to ⟨rfl, rfl, rfl, rfl, trivial⟩ rfl) ?_
  intro i hi
  (conv => whnf); (repeat' first | ((with_reducible refine Box.mk ?_); conv => whnf) | ((with_reducible refine And.intro (fun _ => ?_) (fun _ => ?_)) <;> conv => whnf) | ((with_reducible show AYld _ _ _ _ _); (refine AYld.of tok mixed ?_); conv => whnf) | ((with_reducible show forceH _ _); (refine (forceH_eq _ _).mpr ?_); conv => whnf) | ((with_reducible show ACall _ _ _ _ _); (refine ACall.of_pure (by assumption) (by rfl) ?_); conv => whnf) | ((with_reducible show Exists _); (refine ⟨_, ACall.of_pure (by assumption) (by rfl) ⟨rfl, rfl⟩, ?_⟩); conv => whnf) | ((with_reducible show ∃ L, drawR L _ = true ∧ _); (refine ⟨[], by kernel_rfl, ?_⟩); conv => whnf) | ((with_reducible show _ ∧ _ ∧ _); (refine ⟨by omega, by omega, ?_⟩); conv => whnf) | fail)
  · rename_i h
    have hil : i < x.length := by omega
    have hg := List.getElem?_eq_getElem hil
    have hv := valB_take hg
    have hlt : valB (x.take i) * 256 + (x[i]).toNat < H64 := by rw [← hv]; exact valB_lt8 (by rw [List.length_take]; omega)
    have hc := bcl_get hg
    generalize x[i] = c at *
    refine ⟨by omega, _, hc, rfl, ?_⟩
    (conv => whnf); (repeat' first | ((with_reducible refine Box.mk ?_); conv => whnf) | ((with_reducible refine And.intro (fun _ => ?_) (fun _ => ?_)) <;> conv => whnf) | ((with_reducible show AYld _ _ _ _ _); (refine AYld.of tok mixed ?_); conv => whnf) | ((with_reducible show forceH _ _); (refine (forceH_eq _ _).mpr ?_); conv => whnf) | ((with_reducible show ACall _ _ _ _ _); (refine ACall.of_pure (by assumption) (by rfl) ?_); conv => whnf) | ((with_reducible show Exists _); (refine ⟨_, ACall.of_pure (by assumption) (by rfl) ⟨rfl, rfl⟩, ?_⟩); conv => whnf) | ((with_reducible show ∃ L, drawR L _ = true ∧ _); (refine ⟨[], by kernel_rfl, ?_⟩); conv => whnf) | ((with_reducible show _ ∧ _ ∧ _); (refine ⟨by omega, by omega, ?_⟩); conv => whnf) | fail)
    refine ⟨by decide, ?_⟩
    (conv => whnf); (repeat' first | ((with_reducible refine Box.mk ?_); conv => whnf) | ((with_reducible refine And.intro (fun _ => ?_) (fun _ => ?_)) <;> conv => whnf) | ((with_reducible show AYld _ _ _ _ _); (refine AYld.of tok mixed ?_); conv => whnf) | ((with_reducible show forceH _ _); (refine (forceH_eq _ _).mpr ?_); conv => whnf) | ((with_reducible show ACall _ _ _ _ _); (refine ACall.of_pure (by assumption) (by rfl) ?_); conv => whnf) | ((with_reducible show Exists _); (refine ⟨_, ACall.of_pure (by assumption) (by rfl) ⟨rfl, rfl⟩, ?_⟩); conv => whnf) | ((with_reducible show ∃ L, drawR L _ = true ∧ _); (refine ⟨[], by kernel_rfl, ?_⟩); conv => whnf) | ((with_reducible show _ ∧ _ ∧ _); (refine ⟨by omega, by omega, ?_⟩); conv => whnf) | fail)
    refine ⟨i + 1, hil, by omega, weak_to ⟨congrArg (AV.int .u64) ?_, rfl, rfl, wrap_nat (m := 1) (by omega), trivial⟩ rfl⟩
    rw [hv, wrap64_u8]
    exact shl_or c hlt
  · rename_i h
    exact weak_to ⟨congrArg (AV.int .u64) (by show ((valB (x.take i) : Nat) : Int) = _; rw [List.take_of_length_le (by omega)]), trivial⟩ rfl
def wc (N : Nat) : List AV := [.int .u64 ((N / H64 : Nat) : Int), .int .u64 ((N % H64 : Nat) : Int)]
theorem valB_lt16 {l : Bs} (h : l.length ≤ 16) : valB l < 2 ^ 128 := Nat.lt_of_lt_of_le (valB_lt l) (by
  have := Nat.pow_le_pow_right (n := 256) (by decide) h
  rwa [show (256 : Nat) ^ 16 = 2 ^ 128 by rw [show (256 : Nat) = 2 ^ 8 from rfl, ← Nat.pow_mul]] at this)
theorem left8 {n c : Nat} (h : n * 256 + c < 2 ^ 128) (hc : c < 256) : leftN n 8 ||| c = n * 256 + c := by
  have e : leftN n 8 = n * 256 := by
    unfold leftN
    rw [if_neg (by omega), if_neg (by omega)]
    exact Nat.mod_eq_of_lt (Nat.lt_of_le_of_lt (Nat.le_add_right _ c) h)
  rw [e, Nat.mul_comm]
  exact (Nat.two_pow_add_eq_or_of_lt (i := 8) (b := c) hc n).symm
/-- A text read: its bytes; what is left; the fault. -/
def textF (most : Int) (bs : Bs) (e : Int) : Bs × Bs × Int :=
  rawF (valB (rawF 2 bs e).1 : Nat) (rawF 2 bs e).2.1 (mustE (rawF 2 bs e).2.2 (decide (((valB (rawF 2 bs e).1 : Nat) : Int) ≤ most)))
end Go.Proofs.YtnajpmepcffnaaaDoor
end

section
/- wire, the document's answer. -/
namespace Go.Proofs.YtnajpmepcffnaaaDoor
open Go.Ve

theorem xSize_ok (k : Int) : PCall P 53 [.int .i64 k] (.int .i64 (szN k : Nat)) := by
  refine PCall.of_awp tok mixed fn53 (Nat.le_of_ble_eq_true rfl) ?_
  (conv => whnf); (repeat' first | ((with_reducible refine Box.mk ?_); conv => whnf) | ((with_reducible refine And.intro (fun _ => ?_) (fun _ => ?_)) <;> conv => whnf) | ((with_reducible show AYld _ _ _ _ _); (refine AYld.of tok mixed ?_); conv => whnf) | ((with_reducible show forceH _ _); (refine (forceH_eq _ _).mpr ?_); conv => whnf) | ((with_reducible show ACall _ _ _ _ _); (refine ACall.of_pure (by assumption) (by rfl) ?_); conv => whnf) | ((with_reducible show Exists _); (refine ⟨_, ACall.of_pure (by assumption) (by rfl) ⟨rfl, rfl⟩, ?_⟩); conv => whnf) | ((with_reducible show ∃ L, drawR L _ = true ∧ _); (refine ⟨[], by kernel_rfl, ?_⟩); conv => whnf) | ((with_reducible show _ ∧ _ ∧ _); (refine ⟨by omega, by omega, ?_⟩); conv => whnf) | fail)
  all_goals exact res1_eq (congrArg (AV.int .i64) (by unfold szN; omega))
theorem rem_byte (n : Nat) : IntKind.u8.wrap (Int.tmod (n : Int) 256) = ((UInt8.ofNat n).toNat : Int) := by
  have : Int.tmod (n : Int) 256 = ((n % 256 : Nat) : Int) := by rw [Int.tmod_eq_emod_of_nonneg (by omega)]; rfl
  rw [this, u8_of]
  show (((n % 256) % 256 : Nat) : Int) = ((n % 256 : Nat) : Int)
  rw [Nat.mod_mod]
theorem quo_byte (n : Nat) (h : n < H64) : IntKind.u64.wrap (Int.tdiv (n : Int) 256) = ((n / 256 : Nat) : Int) := by
  have : Int.tdiv (n : Int) 256 = ((n / 256 : Nat) : Int) := by rw [Int.tdiv_eq_ediv_of_nonneg (by omega)]; rfl
  rw [this, wrap_nat_u64, Nat.mod_eq_of_lt (Nat.lt_of_le_of_lt (Nat.div_le_self _ _) h)]
/-- The row of a number that is half written: zeros, then the last i bytes. -/
def halfR (n K i : Nat) : List (List AV) := List.replicate (K - i) [.int .u8 0] ++ bcl (numB n i)
theorem halfR_set {n K i : Nat} (h : i < K) : (halfR n K i).set (K - 1 - i) (byteCell (UInt8.ofNat (n / 256 ^ i))) = halfR n K (i + 1) := by
  unfold halfR
  have e : List.replicate (K - i) [AV.int .u8 0] = List.replicate (K - (i + 1)) [AV.int .u8 0] ++ [[AV.int .u8 0]] := by
    rw [show K - i = K - (i + 1) + 1 by omega, List.replicate_succ']
  rw [e, List.append_assoc, List.set_append_right _ _ (by rw [List.length_replicate]; omega), List.length_replicate]
  rw [show K - 1 - i - (K - (i + 1)) = 0 by omega]
  rfl
theorem halfR_len (n K i : Nat) (h : i ≤ K) : (halfR n K i).length = K := by
  unfold halfR
  rw [List.length_append, List.length_replicate, bcl_len, numB_len]; omega
theorem halfR_get (n K i j : Nat) (h : i ≤ K) (hj : j < K) : ∃ b : UInt8, (halfR n K i)[j]? = some (byteCell b) := by
  unfold halfR
  by_cases hc : j < K - i
  · exact ⟨0, by rw [List.getElem?_append_left (by rw [List.length_replicate]; exact hc), List.getElem?_replicate, if_pos hc]; rfl⟩
  · rw [List.getElem?_append_right (by rw [List.length_replicate]; omega), List.length_replicate]
    have hl := numB_len n i
    exact ⟨(numB n i)[j - (K - i)]'(by omega), by rw [bcl, List.getElem?_map, List.getElem?_eq_getElem (by omega)]; rfl⟩
set_option maxHeartbeats 4000000 in
theorem xNum_own (n : Nat) (hn : n < H64) (k : Int) : DCall P 33 [.int .u64 n, .int .i64 k] [] (.own 0) [.row 5 1 (bcl (numB n (szN k)))] := by
  have q1 := xSize_ok k
  have hk := szN_pos k
  generalize szN k = K at *
  refine DCall.of_awp tok mixed fn33 (Nat.le_of_ble_eq_true rfl) ?_
  (conv => whnf); (repeat' first | ((with_reducible refine Box.mk ?_); conv => whnf) | ((with_reducible refine And.intro (fun _ => ?_) (fun _ => ?_)) <;> conv => whnf) | ((with_reducible show AYld _ _ _ _ _); (refine AYld.of tok mixed ?_); conv => whnf) | ((with_reducible show forceH _ _); (refine (forceH_eq _ _).mpr ?_); conv => whnf) | ((with_reducible show ACall _ _ _ _ _); (refine ACall.of_pure (by assumption) (by rfl) ?_); conv => whnf) | ((with_reducible show Exists _); (refine ⟨_, ACall.of_pure (by assumption) (by rfl) ⟨rfl, rfl⟩, ?_⟩); conv => whnf) | ((with_reducible show ∃ L, drawR L _ = true ∧ _); (refine ⟨[], by kernel_rfl, ?_⟩); conv => whnf) | ((with_reducible show _ ∧ _ ∧ _); (refine ⟨by omega, by omega, ?_⟩); conv => whnf) | fail)
  refine ⟨by show (K : Int) * ((1 : Nat) : Int) ≤ _; omega, by omega, ?_⟩
  (conv => whnf); (repeat' first | ((with_reducible refine Box.mk ?_); conv => whnf) | ((with_reducible refine And.intro (fun _ => ?_) (fun _ => ?_)) <;> conv => whnf) | ((with_reducible show AYld _ _ _ _ _); (refine AYld.of tok mixed ?_); conv => whnf) | ((with_reducible show forceH _ _); (refine (forceH_eq _ _).mpr ?_); conv => whnf) | ((with_reducible show ACall _ _ _ _ _); (refine ACall.of_pure (by assumption) (by rfl) ?_); conv => whnf) | ((with_reducible show Exists _); (refine ⟨_, ACall.of_pure (by assumption) (by rfl) ⟨rfl, rfl⟩, ?_⟩); conv => whnf) | ((with_reducible show ∃ L, drawR L _ = true ∧ _); (refine ⟨[], by kernel_rfl, ?_⟩); conv => whnf) | ((with_reducible show _ ∧ _ ∧ _); (refine ⟨by omega, by omega, ?_⟩); conv => whnf) | fail)
  refine aloop (fun i : Nat => i ≤ K) (fun i => ⟨envL [(0, .int .u64 (n / 256 ^ i : Nat)), (5, .int .i64 K), (6, .own 0), (7, .int .i64 i)], [.row 5 1 (halfR n K i)]⟩) (fun i => K - i) 0 (Nat.zero_le _)
    (weak_to ⟨congrArg (AV.int .u64) (by rw [Nat.pow_zero, Nat.div_one]), rfl, rfl, rfl, trivial⟩ (by unfold halfR; show [Ob.row _ _ (List.replicate ((K : Nat) : Int).toNat [AV.int .u8 0])] = [Ob.row _ _ (List.replicate (K - 0) [AV.int .u8 0] ++ [])]; rw [List.append_nil, Int.toNat_natCast]; rfl)) ?_
  intro i hi
  have hm : n / 256 ^ i < H64 := Nat.lt_of_le_of_lt (Nat.div_le_self _ _) hn
  have hr := rem_byte (n / 256 ^ i)
  have hq := quo_byte (n / 256 ^ i) hm
  rw [Nat.div_div_eq_div_mul, ← Nat.pow_succ] at hq
  have hlen := halfR_len n K i hi
  have e1 : i < K → IntKind.i64.wrap (IntKind.i64.wrap ((K : Int) - 1) - (i : Int)) = ((K - 1 - i : Nat) : Int) := fun h => by
    rw [wrap_i64 (n := (K : Int) - 1) (by omega) (by omega), wrap_i64 (by omega) (by omega)]; omega
  (conv => whnf); (repeat' first | ((with_reducible refine Box.mk ?_); conv => whnf) | ((with_reducible refine And.intro (fun _ => ?_) (fun _ => ?_)) <;> conv => whnf) | ((with_reducible show AYld _ _ _ _ _); (refine AYld.of tok mixed ?_); conv => whnf) | ((with_reducible show forceH _ _); (refine (forceH_eq _ _).mpr ?_); conv => whnf) | ((with_reducible show ACall _ _ _ _ _); (refine ACall.of_pure (by assumption) (by rfl) ?_); conv => whnf) | ((with_reducible show Exists _); (refine ⟨_, ACall.of_pure (by assumption) (by rfl) ⟨rfl, rfl⟩, ?_⟩); conv => whnf) | ((with_reducible show ∃ L, drawR L _ = true ∧ _); (refine ⟨[], by kernel_rfl, ?_⟩); conv => whnf) | ((with_reducible show _ ∧ _ ∧ _); (refine ⟨by omega, by omega, ?_⟩); conv => whnf) | fail)
  · rename_i h
    have hil : i < K := by omega
    obtain ⟨b0, hb0⟩ := halfR_get n K i (K - 1 - i) hi (by omega)
    have hs := halfR_set (n := n) hil
    refine ⟨by decide, ?_⟩
    (conv => whnf); (repeat' first | ((with_reducible refine Box.mk ?_); conv => whnf) | ((with_reducible refine And.intro (fun _ => ?_) (fun _ => ?_)) <;> conv => whnf) | ((with_reducible show AYld _ _ _ _ _); (refine AYld.of tok mixed ?_); conv => whnf) | ((with_reducible show forceH _ _); (refine (forceH_eq _ _).mpr ?_); conv => whnf) | ((with_reducible show ACall _ _ _ _ _); (refine ACall.of_pure (by assumption) (by rfl) ?_); conv => whnf) | ((with_reducible show Exists _); (refine ⟨_, ACall.of_pure (by assumption) (by rfl) ⟨rfl, rfl⟩, ?_⟩); conv => whnf) | ((with_reducible show ∃ L, drawR L _ = true ∧ _); (refine ⟨[], by kernel_rfl, ?_⟩); conv => whnf) | ((with_reducible show _ ∧ _ ∧ _); (refine ⟨by omega, by omega, ?_⟩); conv => whnf) | fail)
    rw [e1 hil]
    refine ⟨_, hb0, ?_⟩
    (conv => whnf); (repeat' first | ((with_reducible refine Box.mk ?_); conv => whnf) | ((with_reducible refine And.intro (fun _ => ?_) (fun _ => ?_)) <;> conv => whnf) | ((with_reducible show AYld _ _ _ _ _); (refine AYld.of tok mixed ?_); conv => whnf) | ((with_reducible show forceH _ _); (refine (forceH_eq _ _).mpr ?_); conv => whnf) | ((with_reducible show ACall _ _ _ _ _); (refine ACall.of_pure (by assumption) (by rfl) ?_); conv => whnf) | ((with_reducible show Exists _); (refine ⟨_, ACall.of_pure (by assumption) (by rfl) ⟨rfl, rfl⟩, ?_⟩); conv => whnf) | ((with_reducible show ∃ L, drawR L _ = true ∧ _); (refine ⟨[], by kernel_rfl, ?_⟩); conv => whnf) | ((with_reducible show _ ∧ _ ∧ _); (refine ⟨by omega, by omega, ?_⟩); conv => whnf) | fail)
    refine ⟨by decide, ?_⟩
    (conv => whnf); (repeat' first | ((with_reducible refine Box.mk ?_); conv => whnf) | ((with_reducible refine And.intro (fun _ => ?_) (fun _ => ?_)) <;> conv => whnf) | ((with_reducible show AYld _ _ _ _ _); (refine AYld.of tok mixed ?_); conv => whnf) | ((with_reducible show forceH _ _); (refine (forceH_eq _ _).mpr ?_); conv => whnf) | ((with_reducible show ACall _ _ _ _ _); (refine ACall.of_pure (by assumption) (by rfl) ?_); conv => whnf) | ((with_reducible show Exists _); (refine ⟨_, ACall.of_pure (by assumption) (by rfl) ⟨rfl, rfl⟩, ?_⟩); conv => whnf) | ((with_reducible show ∃ L, drawR L _ = true ∧ _); (refine ⟨[], by kernel_rfl, ?_⟩); conv => whnf) | ((with_reducible show _ ∧ _ ∧ _); (refine ⟨by omega, by omega, ?_⟩); conv => whnf) | fail)
    refine ⟨i + 1, hil, by show K - (i + 1) < K - i; omega, weak_to ⟨congrArg (AV.int .u64) hq, rfl, rfl, wrap_nat (m := 1) (by omega), trivial⟩ ?_⟩
    rw [← hs, ← show [AV.int .u8 (IntKind.u8.wrap (Int.tmod ((n / 256 ^ i : Nat) : Int) 256))] = byteCell (UInt8.ofNat (n / 256 ^ i)) by rw [hr]; rfl]
    rfl
  · rename_i h
    have : i = K := by omega
    subst this
    refine weak_to ⟨rfl, trivial⟩ ?_
    unfold halfR
    rw [Nat.sub_self]; rfl
theorem xNum_ok (n : Nat) (hn : n < H64) (k : Int) : DCall P 33 [.int .u64 n, .int .i64 k] [] (.sl (bcl (numB n (szN k)))) [] :=
  (xNum_own n hn k).post fun r H' h => by
    obtain ⟨rfl, rfl⟩ := h
    exact ⟨_, _, weak_cr 0 [] rfl rfl rfl rfl rfl, rfl, rfl⟩
end Go.Proofs.YtnajpmepcffnaaaDoor
end

section
/- wire, the document's answer: the reader. -/
namespace Go.Proofs.YtnajpmepcffnaaaDoor
open Go.Ve

/-- The document's reader: what is read, what is left, the fault. -/
def xH (pre bs : Bs) (e : Int) : Hp := [.box 39 [.sl (bcl (pre ++ bs)), .int .i64 pre.length, .int .i64 e]]
theorem xMust_ok (pre bs : Bs) (e : Int) (b : Bool) : DCall P 39 [.ptr 0 0, .bool b] (xH pre bs e) (mkRes []) (xH pre bs (mustE e b)) := by
  cases b
  all_goals (
    refine DCall.of_awp tok mixed fn39 (Nat.le_of_ble_eq_true rfl) ?_
    (conv => whnf); (repeat' first | ((with_reducible refine Box.mk ?_); conv => whnf) | ((with_reducible refine And.intro (fun _ => ?_) (fun _ => ?_)) <;> conv => whnf) | ((with_reducible show AYld _ _ _ _ _); (refine AYld.of tok mixed ?_); conv => whnf) | ((with_reducible show forceH _ _); (refine (forceH_eq _ _).mpr ?_); conv => whnf) | ((with_reducible show ACall _ _ _ _ _); (refine ACall.of_pure (by assumption) (by rfl) ?_); conv => whnf) | ((with_reducible show Exists _); (refine ⟨_, ACall.of_pure (by assumption) (by rfl) ⟨rfl, rfl⟩, ?_⟩); conv => whnf) | ((with_reducible show ∃ L, drawR L _ = true ∧ _); (refine ⟨[], by kernel_rfl, ?_⟩); conv => whnf) | ((with_reducible show _ ∧ _ ∧ _); (refine ⟨by omega, by omega, ?_⟩); conv => whnf) | fail))
  · rename_i h
    exact weak_to ⟨rfl, trivial⟩ (by rw [mustE, if_pos ⟨h, rfl⟩]; rfl)
  · rename_i h
    exact weak_to ⟨rfl, trivial⟩ (by rw [mustE, if_neg (fun hc => h hc.1)]; rfl)
  · exact weak_to ⟨rfl, trivial⟩ (by rw [mustE, if_neg (fun hc => by cases hc.2)]; rfl)
  · exact weak_to ⟨rfl, trivial⟩ (by rw [mustE, if_neg (fun hc => by cases hc.2)]; rfl)
theorem xLeft_ok (pre bs : Bs) (e : Int) (hl : (pre ++ bs).length ≤ 1000000000) : DCall P 41 [.ptr 0 0] (xH pre bs e) (.int .i64 (restN bs e)) (xH pre bs e) := by
  have hbl := bcl_len (pre ++ bs)
  rw [List.length_append] at hbl hl
  refine DCall.of_awp tok mixed fn41 (Nat.le_of_ble_eq_true rfl) ?_
  (conv => whnf); (repeat' first | ((with_reducible refine Box.mk ?_); conv => whnf) | ((with_reducible refine And.intro (fun _ => ?_) (fun _ => ?_)) <;> conv => whnf) | ((with_reducible show AYld _ _ _ _ _); (refine AYld.of tok mixed ?_); conv => whnf) | ((with_reducible show forceH _ _); (refine (forceH_eq _ _).mpr ?_); conv => whnf) | ((with_reducible show ACall _ _ _ _ _); (refine ACall.of_pure (by assumption) (by rfl) ?_); conv => whnf) | ((with_reducible show Exists _); (refine ⟨_, ACall.of_pure (by assumption) (by rfl) ⟨rfl, rfl⟩, ?_⟩); conv => whnf) | ((with_reducible show ∃ L, drawR L _ = true ∧ _); (refine ⟨[], by kernel_rfl, ?_⟩); conv => whnf) | ((with_reducible show _ ∧ _ ∧ _); (refine ⟨by omega, by omega, ?_⟩); conv => whnf) | fail)
  · rename_i h
    exact weak_to ⟨congrArg (AV.int .i64) (by rw [restN, if_pos h, hbl, wrap_i64 (by omega) (by omega)]; omega), trivial⟩ rfl
  · rename_i h
    exact weak_to ⟨congrArg (AV.int .i64) (by rw [restN, if_neg h]), trivial⟩ rfl
theorem xEnd_ok (pre bs : Bs) (e : Int) (hl : (pre ++ bs).length ≤ 1000000000) : DCall P 18 [.ptr 0 0] (xH pre bs e) (.int .i64 (endN bs e)) (xH pre bs e) := by
  have q2 := xLeft_ok pre bs e hl
  refine DCall.of_awp tok mixed fn18 (Nat.le_of_ble_eq_true rfl) ?_
  (conv => whnf); (repeat' first | ((with_reducible refine Box.mk ?_); conv => whnf) | ((with_reducible refine And.intro (fun _ => ?_) (fun _ => ?_)) <;> conv => whnf) | ((with_reducible show AYld _ _ _ _ _); (refine AYld.of tok mixed ?_); conv => whnf) | ((with_reducible show forceH _ _); (refine (forceH_eq _ _).mpr ?_); conv => whnf) | ((with_reducible show ACall _ _ _ _ _); (refine ACall.of_pure (by assumption) (by rfl) ?_); conv => whnf) | ((with_reducible show Exists _); (refine ⟨_, ACall.of_pure (by assumption) (by rfl) ⟨rfl, rfl⟩, ?_⟩); conv => whnf) | ((with_reducible show ∃ L, drawR L _ = true ∧ _); (refine ⟨[], by kernel_rfl, ?_⟩); conv => whnf) | ((with_reducible show _ ∧ _ ∧ _); (refine ⟨by omega, by omega, ?_⟩); conv => whnf) | fail)
  refine aW [0] q2 rfl rfl rfl ?_
  (conv => whnf); (repeat' first | ((with_reducible refine Box.mk ?_); conv => whnf) | ((with_reducible refine And.intro (fun _ => ?_) (fun _ => ?_)) <;> conv => whnf) | ((with_reducible show AYld _ _ _ _ _); (refine AYld.of tok mixed ?_); conv => whnf) | ((with_reducible show forceH _ _); (refine (forceH_eq _ _).mpr ?_); conv => whnf) | ((with_reducible show ACall _ _ _ _ _); (refine ACall.of_pure (by assumption) (by rfl) ?_); conv => whnf) | ((with_reducible show Exists _); (refine ⟨_, ACall.of_pure (by assumption) (by rfl) ⟨rfl, rfl⟩, ?_⟩); conv => whnf) | ((with_reducible show ∃ L, drawR L _ = true ∧ _); (refine ⟨[], by kernel_rfl, ?_⟩); conv => whnf) | ((with_reducible show _ ∧ _ ∧ _); (refine ⟨by omega, by omega, ?_⟩); conv => whnf) | fail)
  · rename_i h
    exact weak_to ⟨congrArg (AV.int .i64) (by rw [endN, if_pos h]), trivial⟩ rfl
  · rename_i h
    exact weak_to ⟨congrArg (AV.int .i64) (by rw [endN, if_neg h]), trivial⟩ rfl
theorem raw_app (n : Int) (bs : Bs) (e : Int) : (rawF n bs e).1 ++ (rawF n bs e).2.1 = bs := by
  unfold rawF
  split
  · rfl
  · split
    · rfl
    · exact List.take_append_drop _ _
set_option maxHeartbeats 4000000 in
theorem xRaw_ok (pre bs : Bs) (e n : Int) (hl : (pre ++ bs).length ≤ 1000000000) : DCall P 43 [.ptr 0 0, .int .i64 n] (xH pre bs e) (.sl (bcl (rawF n bs e).1)) (xH (pre ++ (rawF n bs e).1) (rawF n bs e).2.1 (rawF n bs e).2.2) := by
  have q1 := fun b => xMust_ok pre bs e b
  have hbl := bcl_len (pre ++ bs)
  rw [List.length_append] at hbl hl
  have hw : IntKind.i64.wrap (((bcl (pre ++ bs)).length : Int) - (pre.length : Int)) = (bs.length : Int) := by rw [hbl, wrap_i64 (by omega) (by omega)]; omega
  by_cases h0 : mustE e (decide (0 ≤ n)) = 0
  · have hn : 0 ≤ n := by
      by_cases hc : 0 ≤ n
      · exact hc
      · rw [decide_eq_false hc] at h0
        unfold mustE at h0
        split at h0
        · cases h0
        · rename_i h1; exact absurd ⟨h0, rfl⟩ h1
    rw [decide_eq_true hn] at h0
    have q1' := q1 true
    rw [h0] at q1'
    by_cases hlt : (bs.length : Int) < n
    · have e1 : rawF n bs e = ([], bs, 8) := by unfold rawF; rw [decide_eq_true hn, if_neg (fun h => h h0), if_pos hlt]
      rw [e1]
      refine DCall.of_awp tok mixed fn43 (Nat.le_of_ble_eq_true rfl) ?_
      (conv => whnf); (repeat' first | ((with_reducible refine Box.mk ?_); conv => whnf) | ((with_reducible refine And.intro (fun _ => ?_) (fun _ => ?_)) <;> conv => whnf) | ((with_reducible show AYld _ _ _ _ _); (refine AYld.of tok mixed ?_); conv => whnf) | ((with_reducible show forceH _ _); (refine (forceH_eq _ _).mpr ?_); conv => whnf) | ((with_reducible show ACall _ _ _ _ _); (refine ACall.of_pure (by assumption) (by rfl) ?_); conv => whnf) | ((with_reducible show Exists _); (refine ⟨_, ACall.of_pure (by assumption) (by rfl) ⟨rfl, rfl⟩, ?_⟩); conv => whnf) | ((with_reducible show ∃ L, drawR L _ = true ∧ _); (refine ⟨[], by kernel_rfl, ?_⟩); conv => whnf) | ((with_reducible show _ ∧ _ ∧ _); (refine ⟨by omega, by omega, ?_⟩); conv => whnf) | fail)
      · refine aW [0] q1' rfl rfl rfl ?_
        (conv => whnf); (repeat' first | ((with_reducible refine Box.mk ?_); conv => whnf) | ((with_reducible refine And.intro (fun _ => ?_) (fun _ => ?_)) <;> conv => whnf) | ((with_reducible show AYld _ _ _ _ _); (refine AYld.of tok mixed ?_); conv => whnf) | ((with_reducible show forceH _ _); (refine (forceH_eq _ _).mpr ?_); conv => whnf) | ((with_reducible show ACall _ _ _ _ _); (refine ACall.of_pure (by assumption) (by rfl) ?_); conv => whnf) | ((with_reducible show Exists _); (refine ⟨_, ACall.of_pure (by assumption) (by rfl) ⟨rfl, rfl⟩, ?_⟩); conv => whnf) | ((with_reducible show ∃ L, drawR L _ = true ∧ _); (refine ⟨[], by kernel_rfl, ?_⟩); conv => whnf) | ((with_reducible show _ ∧ _ ∧ _); (refine ⟨by omega, by omega, ?_⟩); conv => whnf) | fail)
        all_goals try contradiction
        all_goals try (exfalso; omega)
        exact weak_le ⟨.inr ⟨rfl, rfl⟩, trivial⟩ (by rw [List.append_nil]; rfl)
      · contradiction
    · obtain ⟨k, rfl⟩ : ∃ k : Nat, n = k := ⟨n.toNat, by omega⟩
      have e1 : rawF k bs e = (bs.take k, bs.drop k, 0) := by unfold rawF; rw [decide_eq_true hn, if_neg (fun h => h h0), if_neg hlt]; rfl
      have hk : k ≤ bs.length := by omega
      rw [e1]
      refine DCall.of_awp tok mixed fn43 (Nat.le_of_ble_eq_true rfl) ?_
      (conv => whnf); (repeat' first | ((with_reducible refine Box.mk ?_); conv => whnf) | ((with_reducible refine And.intro (fun _ => ?_) (fun _ => ?_)) <;> conv => whnf) | ((with_reducible show AYld _ _ _ _ _); (refine AYld.of tok mixed ?_); conv => whnf) | ((with_reducible show forceH _ _); (refine (forceH_eq _ _).mpr ?_); conv => whnf) | ((with_reducible show ACall _ _ _ _ _); (refine ACall.of_pure (by assumption) (by rfl) ?_); conv => whnf) | ((with_reducible show Exists _); (refine ⟨_, ACall.of_pure (by assumption) (by rfl) ⟨rfl, rfl⟩, ?_⟩); conv => whnf) | ((with_reducible show ∃ L, drawR L _ = true ∧ _); (refine ⟨[], by kernel_rfl, ?_⟩); conv => whnf) | ((with_reducible show _ ∧ _ ∧ _); (refine ⟨by omega, by omega, ?_⟩); conv => whnf) | fail)
      · refine aW [0] q1' rfl rfl rfl ?_
        have ha : IntKind.i64.wrap ((pre.length : Int) + (k : Int)) = ((pre.length + k : Nat) : Int) := by rw [wrap_i64 (by omega) (by omega)]; omega
        have hb : IntKind.i64.wrap (((pre.length + k : Nat) : Int) - (k : Int)) = ((pre.length : Nat) : Int) := by rw [wrap_i64 (by omega) (by omega)]; omega
        (conv => whnf); (repeat' first | ((with_reducible refine Box.mk ?_); conv => whnf) | ((with_reducible refine And.intro (fun _ => ?_) (fun _ => ?_)) <;> conv => whnf) | ((with_reducible show AYld _ _ _ _ _); (refine AYld.of tok mixed ?_); conv => whnf) | ((with_reducible show forceH _ _); (refine (forceH_eq _ _).mpr ?_); conv => whnf) | ((with_reducible show ACall _ _ _ _ _); (refine ACall.of_pure (by assumption) (by rfl) ?_); conv => whnf) | ((with_reducible show Exists _); (refine ⟨_, ACall.of_pure (by assumption) (by rfl) ⟨rfl, rfl⟩, ?_⟩); conv => whnf) | ((with_reducible show _ ∧ _ ∧ _); (refine ⟨by omega, by omega, ?_⟩); conv => whnf) | fail)
        refine ⟨[], by kernel_rfl, ?_⟩
        (conv => whnf); (repeat' first | ((with_reducible refine Box.mk ?_); conv => whnf) | ((with_reducible refine And.intro (fun _ => ?_) (fun _ => ?_)) <;> conv => whnf) | ((with_reducible show AYld _ _ _ _ _); (refine AYld.of tok mixed ?_); conv => whnf) | ((with_reducible show forceH _ _); (refine (forceH_eq _ _).mpr ?_); conv => whnf) | ((with_reducible show ACall _ _ _ _ _); (refine ACall.of_pure (by assumption) (by rfl) ?_); conv => whnf) | ((with_reducible show Exists _); (refine ⟨_, ACall.of_pure (by assumption) (by rfl) ⟨rfl, rfl⟩, ?_⟩); conv => whnf) | ((with_reducible show _ ∧ _ ∧ _); (refine ⟨by omega, by omega, ?_⟩); conv => whnf) | fail)
        all_goals try contradiction
        all_goals try (exfalso; omega)
        refine ⟨[], by kernel_rfl, ?_⟩
        (conv => whnf); (repeat' first | ((with_reducible refine Box.mk ?_); conv => whnf) | ((with_reducible refine And.intro (fun _ => ?_) (fun _ => ?_)) <;> conv => whnf) | ((with_reducible show AYld _ _ _ _ _); (refine AYld.of tok mixed ?_); conv => whnf) | ((with_reducible show forceH _ _); (refine (forceH_eq _ _).mpr ?_); conv => whnf) | ((with_reducible show ACall _ _ _ _ _); (refine ACall.of_pure (by assumption) (by rfl) ?_); conv => whnf) | ((with_reducible show Exists _); (refine ⟨_, ACall.of_pure (by assumption) (by rfl) ⟨rfl, rfl⟩, ?_⟩); conv => whnf) | ((with_reducible show _ ∧ _ ∧ _); (refine ⟨by omega, by omega, ?_⟩); conv => whnf) | fail)
        all_goals try contradiction
        have hs : List.drop ((pre.length : Nat) : Int).toNat (List.take ((pre.length + k : Nat) : Int).toNat (bcl (pre ++ bs))) = bcl (bs.take k) := by
          rw [Int.toNat_natCast, Int.toNat_natCast, bcl_app, ← bcl_len pre, List.take_length_add_append, List.drop_left]
          exact (List.map_take ..).symm
        rw [ha, hb]
        refine ⟨by omega, by omega, bcl_all _, ?_⟩
        rw [hs]
        (conv => whnf); (repeat' first | ((with_reducible refine Box.mk ?_); conv => whnf) | ((with_reducible refine And.intro (fun _ => ?_) (fun _ => ?_)) <;> conv => whnf) | ((with_reducible show AYld _ _ _ _ _); (refine AYld.of tok mixed ?_); conv => whnf) | ((with_reducible show forceH _ _); (refine (forceH_eq _ _).mpr ?_); conv => whnf) | ((with_reducible show ACall _ _ _ _ _); (refine ACall.of_pure (by assumption) (by rfl) ?_); conv => whnf) | ((with_reducible show Exists _); (refine ⟨_, ACall.of_pure (by assumption) (by rfl) ⟨rfl, rfl⟩, ?_⟩); conv => whnf) | ((with_reducible show _ ∧ _ ∧ _); (refine ⟨by omega, by omega, ?_⟩); conv => whnf) | fail)
        refine weak_to ⟨rfl, trivial⟩ ?_
        have e2 : (pre ++ bs.take k) ++ bs.drop k = pre ++ bs := by rw [List.append_assoc, List.take_append_drop]
        have e3 : (pre ++ bs.take k).length = pre.length + k := by rw [List.length_append, List.length_take]; omega
        show [Ob.box _ [_, AV.int _ _, _]] = [Ob.box _ [_, AV.int _ _, _]]
        rw [e2, e3]
      · contradiction
  · have e1 : rawF n bs e = ([], bs, mustE e (decide (0 ≤ n))) := by unfold rawF; rw [if_pos h0]
    rw [e1]
    generalize hm : mustE e (decide (0 ≤ n)) = m at *
    refine DCall.of_awp tok mixed fn43 (Nat.le_of_ble_eq_true rfl) ?_
    (conv => whnf); (repeat' first | ((with_reducible refine Box.mk ?_); conv => whnf) | ((with_reducible refine And.intro (fun _ => ?_) (fun _ => ?_)) <;> conv => whnf) | ((with_reducible show AYld _ _ _ _ _); (refine AYld.of tok mixed ?_); conv => whnf) | ((with_reducible show forceH _ _); (refine (forceH_eq _ _).mpr ?_); conv => whnf) | ((with_reducible show ACall _ _ _ _ _); (refine ACall.of_pure (by assumption) (by rfl) ?_); conv => whnf) | ((with_reducible show Exists _); (refine ⟨_, ACall.of_pure (by assumption) (by rfl) ⟨rfl, rfl⟩, ?_⟩); conv => whnf) | ((with_reducible show ∃ L, drawR L _ = true ∧ _); (refine ⟨[], by kernel_rfl, ?_⟩); conv => whnf) | ((with_reducible show _ ∧ _ ∧ _); (refine ⟨by omega, by omega, ?_⟩); conv => whnf) | fail)
    · rename_i hn
      have q1' := q1 true
      rw [decide_eq_true hn] at hm
      rw [hm] at q1'
      refine aW [0] q1' rfl rfl rfl ?_
      (conv => whnf); (repeat' first | ((with_reducible refine Box.mk ?_); conv => whnf) | ((with_reducible refine And.intro (fun _ => ?_) (fun _ => ?_)) <;> conv => whnf) | ((with_reducible show AYld _ _ _ _ _); (refine AYld.of tok mixed ?_); conv => whnf) | ((with_reducible show forceH _ _); (refine (forceH_eq _ _).mpr ?_); conv => whnf) | ((with_reducible show ACall _ _ _ _ _); (refine ACall.of_pure (by assumption) (by rfl) ?_); conv => whnf) | ((with_reducible show Exists _); (refine ⟨_, ACall.of_pure (by assumption) (by rfl) ⟨rfl, rfl⟩, ?_⟩); conv => whnf) | ((with_reducible show ∃ L, drawR L _ = true ∧ _); (refine ⟨[], by kernel_rfl, ?_⟩); conv => whnf) | ((with_reducible show _ ∧ _ ∧ _); (refine ⟨by omega, by omega, ?_⟩); conv => whnf) | fail)
      all_goals try contradiction
      exact weak_le ⟨.inr ⟨rfl, rfl⟩, trivial⟩ (by rw [List.append_nil]; rfl)
    · rename_i hn
      have q1' := q1 false
      rw [decide_eq_false hn] at hm
      rw [hm] at q1'
      refine aW [0] q1' rfl rfl rfl ?_
      (conv => whnf); (repeat' first | ((with_reducible refine Box.mk ?_); conv => whnf) | ((with_reducible refine And.intro (fun _ => ?_) (fun _ => ?_)) <;> conv => whnf) | ((with_reducible show AYld _ _ _ _ _); (refine AYld.of tok mixed ?_); conv => whnf) | ((with_reducible show forceH _ _); (refine (forceH_eq _ _).mpr ?_); conv => whnf) | ((with_reducible show ACall _ _ _ _ _); (refine ACall.of_pure (by assumption) (by rfl) ?_); conv => whnf) | ((with_reducible show Exists _); (refine ⟨_, ACall.of_pure (by assumption) (by rfl) ⟨rfl, rfl⟩, ?_⟩); conv => whnf) | ((with_reducible show ∃ L, drawR L _ = true ∧ _); (refine ⟨[], by kernel_rfl, ?_⟩); conv => whnf) | ((with_reducible show _ ∧ _ ∧ _); (refine ⟨by omega, by omega, ?_⟩); conv => whnf) | fail)
      all_goals try contradiction
      exact weak_le ⟨.inr ⟨rfl, rfl⟩, trivial⟩ (by rw [List.append_nil]; rfl)
end Go.Proofs.YtnajpmepcffnaaaDoor
end

section
/- wire, the document's answer: numbers and texts read. -/
namespace Go.Proofs.YtnajpmepcffnaaaDoor
open Go.Ve

theorem mul_add {n : Nat} (b : UInt8) (h : n * 256 + b.toNat < H64) : IntKind.u64.wrap (IntKind.u64.wrap (256 * (n : Int)) + (b.toNat : Int)) = ((n * 256 + b.toNat : Nat) : Int) := by
  have h1 : n * 256 < H64 := Nat.lt_of_le_of_lt (Nat.le_add_right _ _) h
  have e1 : IntKind.u64.wrap (256 * (n : Int)) = ((n * 256 : Nat) : Int) := by
    have : 256 * (n : Int) = ((n * 256 : Nat) : Int) := by rw [Int.natCast_mul, Int.mul_comm]; rfl
    rw [this, wrap_nat_u64, Nat.mod_eq_of_lt h1]
  rw [e1, ← Int.natCast_add, wrap_nat_u64, Nat.mod_eq_of_lt h]
set_option maxHeartbeats 4000000 in
theorem xrNum_ok (pre bs : Bs) (e k : Int) (hl : (pre ++ bs).length ≤ 1000000000) : DCall P 38 [.ptr 0 0, .int .i64 k] (xH pre bs e) (.int .u64 (valB (rawF (szN k : Nat) bs e).1 : Nat)) (xH (pre ++ (rawF (szN k : Nat) bs e).1) (rawF (szN k : Nat) bs e).2.1 (rawF (szN k : Nat) bs e).2.2) := by
  have q1 := xSize_ok k
  have hk := szN_pos k
  have q2 := xRaw_ok pre bs e (szN k : Nat) hl
  have hx := raw_len (szN k : Nat) bs e
  generalize (rawF (szN k : Nat) bs e).2.1 = bs' at *
  generalize (rawF (szN k : Nat) bs e).2.2 = e' at *
  generalize (rawF (szN k : Nat) bs e).1 = x at *
  have hbl := bcl_len x
  refine DCall.of_awp tok mixed fn38 (Nat.le_of_ble_eq_true rfl) ?_
  (conv => whnf); (repeat' first | ((with_reducible refine Box.mk ?_); conv => whnf) | ((with_reducible refine And.intro (fun _ => ?_) (fun _ => ?_)) <;> conv => whnf) | ((with_reducible show AYld _ _ _ _ _); (refine AYld.of tok mixed ?_); conv => whnf) | ((with_reducible show forceH _ _); (refine (forceH_eq _ _).mpr ?_); conv => whnf) | ((with_reducible show ACall _ _ _ _ _); (refine ACall.of_pure (by assumption) (by rfl) ?_); conv => whnf) | ((with_reducible show Exists _); (refine ⟨_, ACall.of_pure (by assumption) (by rfl) ⟨rfl, rfl⟩, ?_⟩); conv => whnf) | ((with_reducible show ∃ L, drawR L _ = true ∧ _); (refine ⟨[], by kernel_rfl, ?_⟩); conv => whnf) | ((with_reducible show _ ∧ _ ∧ _); (refine ⟨by omega, by omega, ?_⟩); conv => whnf) | fail)
  refine aW [0] q2 rfl rfl rfl ?_
  (conv => whnf); (repeat' first | ((with_reducible refine Box.mk ?_); conv => whnf) | ((with_reducible refine And.intro (fun _ => ?_) (fun _ => ?_)) <;> conv => whnf) | ((with_reducible show AYld _ _ _ _ _); (refine AYld.of tok mixed ?_); conv => whnf) | ((with_reducible show forceH _ _); (refine (forceH_eq _ _).mpr ?_); conv => whnf) | ((with_reducible show ACall _ _ _ _ _); (refine ACall.of_pure (by assumption) (by rfl) ?_); conv => whnf) | ((with_reducible show Exists _); (refine ⟨_, ACall.of_pure (by assumption) (by rfl) ⟨rfl, rfl⟩, ?_⟩); conv => whnf) | ((with_reducible show ∃ L, drawR L _ = true ∧ _); (refine ⟨[], by kernel_rfl, ?_⟩); conv => whnf) | ((with_reducible show _ ∧ _ ∧ _); (refine ⟨by omega, by omega, ?_⟩); conv => whnf) | fail)
  refine aloop (fun i : Nat => i ≤ x.length) (fun i => ⟨envL [(5, .sl (bcl x)), (6, .int .u64 (valB (x.take i) : Nat)), (7, .int .i64 i)], xH (pre ++ x) bs' e'⟩) (fun i => x.length - i) 0 (Nat.zero_le _) (weak_to ⟨rfl, rfl, rfl, trivial⟩ rfl) ?_
  intro i hi
  (conv => whnf); (repeat' first | ((with_reducible refine Box.mk ?_); conv => whnf) | ((with_reducible refine And.intro (fun _ => ?_) (fun _ => ?_)) <;> conv => whnf) | ((with_reducible show AYld _ _ _ _ _); (refine AYld.of tok mixed ?_); conv => whnf) | ((with_reducible show forceH _ _); (refine (forceH_eq _ _).mpr ?_); conv => whnf) | ((with_reducible show ACall _ _ _ _ _); (refine ACall.of_pure (by assumption) (by rfl) ?_); conv => whnf) | ((with_reducible show Exists _); (refine ⟨_, ACall.of_pure (by assumption) (by rfl) ⟨rfl, rfl⟩, ?_⟩); conv => whnf) | ((with_reducible show ∃ L, drawR L _ = true ∧ _); (refine ⟨[], by kernel_rfl, ?_⟩); conv => whnf) | ((with_reducible show _ ∧ _ ∧ _); (refine ⟨by omega, by omega, ?_⟩); conv => whnf) | fail)
  · rename_i h
    have hil : i < x.length := by omega
    have hg := List.getElem?_eq_getElem hil
    have hv := valB_take hg
    have hlt : valB (x.take i) * 256 + (x[i]).toNat < H64 := by rw [← hv]; exact valB_lt8 (by rw [List.length_take]; omega)
    have hc := bcl_get hg
    have hma := mul_add x[i] hlt
    have hw := wrap64_u8 x[i]
    generalize x[i] = c at *
    refine ⟨by omega, _, hc, rfl, ?_⟩
    (conv => whnf); (repeat' first | ((with_reducible refine Box.mk ?_); conv => whnf) | ((with_reducible refine And.intro (fun _ => ?_) (fun _ => ?_)) <;> conv => whnf) | ((with_reducible show AYld _ _ _ _ _); (refine AYld.of tok mixed ?_); conv => whnf) | ((with_reducible show forceH _ _); (refine (forceH_eq _ _).mpr ?_); conv => whnf) | ((with_reducible show ACall _ _ _ _ _); (refine ACall.of_pure (by assumption) (by rfl) ?_); conv => whnf) | ((with_reducible show Exists _); (refine ⟨_, ACall.of_pure (by assumption) (by rfl) ⟨rfl, rfl⟩, ?_⟩); conv => whnf) | ((with_reducible show ∃ L, drawR L _ = true ∧ _); (refine ⟨[], by kernel_rfl, ?_⟩); conv => whnf) | ((with_reducible show _ ∧ _ ∧ _); (refine ⟨by omega, by omega, ?_⟩); conv => whnf) | fail)
    refine ⟨i + 1, hil, by omega, weak_to ⟨rfl, congrArg (AV.int .u64) ?_, wrap_nat (m := 1) (by omega), trivial⟩ rfl⟩
    rw [hv, hw]
    exact hma
  · rename_i h
    exact weak_to ⟨congrArg (AV.int .u64) (by show ((valB (x.take i) : Nat) : Int) = _; rw [List.take_of_length_le (by omega)]), trivial⟩ rfl
/-- Sixteen bytes, or none. -/
theorem raw16 (bs : Bs) (e : Int) : (rawF 16 bs e).1 = [] ∨ (rawF 16 bs e).1.length = 16 := by
  unfold rawF
  split
  · exact .inl rfl
  · split
    · exact .inl rfl
    · refine .inr ?_
      show (bs.take 16).length = 16
      rw [List.length_take]; omega
theorem valA_mul : ∀ (l : Bs) (n : Nat), valA n l = n * 256 ^ l.length + valA 0 l
  | [], n => by simp [valA]
  | b :: r, n => by
    rw [valA, valA_mul r (n * 256 + b.toNat), valA, valA_mul r (0 * 256 + b.toNat), List.length_cons, Nat.pow_succ, Nat.zero_mul, Nat.zero_add, Nat.add_mul, Nat.add_assoc, Nat.mul_comm (256 ^ r.length) 256, Nat.mul_assoc]
theorem valA_app : ∀ (a b : Bs) (n : Nat), valA n (a ++ b) = valA (valA n a) b
  | [], _, _ => rfl
  | _ :: r, b, _ => valA_app r b _
theorem valB_app (a b : Bs) : valB (a ++ b) = valB a * 256 ^ b.length + valB b := by
  unfold valB
  rw [valA_app, valA_mul]
end Go.Proofs.YtnajpmepcffnaaaDoor
end

section
/- field: which fields may be, and what they say. -/
namespace Go.Proofs.YtnajpmepcffnaaaDoor
open Go.Ve

/-- A field: its number, whose that is, its length. -/
structure Sc where
  id : Int
  ent : Int
  len : Int
def scc (s : Sc) : List AV := [.int .i64 s.id, .int .u32 s.ent, .int .i64 s.len]
def sv (s : Sc) : AV := .agg (scc s)
def RightS (s : Sc) : Prop := 0 ≤ s.id ∧ s.id ≤ 32767 ∧ 1 ≤ s.len ∧ s.len ≤ 65535
instance (s : Sc) : Decidable (RightS s) := by unfold RightS; infer_instance
def rightS (s : Sc) : Bool := decide (RightS s)
theorem fRight_ok (s : Sc) : PCall P 8 [sv s] (.bool (rightS s)) := by
  unfold rightS RightS
  refine PCall.of_awp tok mixed fn8 (Nat.le_of_ble_eq_true rfl) ?_
  (conv => whnf); (repeat' first | ((with_reducible refine Box.mk ?_); conv => whnf) | ((with_reducible refine And.intro (fun _ => ?_) (fun _ => ?_)) <;> conv => whnf) | ((with_reducible show AYld _ _ _ _ _); (refine AYld.of tok mixed ?_); conv => whnf) | ((with_reducible show forceH _ _); (refine (forceH_eq _ _).mpr ?_); conv => whnf) | ((with_reducible show ACall _ _ _ _ _); (refine ACall.of_pure (by assumption) (by rfl) ?_); conv => whnf) | ((with_reducible show Exists _); (refine ⟨_, ACall.of_pure (by assumption) (by rfl) ⟨rfl, rfl⟩, ?_⟩); conv => whnf) | ((with_reducible show ∃ L, drawR L _ = true ∧ _); (refine ⟨[], by kernel_rfl, ?_⟩); conv => whnf) | ((with_reducible show _ ∧ _ ∧ _); (refine ⟨by omega, by omega, ?_⟩); conv => whnf) | fail)
  all_goals first
    | exact res1_eq (bool_true (decide_eq_true (by omega)))
    | exact res1_eq (bool_false (decide_eq_false (by omega)))
theorem xfRight_ok (s : Sc) : PCall P 9 [sv s] (.bool (rightS s)) := by
  unfold rightS RightS
  refine PCall.of_awp tok mixed fn9 (Nat.le_of_ble_eq_true rfl) ?_
  (conv => whnf); (repeat' first | ((with_reducible refine Box.mk ?_); conv => whnf) | ((with_reducible refine And.intro (fun _ => ?_) (fun _ => ?_)) <;> conv => whnf) | ((with_reducible show AYld _ _ _ _ _); (refine AYld.of tok mixed ?_); conv => whnf) | ((with_reducible show forceH _ _); (refine (forceH_eq _ _).mpr ?_); conv => whnf) | ((with_reducible show ACall _ _ _ _ _); (refine ACall.of_pure (by assumption) (by rfl) ?_); conv => whnf) | ((with_reducible show Exists _); (refine ⟨_, ACall.of_pure (by assumption) (by rfl) ⟨rfl, rfl⟩, ?_⟩); conv => whnf) | ((with_reducible show ∃ L, drawR L _ = true ∧ _); (refine ⟨[], by kernel_rfl, ?_⟩); conv => whnf) | ((with_reducible show _ ∧ _ ∧ _); (refine ⟨by omega, by omega, ?_⟩); conv => whnf) | fail)
  all_goals first
    | exact res1_eq (bool_true (decide_eq_true (by omega)))
    | exact res1_eq (bool_false (decide_eq_false (by omega)))
/-- A length between two: then it says so much. -/
def inL (n a b r : Int) : Int := if n < a ∨ b < n then -1 else r
/-- What a field without an enterprise says, and the lengths that it may have. -/
def usualS (id : Int) : Int × Int × Int :=
  if id = 1 then (1, 1, 8) else if id = 2 then (2, 1, 8) else if id = 8 then (3, 4, 4) else if id = 12 then (4, 4, 4) else if id = 27 then (5, 16, 16) else if id = 28 then (6, 16, 16) else (0, 1, 65535)
theorem fUsual_ok (id : Int) : PCall P 31 [.int .i64 id] (.tup [.int .i64 (usualS id).1, .int .i64 (usualS id).2.1, .int .i64 (usualS id).2.2]) := by
  unfold usualS
  refine PCall.of_awp tok mixed fn31 (Nat.le_of_ble_eq_true rfl) ?_
  (conv => whnf); (repeat' first | ((with_reducible refine Box.mk ?_); conv => whnf) | ((with_reducible refine And.intro (fun _ => ?_) (fun _ => ?_)) <;> conv => whnf) | ((with_reducible show AYld _ _ _ _ _); (refine AYld.of tok mixed ?_); conv => whnf) | ((with_reducible show forceH _ _); (refine (forceH_eq _ _).mpr ?_); conv => whnf) | ((with_reducible show ACall _ _ _ _ _); (refine ACall.of_pure (by assumption) (by rfl) ?_); conv => whnf) | ((with_reducible show Exists _); (refine ⟨_, ACall.of_pure (by assumption) (by rfl) ⟨rfl, rfl⟩, ?_⟩); conv => whnf) | ((with_reducible show ∃ L, drawR L _ = true ∧ _); (refine ⟨[], by kernel_rfl, ?_⟩); conv => whnf) | ((with_reducible show _ ∧ _ ∧ _); (refine ⟨by omega, by omega, ?_⟩); conv => whnf) | fail)
  all_goals (simp only [*, if_true, if_false]; first | rfl | skip)
def saysS (s : Sc) : Int :=
  if ¬ RightS s then -1 else
  if s.ent = 0 then inL s.len (usualS s.id).2.1 (usualS s.id).2.2 (usualS s.id).1 else
  if s.ent = 32473 ∧ s.id = 1 then 7 else if s.ent = 32473 ∧ s.id = 2 then 8 else 0
theorem right_cases (s : Sc) : (RightS s ∧ rightS s = true) ∨ (¬ RightS s ∧ rightS s = false) := by
  by_cases h : RightS s
  · exact .inl ⟨h, decide_eq_true h⟩
  · exact .inr ⟨h, decide_eq_false h⟩
theorem fSays_ok (s : Sc) : PCall P 10 [sv s] (.int .i64 (saysS s)) := by
  have q1 := fRight_ok s
  have q2 := fUsual_ok s.id
  unfold saysS inL
  generalize (usualS s.id).1 = u1 at *
  generalize (usualS s.id).2.1 = u2 at *
  generalize (usualS s.id).2.2 = u3 at *
  rcases right_cases s with ⟨hR, hb⟩ | ⟨hR, hb⟩
  all_goals (
    rw [hb] at q1
    unfold RightS at hR ⊢
    refine PCall.of_awp tok mixed fn10 (Nat.le_of_ble_eq_true rfl) ?_
    (conv => whnf); (repeat' first | ((with_reducible refine Box.mk ?_); conv => whnf) | ((with_reducible refine And.intro (fun _ => ?_) (fun _ => ?_)) <;> conv => whnf) | ((with_reducible show AYld _ _ _ _ _); (refine AYld.of tok mixed ?_); conv => whnf) | ((with_reducible show forceH _ _); (refine (forceH_eq _ _).mpr ?_); conv => whnf) | ((with_reducible show ACall _ _ _ _ _); (refine ACall.of_pure (by assumption) (by rfl) ?_); conv => whnf) | ((with_reducible show Exists _); (refine ⟨_, ACall.of_pure (by assumption) (by rfl) ⟨rfl, rfl⟩, ?_⟩); conv => whnf) | ((with_reducible show ∃ L, drawR L _ = true ∧ _); (refine ⟨[], by kernel_rfl, ?_⟩); conv => whnf) | ((with_reducible show _ ∧ _ ∧ _); (refine ⟨by omega, by omega, ?_⟩); conv => whnf) | fail)
    all_goals refine res1_eq (congrArg (AV.int .i64) ?_)
    all_goals ((repeat' split) <;> omega))
def idsS : List Int := [1, 2, 8, 12, 27, 28, 1, 2]
def entsS : List Int := [0, 0, 0, 0, 0, 0, 32473, 32473]
def leastS : List Int := [1, 1, 4, 4, 16, 16, 1, 1]
def mostS : List Int := [8, 8, 4, 4, 16, 16, 65535, 65535]
def rowI (l : List Int) : Ob := .row 3 1 (l.map fun x => [.int .i64 x])
def rowE (l : List Int) : Ob := .row 28 1 (l.map fun x => [.int .u32 x])
/-- None of the first i fits. -/
def noneS (s : Sc) (i : Nat) : Prop := ∀ j, j < i → ¬ (s.id = idsS.getD j 0 ∧ s.ent = entsS.getD j 0)
set_option maxHeartbeats 4000000 in
theorem xfSays_ok (s : Sc) : PCall P 11 [sv s] (.int .i64 (saysS s)) := by
  have q1 := xfRight_ok s
  rcases right_cases s with ⟨hR, hb⟩ | ⟨hR, hb⟩
  · rw [hb] at q1
    refine PCall.of_awp tok mixed fn11 (Nat.le_of_ble_eq_true rfl) ?_
    (conv => whnf); (repeat' first | ((with_reducible refine Box.mk ?_); conv => whnf) | ((with_reducible refine And.intro (fun _ => ?_) (fun _ => ?_)) <;> conv => whnf) | ((with_reducible show AYld _ _ _ _ _); (refine AYld.of tok mixed ?_); conv => whnf) | ((with_reducible show forceH _ _); (refine (forceH_eq _ _).mpr ?_); conv => whnf) | ((with_reducible show ACall _ _ _ _ _); (refine ACall.of_pure (by assumption) (by rfl) ?_); conv => whnf) | ((with_reducible show Exists _); (refine ⟨_, ACall.of_pure (by assumption) (by rfl) ⟨rfl, rfl⟩, ?_⟩); conv => whnf) | ((with_reducible show _ ∧ _ ∧ _); (refine ⟨by omega, by omega, ?_⟩); conv => whnf) | fail)
    all_goals try contradiction
    refine aloop (fun i : Nat => i ≤ 8 ∧ noneS s i) (fun i => ⟨envL [(1, .ptr 0 0), (3, .own 1), (4, .own 2), (5, .own 3), (6, .own 4), (7, .int .i64 i)], [.box 30 (scc s), rowI idsS, rowE entsS, rowI leastS, rowI mostS]⟩) (fun i => 8 - i) 0 ⟨Nat.zero_le _, fun j hj => by omega⟩ (weak_to ⟨rfl, rfl, rfl, rfl, rfl, rfl, trivial⟩ rfl) ?_
    rintro i ⟨hi, hn⟩
    have hi : i ≤ 8 := hi
    have hn : noneS s i := hn
    have hstep : ¬ (s.id = idsS.getD i 0 ∧ s.ent = entsS.getD i 0) → noneS s (i + 1) := fun h j hj => by
      rcases Nat.lt_or_ge j i with h1 | h1
      · exact hn j h1
      · obtain rfl : j = i := by omega
        exact h
    have hcase : i = 0 ∨ i = 1 ∨ i = 2 ∨ i = 3 ∨ i = 4 ∨ i = 5 ∨ i = 6 ∨ i = 7 ∨ i = 8 := by omega
    rcases hcase with rfl | rfl | rfl | rfl | rfl | rfl | rfl | rfl | rfl
    all_goals (
      (conv => whnf); (repeat' first | ((with_reducible refine Box.mk ?_); conv => whnf) | ((with_reducible refine And.intro (fun _ => ?_) (fun _ => ?_)) <;> conv => whnf) | ((with_reducible show AYld _ _ _ _ _); (refine AYld.of tok mixed ?_); conv => whnf) | ((with_reducible show forceH _ _); (refine (forceH_eq _ _).mpr ?_); conv => whnf) | ((with_reducible show ACall _ _ _ _ _); (refine ACall.of_pure (by assumption) (by rfl) ?_); conv => whnf) | ((with_reducible show Exists _); (refine ⟨_, ACall.of_pure (by assumption) (by rfl) ⟨rfl, rfl⟩, ?_⟩); conv => whnf) | ((with_reducible show ∃ L, drawR L _ = true ∧ _); (refine ⟨[], by kernel_rfl, ?_⟩); conv => whnf) | ((with_reducible show _ ∧ _ ∧ _); (refine ⟨by omega, by omega, ?_⟩); conv => whnf) | ((with_reducible show _ ∧ _ ∧ _); (refine ⟨by decide, Nat.le_of_ble_eq_true rfl, ?_⟩); conv => whnf) | ((with_reducible show Exists _); (refine ⟨_, rfl, ?_⟩); conv => whnf) | fail)
      all_goals try (exfalso; omega)
      all_goals first
        | exact ⟨_, ⟨by decide, hstep (by simp [idsS, entsS]; omega)⟩, by decide, weak_to ⟨rfl, rfl, rfl, rfl, rfl, rfl, trivial⟩ rfl⟩
        | skip)
    all_goals refine res1_eq (congrArg (AV.int .i64) ?_)
    all_goals try rw [wrap_i64 (by decide) (by decide)]
    all_goals (
      try (
        have h0 := hn 0 (by decide); have h1 := hn 1 (by decide); have h2 := hn 2 (by decide); have h3 := hn 3 (by decide)
        have h4 := hn 4 (by decide); have h5 := hn 5 (by decide); have h6 := hn 6 (by decide); have h7 := hn 7 (by decide)
        simp [idsS, entsS] at h0 h1 h2 h3 h4 h5 h6 h7)
      unfold saysS inL usualS
      unfold RightS at hR ⊢
      (repeat' split) <;> first | omega | (dsimp only at *; first | done | omega))
  · rw [hb] at q1
    refine PCall.of_awp tok mixed fn11 (Nat.le_of_ble_eq_true rfl) ?_
    (conv => whnf); (repeat' first | ((with_reducible refine Box.mk ?_); conv => whnf) | ((with_reducible refine And.intro (fun _ => ?_) (fun _ => ?_)) <;> conv => whnf) | ((with_reducible show AYld _ _ _ _ _); (refine AYld.of tok mixed ?_); conv => whnf) | ((with_reducible show forceH _ _); (refine (forceH_eq _ _).mpr ?_); conv => whnf) | ((with_reducible show ACall _ _ _ _ _); (refine ACall.of_pure (by assumption) (by rfl) ?_); conv => whnf) | ((with_reducible show Exists _); (refine ⟨_, ACall.of_pure (by assumption) (by rfl) ⟨rfl, rfl⟩, ?_⟩); conv => whnf) | ((with_reducible show ∃ L, drawR L _ = true ∧ _); (refine ⟨[], by kernel_rfl, ?_⟩); conv => whnf) | ((with_reducible show _ ∧ _ ∧ _); (refine ⟨by omega, by omega, ?_⟩); conv => whnf) | fail)
    all_goals try contradiction
    exact res1_eq (congrArg (AV.int .i64) (by unfold saysS; rw [if_pos hR]))
end Go.Proofs.YtnajpmepcffnaaaDoor
end

section
/- field: a field's bytes, written. -/
namespace Go.Proofs.YtnajpmepcffnaaaDoor
open Go.Ve

/-- The field's owner is a number of 32 bits. -/
def EntOk (s : Sc) : Prop := 0 ≤ s.ent ∧ s.ent < 4294967296
/-- A field's bytes. -/
def specB (s : Sc) : Bs :=
  if ¬ RightS s then [] else if s.ent = 0 then numB s.id.toNat 2 ++ numB s.len.toNat 2 else numB (s.id.toNat + 32768) 2 ++ numB s.len.toNat 2 ++ numB s.ent.toNat 4
theorem specB_len (s : Sc) : (specB s).length ≤ 8 := by
  unfold specB
  split
  · exact Nat.zero_le _
  · split
    · rw [List.length_append, numB_len, numB_len]; omega
    · rw [List.length_append, List.length_append, numB_len, numB_len, numB_len]; omega
theorem nat_of {n : Int} (h : 0 ≤ n) : ∃ k : Nat, n = k := ⟨n.toNat, by omega⟩
set_option maxHeartbeats 4000000 in
theorem fWriteR (cs : Bs) (hcs : cs.length ≤ 900000000) (s : Sc) (he : EntOk s) : DCall P 12 [.ptr 0 0, sv s] (wR cs) (mkRes []) (wQ (cs ++ specB s)) := by
  have q1 := fRight_ok s
  rcases right_cases s with ⟨hR, hb⟩ | ⟨hR, hb⟩
  · rw [hb] at q1
    unfold specB
    rw [if_neg (fun h => h hR)]
    obtain ⟨sid, ent, len⟩ := s
    unfold RightS at hR
    unfold EntOk at he
    dsimp only at hR he ⊢
    obtain ⟨i, rfl⟩ := nat_of hR.1
    obtain ⟨n, rfl⟩ := nat_of (show 0 ≤ len by omega)
    obtain ⟨e, rfl⟩ := nat_of he.1
    rw [Int.toNat_natCast, Int.toNat_natCast, Int.toNat_natCast]
    have w1 : IntKind.u64.wrap (i : Int) = i := wrap_u64 (by omega) (by omega)
    have w2 : IntKind.u64.wrap (n : Int) = n := wrap_u64 (by omega) (by omega)
    have w3 : IntKind.u64.wrap (e : Int) = e := wrap_u64 (by omega) (by omega)
    have w4 : IntKind.u64.wrap (IntKind.i64.wrap ((i : Int) + 32768)) = ((i + 32768 : Nat) : Int) := by rw [wrap_i64 (by omega) (by omega), wrap_u64 (by omega) (by omega)]; omega
    have hl1 := numB_len i 2
    have hl2 := numB_len (i + 32768) 2
    have hl3 := numB_len n 2
    have a1 := wNumR cs (by omega) i 2
    have a2 := wNumR (cs ++ numB i 2) (by rw [List.length_append]; omega) n 2
    have b1 := wNumR cs (by omega) (i + 32768) 2
    have b2 := wNumR (cs ++ numB (i + 32768) 2) (by rw [List.length_append]; omega) n 2
    have b3 := wNumR (cs ++ numB (i + 32768) 2 ++ numB n 2) (by rw [List.length_append, List.length_append]; omega) e 4
    rw [show szN 2 = 2 from rfl] at a1 a2 b1 b2
    rw [show szN 4 = 4 from rfl] at b3
    refine DCall.of_awp tok mixed fn12 (Nat.le_of_ble_eq_true rfl) ?_
    (conv => whnf); (repeat' first | ((with_reducible refine Box.mk ?_); conv => whnf) | ((with_reducible refine And.intro (fun _ => ?_) (fun _ => ?_)) <;> conv => whnf) | ((with_reducible show AYld _ _ _ _ _); (refine AYld.of tok mixed ?_); conv => whnf) | ((with_reducible show forceH _ _); (refine (forceH_eq _ _).mpr ?_); conv => whnf) | ((with_reducible show ACall _ _ _ _ _); (refine ACall.of_pure (by assumption) (by rfl) ?_); conv => whnf) | ((with_reducible show Exists _); (refine ⟨_, ACall.of_pure (by assumption) (by rfl) ⟨rfl, rfl⟩, ?_⟩); conv => whnf) | ((with_reducible show _ ∧ _ ∧ _); (refine ⟨by omega, by omega, ?_⟩); conv => whnf) | fail)
    · rename_i h0
      rw [if_pos h0, ← List.append_assoc]
      refine ⟨[(2004, []), (2008, []), (3006, [4]), (3007, [4])], by kernel_rfl, ?_⟩
      (conv => whnf); (repeat' first | ((with_reducible refine Box.mk ?_); conv => whnf) | ((with_reducible refine And.intro (fun _ => ?_) (fun _ => ?_)) <;> conv => whnf) | ((with_reducible show AYld _ _ _ _ _); (refine AYld.of tok mixed ?_); conv => whnf) | ((with_reducible show forceH _ _); (refine (forceH_eq _ _).mpr ?_); conv => whnf) | ((with_reducible show ACall _ _ _ _ _); (refine ACall.of_pure (by assumption) (by rfl) ?_); conv => whnf) | ((with_reducible show Exists _); (refine ⟨_, ACall.of_pure (by assumption) (by rfl) ⟨rfl, rfl⟩, ?_⟩); conv => whnf) | ((with_reducible show _ ∧ _ ∧ _); (refine ⟨by omega, by omega, ?_⟩); conv => whnf) | fail)
      rw [w1]
      refine aDw [0, 1] a1 rfl rfl rfl ?_
      (conv => whnf); (repeat' first | ((with_reducible refine Box.mk ?_); conv => whnf) | ((with_reducible refine And.intro (fun _ => ?_) (fun _ => ?_)) <;> conv => whnf) | ((with_reducible show AYld _ _ _ _ _); (refine AYld.of tok mixed ?_); conv => whnf) | ((with_reducible show forceH _ _); (refine (forceH_eq _ _).mpr ?_); conv => whnf) | ((with_reducible show ACall _ _ _ _ _); (refine ACall.of_pure (by assumption) (by rfl) ?_); conv => whnf) | ((with_reducible show Exists _); (refine ⟨_, ACall.of_pure (by assumption) (by rfl) ⟨rfl, rfl⟩, ?_⟩); conv => whnf) | ((with_reducible show _ ∧ _ ∧ _); (refine ⟨by omega, by omega, ?_⟩); conv => whnf) | fail)
      (refine And.intro ?_ ?_); (focus ((conv => whnf); (repeat' first | exact trivial | ((refine And.intro ?_ ?_); (focus ((conv => whnf); (first | exact ⟨rfl, rfl⟩ | exact ⟨by decide, by decide, rfl, rfl⟩ | exact ⟨by omega, by omega, rfl, rfl⟩ | exact ⟨by (simp only [List.length_drop, List.length_take]; omega), rfl, rfl⟩ | exact ⟨_, rfl, rfl, rfl⟩ | exact ⟨by omega, _, by assumption, rfl, rfl, rfl⟩ | ((refine ACall.of_pure (by assumption) (by rfl) ?_); (refine And.intro ?_ ?_ <;> rfl))))); (conv => whnf)))))
      (conv => whnf); (repeat' first | ((with_reducible refine Box.mk ?_); conv => whnf) | ((with_reducible refine And.intro (fun _ => ?_) (fun _ => ?_)) <;> conv => whnf) | ((with_reducible show AYld _ _ _ _ _); (refine AYld.of tok mixed ?_); conv => whnf) | ((with_reducible show forceH _ _); (refine (forceH_eq _ _).mpr ?_); conv => whnf) | ((with_reducible show ACall _ _ _ _ _); (refine ACall.of_pure (by assumption) (by rfl) ?_); conv => whnf) | ((with_reducible show Exists _); (refine ⟨_, ACall.of_pure (by assumption) (by rfl) ⟨rfl, rfl⟩, ?_⟩); conv => whnf) | ((with_reducible show _ ∧ _ ∧ _); (refine ⟨by omega, by omega, ?_⟩); conv => whnf) | fail)
      (refine And.intro ?_ ?_); (focus ((conv => whnf); (repeat' first | exact trivial | ((refine And.intro ?_ ?_); (focus ((conv => whnf); (first | exact ⟨rfl, rfl⟩ | exact ⟨by decide, by decide, rfl, rfl⟩ | exact ⟨by omega, by omega, rfl, rfl⟩ | exact ⟨by (simp only [List.length_drop, List.length_take]; omega), rfl, rfl⟩ | exact ⟨_, rfl, rfl, rfl⟩ | exact ⟨by omega, _, by assumption, rfl, rfl, rfl⟩ | ((refine ACall.of_pure (by assumption) (by rfl) ?_); (refine And.intro ?_ ?_ <;> rfl))))); (conv => whnf)))))
      (conv => whnf); (repeat' first | ((with_reducible refine Box.mk ?_); conv => whnf) | ((with_reducible refine And.intro (fun _ => ?_) (fun _ => ?_)) <;> conv => whnf) | ((with_reducible show AYld _ _ _ _ _); (refine AYld.of tok mixed ?_); conv => whnf) | ((with_reducible show forceH _ _); (refine (forceH_eq _ _).mpr ?_); conv => whnf) | ((with_reducible show ACall _ _ _ _ _); (refine ACall.of_pure (by assumption) (by rfl) ?_); conv => whnf) | ((with_reducible show Exists _); (refine ⟨_, ACall.of_pure (by assumption) (by rfl) ⟨rfl, rfl⟩, ?_⟩); conv => whnf) | ((with_reducible show _ ∧ _ ∧ _); (refine ⟨by omega, by omega, ?_⟩); conv => whnf) | fail)
      rw [w2]
      refine aDw [0, 3] a2 rfl rfl rfl ?_
      (conv => whnf); (repeat' first | ((with_reducible refine Box.mk ?_); conv => whnf) | ((with_reducible refine And.intro (fun _ => ?_) (fun _ => ?_)) <;> conv => whnf) | ((with_reducible show AYld _ _ _ _ _); (refine AYld.of tok mixed ?_); conv => whnf) | ((with_reducible show forceH _ _); (refine (forceH_eq _ _).mpr ?_); conv => whnf) | ((with_reducible show ACall _ _ _ _ _); (refine ACall.of_pure (by assumption) (by rfl) ?_); conv => whnf) | ((with_reducible show Exists _); (refine ⟨_, ACall.of_pure (by assumption) (by rfl) ⟨rfl, rfl⟩, ?_⟩); conv => whnf) | ((with_reducible show _ ∧ _ ∧ _); (refine ⟨by omega, by omega, ?_⟩); conv => whnf) | fail)
      exact weak_ren_to [(0, true), (1, false), (4, true)] rfl rfl rfl ⟨rfl, trivial⟩
    · rename_i h0
      rw [if_neg h0, ← List.append_assoc, ← List.append_assoc]
      refine ⟨[(2005, []), (2009, []), (2013, []), (3007, [5]), (3008, [5]), (3011, [5, 9]), (3012, [5, 9])], by kernel_rfl, ?_⟩
      (conv => whnf); (repeat' first | ((with_reducible refine Box.mk ?_); conv => whnf) | ((with_reducible refine And.intro (fun _ => ?_) (fun _ => ?_)) <;> conv => whnf) | ((with_reducible show AYld _ _ _ _ _); (refine AYld.of tok mixed ?_); conv => whnf) | ((with_reducible show forceH _ _); (refine (forceH_eq _ _).mpr ?_); conv => whnf) | ((with_reducible show ACall _ _ _ _ _); (refine ACall.of_pure (by assumption) (by rfl) ?_); conv => whnf) | ((with_reducible show Exists _); (refine ⟨_, ACall.of_pure (by assumption) (by rfl) ⟨rfl, rfl⟩, ?_⟩); conv => whnf) | ((with_reducible show _ ∧ _ ∧ _); (refine ⟨by omega, by omega, ?_⟩); conv => whnf) | fail)
      rw [w4]
      refine aDw [0, 1] b1 rfl rfl rfl ?_
      (conv => whnf); (repeat' first | ((with_reducible refine Box.mk ?_); conv => whnf) | ((with_reducible refine And.intro (fun _ => ?_) (fun _ => ?_)) <;> conv => whnf) | ((with_reducible show AYld _ _ _ _ _); (refine AYld.of tok mixed ?_); conv => whnf) | ((with_reducible show forceH _ _); (refine (forceH_eq _ _).mpr ?_); conv => whnf) | ((with_reducible show ACall _ _ _ _ _); (refine ACall.of_pure (by assumption) (by rfl) ?_); conv => whnf) | ((with_reducible show Exists _); (refine ⟨_, ACall.of_pure (by assumption) (by rfl) ⟨rfl, rfl⟩, ?_⟩); conv => whnf) | ((with_reducible show _ ∧ _ ∧ _); (refine ⟨by omega, by omega, ?_⟩); conv => whnf) | fail)
      (refine And.intro ?_ ?_); (focus ((conv => whnf); (repeat' first | exact trivial | ((refine And.intro ?_ ?_); (focus ((conv => whnf); (first | exact ⟨rfl, rfl⟩ | exact ⟨by decide, by decide, rfl, rfl⟩ | exact ⟨by omega, by omega, rfl, rfl⟩ | exact ⟨by (simp only [List.length_drop, List.length_take]; omega), rfl, rfl⟩ | exact ⟨_, rfl, rfl, rfl⟩ | exact ⟨by omega, _, by assumption, rfl, rfl, rfl⟩ | ((refine ACall.of_pure (by assumption) (by rfl) ?_); (refine And.intro ?_ ?_ <;> rfl))))); (conv => whnf)))))
      (conv => whnf); (repeat' first | ((with_reducible refine Box.mk ?_); conv => whnf) | ((with_reducible refine And.intro (fun _ => ?_) (fun _ => ?_)) <;> conv => whnf) | ((with_reducible show AYld _ _ _ _ _); (refine AYld.of tok mixed ?_); conv => whnf) | ((with_reducible show forceH _ _); (refine (forceH_eq _ _).mpr ?_); conv => whnf) | ((with_reducible show ACall _ _ _ _ _); (refine ACall.of_pure (by assumption) (by rfl) ?_); conv => whnf) | ((with_reducible show Exists _); (refine ⟨_, ACall.of_pure (by assumption) (by rfl) ⟨rfl, rfl⟩, ?_⟩); conv => whnf) | ((with_reducible show _ ∧ _ ∧ _); (refine ⟨by omega, by omega, ?_⟩); conv => whnf) | fail)
      (refine And.intro ?_ ?_); (focus ((conv => whnf); (repeat' first | exact trivial | ((refine And.intro ?_ ?_); (focus ((conv => whnf); (first | exact ⟨rfl, rfl⟩ | exact ⟨by decide, by decide, rfl, rfl⟩ | exact ⟨by omega, by omega, rfl, rfl⟩ | exact ⟨by (simp only [List.length_drop, List.length_take]; omega), rfl, rfl⟩ | exact ⟨_, rfl, rfl, rfl⟩ | exact ⟨by omega, _, by assumption, rfl, rfl, rfl⟩ | ((refine ACall.of_pure (by assumption) (by rfl) ?_); (refine And.intro ?_ ?_ <;> rfl))))); (conv => whnf)))))
      (conv => whnf); (repeat' first | ((with_reducible refine Box.mk ?_); conv => whnf) | ((with_reducible refine And.intro (fun _ => ?_) (fun _ => ?_)) <;> conv => whnf) | ((with_reducible show AYld _ _ _ _ _); (refine AYld.of tok mixed ?_); conv => whnf) | ((with_reducible show forceH _ _); (refine (forceH_eq _ _).mpr ?_); conv => whnf) | ((with_reducible show ACall _ _ _ _ _); (refine ACall.of_pure (by assumption) (by rfl) ?_); conv => whnf) | ((with_reducible show Exists _); (refine ⟨_, ACall.of_pure (by assumption) (by rfl) ⟨rfl, rfl⟩, ?_⟩); conv => whnf) | ((with_reducible show _ ∧ _ ∧ _); (refine ⟨by omega, by omega, ?_⟩); conv => whnf) | fail)
      rw [w2]
      refine aDw [0, 3] b2 rfl rfl rfl ?_
      (conv => whnf); (repeat' first | ((with_reducible refine Box.mk ?_); conv => whnf) | ((with_reducible refine And.intro (fun _ => ?_) (fun _ => ?_)) <;> conv => whnf) | ((with_reducible show AYld _ _ _ _ _); (refine AYld.of tok mixed ?_); conv => whnf) | ((with_reducible show forceH _ _); (refine (forceH_eq _ _).mpr ?_); conv => whnf) | ((with_reducible show ACall _ _ _ _ _); (refine ACall.of_pure (by assumption) (by rfl) ?_); conv => whnf) | ((with_reducible show Exists _); (refine ⟨_, ACall.of_pure (by assumption) (by rfl) ⟨rfl, rfl⟩, ?_⟩); conv => whnf) | ((with_reducible show _ ∧ _ ∧ _); (refine ⟨by omega, by omega, ?_⟩); conv => whnf) | fail)
      (refine And.intro ?_ ?_); (focus ((conv => whnf); (repeat' first | exact trivial | ((refine And.intro ?_ ?_); (focus ((conv => whnf); (first | exact ⟨rfl, rfl⟩ | exact ⟨by decide, by decide, rfl, rfl⟩ | exact ⟨by omega, by omega, rfl, rfl⟩ | exact ⟨by (simp only [List.length_drop, List.length_take]; omega), rfl, rfl⟩ | exact ⟨_, rfl, rfl, rfl⟩ | exact ⟨by omega, _, by assumption, rfl, rfl, rfl⟩ | ((refine ACall.of_pure (by assumption) (by rfl) ?_); (refine And.intro ?_ ?_ <;> rfl))))); (conv => whnf)))))
      (conv => whnf); (repeat' first | ((with_reducible refine Box.mk ?_); conv => whnf) | ((with_reducible refine And.intro (fun _ => ?_) (fun _ => ?_)) <;> conv => whnf) | ((with_reducible show AYld _ _ _ _ _); (refine AYld.of tok mixed ?_); conv => whnf) | ((with_reducible show forceH _ _); (refine (forceH_eq _ _).mpr ?_); conv => whnf) | ((with_reducible show ACall _ _ _ _ _); (refine ACall.of_pure (by assumption) (by rfl) ?_); conv => whnf) | ((with_reducible show Exists _); (refine ⟨_, ACall.of_pure (by assumption) (by rfl) ⟨rfl, rfl⟩, ?_⟩); conv => whnf) | ((with_reducible show _ ∧ _ ∧ _); (refine ⟨by omega, by omega, ?_⟩); conv => whnf) | fail)
      (refine And.intro ?_ ?_); (focus ((conv => whnf); (repeat' first | exact trivial | ((refine And.intro ?_ ?_); (focus ((conv => whnf); (first | exact ⟨rfl, rfl⟩ | exact ⟨by decide, by decide, rfl, rfl⟩ | exact ⟨by omega, by omega, rfl, rfl⟩ | exact ⟨by (simp only [List.length_drop, List.length_take]; omega), rfl, rfl⟩ | exact ⟨_, rfl, rfl, rfl⟩ | exact ⟨by omega, _, by assumption, rfl, rfl, rfl⟩ | ((refine ACall.of_pure (by assumption) (by rfl) ?_); (refine And.intro ?_ ?_ <;> rfl))))); (conv => whnf)))))
      (conv => whnf); (repeat' first | ((with_reducible refine Box.mk ?_); conv => whnf) | ((with_reducible refine And.intro (fun _ => ?_) (fun _ => ?_)) <;> conv => whnf) | ((with_reducible show AYld _ _ _ _ _); (refine AYld.of tok mixed ?_); conv => whnf) | ((with_reducible show forceH _ _); (refine (forceH_eq _ _).mpr ?_); conv => whnf) | ((with_reducible show ACall _ _ _ _ _); (refine ACall.of_pure (by assumption) (by rfl) ?_); conv => whnf) | ((with_reducible show Exists _); (refine ⟨_, ACall.of_pure (by assumption) (by rfl) ⟨rfl, rfl⟩, ?_⟩); conv => whnf) | ((with_reducible show _ ∧ _ ∧ _); (refine ⟨by omega, by omega, ?_⟩); conv => whnf) | fail)
      rw [w3]
      refine aDw [0, 4] b3 rfl rfl rfl ?_
      (conv => whnf); (repeat' first | ((with_reducible refine Box.mk ?_); conv => whnf) | ((with_reducible refine And.intro (fun _ => ?_) (fun _ => ?_)) <;> conv => whnf) | ((with_reducible show AYld _ _ _ _ _); (refine AYld.of tok mixed ?_); conv => whnf) | ((with_reducible show forceH _ _); (refine (forceH_eq _ _).mpr ?_); conv => whnf) | ((with_reducible show ACall _ _ _ _ _); (refine ACall.of_pure (by assumption) (by rfl) ?_); conv => whnf) | ((with_reducible show Exists _); (refine ⟨_, ACall.of_pure (by assumption) (by rfl) ⟨rfl, rfl⟩, ?_⟩); conv => whnf) | ((with_reducible show _ ∧ _ ∧ _); (refine ⟨by omega, by omega, ?_⟩); conv => whnf) | fail)
      exact weak_ren_to [(0, true), (1, false), (5, true)] rfl rfl rfl ⟨rfl, trivial⟩
  · rw [hb] at q1
    have e : specB s = [] := by unfold specB; rw [if_pos hR]
    rw [e, List.append_nil]
    refine DCall.of_awp tok mixed fn12 (Nat.le_of_ble_eq_true rfl) ?_
    (conv => whnf); (repeat' first | ((with_reducible refine Box.mk ?_); conv => whnf) | ((with_reducible refine And.intro (fun _ => ?_) (fun _ => ?_)) <;> conv => whnf) | ((with_reducible show AYld _ _ _ _ _); (refine AYld.of tok mixed ?_); conv => whnf) | ((with_reducible show forceH _ _); (refine (forceH_eq _ _).mpr ?_); conv => whnf) | ((with_reducible show ACall _ _ _ _ _); (refine ACall.of_pure (by assumption) (by rfl) ?_); conv => whnf) | ((with_reducible show Exists _); (refine ⟨_, ACall.of_pure (by assumption) (by rfl) ⟨rfl, rfl⟩, ?_⟩); conv => whnf) | ((with_reducible show _ ∧ _ ∧ _); (refine ⟨by omega, by omega, ?_⟩); conv => whnf) | fail)
    exact weak_ren_to [(0, true), (1, false), (1, true)] rfl rfl rfl ⟨rfl, trivial⟩
set_option maxHeartbeats 4000000 in
theorem fWriteN (s : Sc) (he : EntOk s) : DCall P 12 [.ptr 0 0, sv s] wN (mkRes []) (wR (specB s)) := by
  have q1 := fRight_ok s
  rcases right_cases s with ⟨hR, hb⟩ | ⟨hR, hb⟩
  · rw [hb] at q1
    unfold specB
    rw [if_neg (fun h => h hR)]
    obtain ⟨sid, ent, len⟩ := s
    unfold RightS at hR
    unfold EntOk at he
    dsimp only at hR he ⊢
    obtain ⟨i, rfl⟩ := nat_of hR.1
    obtain ⟨n, rfl⟩ := nat_of (show 0 ≤ len by omega)
    obtain ⟨e, rfl⟩ := nat_of he.1
    rw [Int.toNat_natCast, Int.toNat_natCast, Int.toNat_natCast]
    have w1 : IntKind.u64.wrap (i : Int) = i := wrap_u64 (by omega) (by omega)
    have w2 : IntKind.u64.wrap (n : Int) = n := wrap_u64 (by omega) (by omega)
    have w3 : IntKind.u64.wrap (e : Int) = e := wrap_u64 (by omega) (by omega)
    have w4 : IntKind.u64.wrap (IntKind.i64.wrap ((i : Int) + 32768)) = ((i + 32768 : Nat) : Int) := by rw [wrap_i64 (by omega) (by omega), wrap_u64 (by omega) (by omega)]; omega
    have hl1 := numB_len i 2
    have hl2 := numB_len (i + 32768) 2
    have hl3 := numB_len n 2
    have a1 := wNumN i 2
    have a2 := wNumR (numB i 2) (by omega) n 2
    have b1 := wNumN (i + 32768) 2
    have b2 := wNumR (numB (i + 32768) 2) (by omega) n 2
    have b3 := wNumR (numB (i + 32768) 2 ++ numB n 2) (by rw [List.length_append]; omega) e 4
    rw [show szN 2 = 2 from rfl] at a1 a2 b1 b2
    rw [show szN 4 = 4 from rfl] at b3
    refine DCall.of_awp tok mixed fn12 (Nat.le_of_ble_eq_true rfl) ?_
    (conv => whnf); (repeat' first | ((with_reducible refine Box.mk ?_); conv => whnf) | ((with_reducible refine And.intro (fun _ => ?_) (fun _ => ?_)) <;> conv => whnf) | ((with_reducible show AYld _ _ _ _ _); (refine AYld.of tok mixed ?_); conv => whnf) | ((with_reducible show forceH _ _); (refine (forceH_eq _ _).mpr ?_); conv => whnf) | ((with_reducible show ACall _ _ _ _ _); (refine ACall.of_pure (by assumption) (by rfl) ?_); conv => whnf) | ((with_reducible show Exists _); (refine ⟨_, ACall.of_pure (by assumption) (by rfl) ⟨rfl, rfl⟩, ?_⟩); conv => whnf) | ((with_reducible show _ ∧ _ ∧ _); (refine ⟨by omega, by omega, ?_⟩); conv => whnf) | fail)
    · rename_i h0
      rw [if_pos h0]
      refine ⟨[(2004, []), (2008, []), (3006, [4]), (3007, [4])], by kernel_rfl, ?_⟩
      (conv => whnf); (repeat' first | ((with_reducible refine Box.mk ?_); conv => whnf) | ((with_reducible refine And.intro (fun _ => ?_) (fun _ => ?_)) <;> conv => whnf) | ((with_reducible show AYld _ _ _ _ _); (refine AYld.of tok mixed ?_); conv => whnf) | ((with_reducible show forceH _ _); (refine (forceH_eq _ _).mpr ?_); conv => whnf) | ((with_reducible show ACall _ _ _ _ _); (refine ACall.of_pure (by assumption) (by rfl) ?_); conv => whnf) | ((with_reducible show Exists _); (refine ⟨_, ACall.of_pure (by assumption) (by rfl) ⟨rfl, rfl⟩, ?_⟩); conv => whnf) | ((with_reducible show _ ∧ _ ∧ _); (refine ⟨by omega, by omega, ?_⟩); conv => whnf) | fail)
      rw [w1]
      refine aDw [0] a1 rfl rfl rfl ?_
      (conv => whnf); (repeat' first | ((with_reducible refine Box.mk ?_); conv => whnf) | ((with_reducible refine And.intro (fun _ => ?_) (fun _ => ?_)) <;> conv => whnf) | ((with_reducible show AYld _ _ _ _ _); (refine AYld.of tok mixed ?_); conv => whnf) | ((with_reducible show forceH _ _); (refine (forceH_eq _ _).mpr ?_); conv => whnf) | ((with_reducible show ACall _ _ _ _ _); (refine ACall.of_pure (by assumption) (by rfl) ?_); conv => whnf) | ((with_reducible show Exists _); (refine ⟨_, ACall.of_pure (by assumption) (by rfl) ⟨rfl, rfl⟩, ?_⟩); conv => whnf) | ((with_reducible show _ ∧ _ ∧ _); (refine ⟨by omega, by omega, ?_⟩); conv => whnf) | fail)
      (refine And.intro ?_ ?_); (focus ((conv => whnf); (repeat' first | exact trivial | ((refine And.intro ?_ ?_); (focus ((conv => whnf); (first | exact ⟨rfl, rfl⟩ | exact ⟨by decide, by decide, rfl, rfl⟩ | exact ⟨by omega, by omega, rfl, rfl⟩ | exact ⟨by (simp only [List.length_drop, List.length_take]; omega), rfl, rfl⟩ | exact ⟨_, rfl, rfl, rfl⟩ | exact ⟨by omega, _, by assumption, rfl, rfl, rfl⟩ | ((refine ACall.of_pure (by assumption) (by rfl) ?_); (refine And.intro ?_ ?_ <;> rfl))))); (conv => whnf)))))
      (conv => whnf); (repeat' first | ((with_reducible refine Box.mk ?_); conv => whnf) | ((with_reducible refine And.intro (fun _ => ?_) (fun _ => ?_)) <;> conv => whnf) | ((with_reducible show AYld _ _ _ _ _); (refine AYld.of tok mixed ?_); conv => whnf) | ((with_reducible show forceH _ _); (refine (forceH_eq _ _).mpr ?_); conv => whnf) | ((with_reducible show ACall _ _ _ _ _); (refine ACall.of_pure (by assumption) (by rfl) ?_); conv => whnf) | ((with_reducible show Exists _); (refine ⟨_, ACall.of_pure (by assumption) (by rfl) ⟨rfl, rfl⟩, ?_⟩); conv => whnf) | ((with_reducible show _ ∧ _ ∧ _); (refine ⟨by omega, by omega, ?_⟩); conv => whnf) | fail)
      (refine And.intro ?_ ?_); (focus ((conv => whnf); (repeat' first | exact trivial | ((refine And.intro ?_ ?_); (focus ((conv => whnf); (first | exact ⟨rfl, rfl⟩ | exact ⟨by decide, by decide, rfl, rfl⟩ | exact ⟨by omega, by omega, rfl, rfl⟩ | exact ⟨by (simp only [List.length_drop, List.length_take]; omega), rfl, rfl⟩ | exact ⟨_, rfl, rfl, rfl⟩ | exact ⟨by omega, _, by assumption, rfl, rfl, rfl⟩ | ((refine ACall.of_pure (by assumption) (by rfl) ?_); (refine And.intro ?_ ?_ <;> rfl))))); (conv => whnf)))))
      (conv => whnf); (repeat' first | ((with_reducible refine Box.mk ?_); conv => whnf) | ((with_reducible refine And.intro (fun _ => ?_) (fun _ => ?_)) <;> conv => whnf) | ((with_reducible show AYld _ _ _ _ _); (refine AYld.of tok mixed ?_); conv => whnf) | ((with_reducible show forceH _ _); (refine (forceH_eq _ _).mpr ?_); conv => whnf) | ((with_reducible show ACall _ _ _ _ _); (refine ACall.of_pure (by assumption) (by rfl) ?_); conv => whnf) | ((with_reducible show Exists _); (refine ⟨_, ACall.of_pure (by assumption) (by rfl) ⟨rfl, rfl⟩, ?_⟩); conv => whnf) | ((with_reducible show _ ∧ _ ∧ _); (refine ⟨by omega, by omega, ?_⟩); conv => whnf) | fail)
      rw [w2]
      refine aDw [0, 2] a2 rfl rfl rfl ?_
      (conv => whnf); (repeat' first | ((with_reducible refine Box.mk ?_); conv => whnf) | ((with_reducible refine And.intro (fun _ => ?_) (fun _ => ?_)) <;> conv => whnf) | ((with_reducible show AYld _ _ _ _ _); (refine AYld.of tok mixed ?_); conv => whnf) | ((with_reducible show forceH _ _); (refine (forceH_eq _ _).mpr ?_); conv => whnf) | ((with_reducible show ACall _ _ _ _ _); (refine ACall.of_pure (by assumption) (by rfl) ?_); conv => whnf) | ((with_reducible show Exists _); (refine ⟨_, ACall.of_pure (by assumption) (by rfl) ⟨rfl, rfl⟩, ?_⟩); conv => whnf) | ((with_reducible show _ ∧ _ ∧ _); (refine ⟨by omega, by omega, ?_⟩); conv => whnf) | fail)
      exact weak_ren_to [(0, true), (3, true)] rfl rfl rfl ⟨rfl, trivial⟩
    · rename_i h0
      rw [if_neg h0]
      refine ⟨[(2005, []), (2009, []), (2013, []), (3007, [5]), (3008, [5]), (3011, [5, 9]), (3012, [5, 9])], by kernel_rfl, ?_⟩
      (conv => whnf); (repeat' first | ((with_reducible refine Box.mk ?_); conv => whnf) | ((with_reducible refine And.intro (fun _ => ?_) (fun _ => ?_)) <;> conv => whnf) | ((with_reducible show AYld _ _ _ _ _); (refine AYld.of tok mixed ?_); conv => whnf) | ((with_reducible show forceH _ _); (refine (forceH_eq _ _).mpr ?_); conv => whnf) | ((with_reducible show ACall _ _ _ _ _); (refine ACall.of_pure (by assumption) (by rfl) ?_); conv => whnf) | ((with_reducible show Exists _); (refine ⟨_, ACall.of_pure (by assumption) (by rfl) ⟨rfl, rfl⟩, ?_⟩); conv => whnf) | ((with_reducible show _ ∧ _ ∧ _); (refine ⟨by omega, by omega, ?_⟩); conv => whnf) | fail)
      rw [w4]
      refine aDw [0] b1 rfl rfl rfl ?_
      (conv => whnf); (repeat' first | ((with_reducible refine Box.mk ?_); conv => whnf) | ((with_reducible refine And.intro (fun _ => ?_) (fun _ => ?_)) <;> conv => whnf) | ((with_reducible show AYld _ _ _ _ _); (refine AYld.of tok mixed ?_); conv => whnf) | ((with_reducible show forceH _ _); (refine (forceH_eq _ _).mpr ?_); conv => whnf) | ((with_reducible show ACall _ _ _ _ _); (refine ACall.of_pure (by assumption) (by rfl) ?_); conv => whnf) | ((with_reducible show Exists _); (refine ⟨_, ACall.of_pure (by assumption) (by rfl) ⟨rfl, rfl⟩, ?_⟩); conv => whnf) | ((with_reducible show _ ∧ _ ∧ _); (refine ⟨by omega, by omega, ?_⟩); conv => whnf) | fail)
      (refine And.intro ?_ ?_); (focus ((conv => whnf); (repeat' first | exact trivial | ((refine And.intro ?_ ?_); (focus ((conv => whnf); (first | exact ⟨rfl, rfl⟩ | exact ⟨by decide, by decide, rfl, rfl⟩ | exact ⟨by omega, by omega, rfl, rfl⟩ | exact ⟨by (simp only [List.length_drop, List.length_take]; omega), rfl, rfl⟩ | exact ⟨_, rfl, rfl, rfl⟩ | exact ⟨by omega, _, by assumption, rfl, rfl, rfl⟩ | ((refine ACall.of_pure (by assumption) (by rfl) ?_); (refine And.intro ?_ ?_ <;> rfl))))); (conv => whnf)))))
      (conv => whnf); (repeat' first | ((with_reducible refine Box.mk ?_); conv => whnf) | ((with_reducible refine And.intro (fun _ => ?_) (fun _ => ?_)) <;> conv => whnf) | ((with_reducible show AYld _ _ _ _ _); (refine AYld.of tok mixed ?_); conv => whnf) | ((with_reducible show forceH _ _); (refine (forceH_eq _ _).mpr ?_); conv => whnf) | ((with_reducible show ACall _ _ _ _ _); (refine ACall.of_pure (by assumption) (by rfl) ?_); conv => whnf) | ((with_reducible show Exists _); (refine ⟨_, ACall.of_pure (by assumption) (by rfl) ⟨rfl, rfl⟩, ?_⟩); conv => whnf) | ((with_reducible show _ ∧ _ ∧ _); (refine ⟨by omega, by omega, ?_⟩); conv => whnf) | fail)
      (refine And.intro ?_ ?_); (focus ((conv => whnf); (repeat' first | exact trivial | ((refine And.intro ?_ ?_); (focus ((conv => whnf); (first | exact ⟨rfl, rfl⟩ | exact ⟨by decide, by decide, rfl, rfl⟩ | exact ⟨by omega, by omega, rfl, rfl⟩ | exact ⟨by (simp only [List.length_drop, List.length_take]; omega), rfl, rfl⟩ | exact ⟨_, rfl, rfl, rfl⟩ | exact ⟨by omega, _, by assumption, rfl, rfl, rfl⟩ | ((refine ACall.of_pure (by assumption) (by rfl) ?_); (refine And.intro ?_ ?_ <;> rfl))))); (conv => whnf)))))
      (conv => whnf); (repeat' first | ((with_reducible refine Box.mk ?_); conv => whnf) | ((with_reducible refine And.intro (fun _ => ?_) (fun _ => ?_)) <;> conv => whnf) | ((with_reducible show AYld _ _ _ _ _); (refine AYld.of tok mixed ?_); conv => whnf) | ((with_reducible show forceH _ _); (refine (forceH_eq _ _).mpr ?_); conv => whnf) | ((with_reducible show ACall _ _ _ _ _); (refine ACall.of_pure (by assumption) (by rfl) ?_); conv => whnf) | ((with_reducible show Exists _); (refine ⟨_, ACall.of_pure (by assumption) (by rfl) ⟨rfl, rfl⟩, ?_⟩); conv => whnf) | ((with_reducible show _ ∧ _ ∧ _); (refine ⟨by omega, by omega, ?_⟩); conv => whnf) | fail)
      rw [w2]
      refine aDw [0, 2] b2 rfl rfl rfl ?_
      (conv => whnf); (repeat' first | ((with_reducible refine Box.mk ?_); conv => whnf) | ((with_reducible refine And.intro (fun _ => ?_) (fun _ => ?_)) <;> conv => whnf) | ((with_reducible show AYld _ _ _ _ _); (refine AYld.of tok mixed ?_); conv => whnf) | ((with_reducible show forceH _ _); (refine (forceH_eq _ _).mpr ?_); conv => whnf) | ((with_reducible show ACall _ _ _ _ _); (refine ACall.of_pure (by assumption) (by rfl) ?_); conv => whnf) | ((with_reducible show Exists _); (refine ⟨_, ACall.of_pure (by assumption) (by rfl) ⟨rfl, rfl⟩, ?_⟩); conv => whnf) | ((with_reducible show _ ∧ _ ∧ _); (refine ⟨by omega, by omega, ?_⟩); conv => whnf) | fail)
      (refine And.intro ?_ ?_); (focus ((conv => whnf); (repeat' first | exact trivial | ((refine And.intro ?_ ?_); (focus ((conv => whnf); (first | exact ⟨rfl, rfl⟩ | exact ⟨by decide, by decide, rfl, rfl⟩ | exact ⟨by omega, by omega, rfl, rfl⟩ | exact ⟨by (simp only [List.length_drop, List.length_take]; omega), rfl, rfl⟩ | exact ⟨_, rfl, rfl, rfl⟩ | exact ⟨by omega, _, by assumption, rfl, rfl, rfl⟩ | ((refine ACall.of_pure (by assumption) (by rfl) ?_); (refine And.intro ?_ ?_ <;> rfl))))); (conv => whnf)))))
      (conv => whnf); (repeat' first | ((with_reducible refine Box.mk ?_); conv => whnf) | ((with_reducible refine And.intro (fun _ => ?_) (fun _ => ?_)) <;> conv => whnf) | ((with_reducible show AYld _ _ _ _ _); (refine AYld.of tok mixed ?_); conv => whnf) | ((with_reducible show forceH _ _); (refine (forceH_eq _ _).mpr ?_); conv => whnf) | ((with_reducible show ACall _ _ _ _ _); (refine ACall.of_pure (by assumption) (by rfl) ?_); conv => whnf) | ((with_reducible show Exists _); (refine ⟨_, ACall.of_pure (by assumption) (by rfl) ⟨rfl, rfl⟩, ?_⟩); conv => whnf) | ((with_reducible show _ ∧ _ ∧ _); (refine ⟨by omega, by omega, ?_⟩); conv => whnf) | fail)
      (refine And.intro ?_ ?_); (focus ((conv => whnf); (repeat' first | exact trivial | ((refine And.intro ?_ ?_); (focus ((conv => whnf); (first | exact ⟨rfl, rfl⟩ | exact ⟨by decide, by decide, rfl, rfl⟩ | exact ⟨by omega, by omega, rfl, rfl⟩ | exact ⟨by (simp only [List.length_drop, List.length_take]; omega), rfl, rfl⟩ | exact ⟨_, rfl, rfl, rfl⟩ | exact ⟨by omega, _, by assumption, rfl, rfl, rfl⟩ | ((refine ACall.of_pure (by assumption) (by rfl) ?_); (refine And.intro ?_ ?_ <;> rfl))))); (conv => whnf)))))
      (conv => whnf); (repeat' first | ((with_reducible refine Box.mk ?_); conv => whnf) | ((with_reducible refine And.intro (fun _ => ?_) (fun _ => ?_)) <;> conv => whnf) | ((with_reducible show AYld _ _ _ _ _); (refine AYld.of tok mixed ?_); conv => whnf) | ((with_reducible show forceH _ _); (refine (forceH_eq _ _).mpr ?_); conv => whnf) | ((with_reducible show ACall _ _ _ _ _); (refine ACall.of_pure (by assumption) (by rfl) ?_); conv => whnf) | ((with_reducible show Exists _); (refine ⟨_, ACall.of_pure (by assumption) (by rfl) ⟨rfl, rfl⟩, ?_⟩); conv => whnf) | ((with_reducible show _ ∧ _ ∧ _); (refine ⟨by omega, by omega, ?_⟩); conv => whnf) | fail)
      rw [w3]
      refine aDw [0, 3] b3 rfl rfl rfl ?_
      (conv => whnf); (repeat' first | ((with_reducible refine Box.mk ?_); conv => whnf) | ((with_reducible refine And.intro (fun _ => ?_) (fun _ => ?_)) <;> conv => whnf) | ((with_reducible show AYld _ _ _ _ _); (refine AYld.of tok mixed ?_); conv => whnf) | ((with_reducible show forceH _ _); (refine (forceH_eq _ _).mpr ?_); conv => whnf) | ((with_reducible show ACall _ _ _ _ _); (refine ACall.of_pure (by assumption) (by rfl) ?_); conv => whnf) | ((with_reducible show Exists _); (refine ⟨_, ACall.of_pure (by assumption) (by rfl) ⟨rfl, rfl⟩, ?_⟩); conv => whnf) | ((with_reducible show _ ∧ _ ∧ _); (refine ⟨by omega, by omega, ?_⟩); conv => whnf) | fail)
      exact weak_ren_to [(0, true), (4, true)] rfl rfl rfl ⟨rfl, trivial⟩
  · rw [hb] at q1
    have e : specB s = [] := by unfold specB; rw [if_pos hR]
    rw [e]
    refine DCall.of_awp tok mixed fn12 (Nat.le_of_ble_eq_true rfl) ?_
    (conv => whnf); (repeat' first | ((with_reducible refine Box.mk ?_); conv => whnf) | ((with_reducible refine And.intro (fun _ => ?_) (fun _ => ?_)) <;> conv => whnf) | ((with_reducible show AYld _ _ _ _ _); (refine AYld.of tok mixed ?_); conv => whnf) | ((with_reducible show forceH _ _); (refine (forceH_eq _ _).mpr ?_); conv => whnf) | ((with_reducible show ACall _ _ _ _ _); (refine ACall.of_pure (by assumption) (by rfl) ?_); conv => whnf) | ((with_reducible show Exists _); (refine ⟨_, ACall.of_pure (by assumption) (by rfl) ⟨rfl, rfl⟩, ?_⟩); conv => whnf) | ((with_reducible show _ ∧ _ ∧ _); (refine ⟨by omega, by omega, ?_⟩); conv => whnf) | fail)
    exact (weak_ren_to (l := [(0, mkRes [])]) (H' := wN) [(0, true)] rfl rfl rfl ⟨rfl, trivial⟩).trans (weak_nilrow (s := ⟨envL [(0, mkRes [])], wN⟩) (l := [(0, mkRes [])]) (H' := [.box 26 [.own 1]]) _ 1 (by decide) ⟨.inl rfl, trivial⟩ (nrBox 1 _))
theorem ent_wrap {e : Nat} (h : (e : Int) < 4294967296) : IntKind.u64.wrap (e : Int) = e := wrap_u64 (by omega) (by omega)
set_option maxHeartbeats 4000000 in
theorem xBytes_ok (s : Sc) (he : EntOk s) : DCall P 13 [sv s] [] (.sl (bcl (specB s))) [] := by
  have q1 := xfRight_ok s
  rcases right_cases s with ⟨hR, hb⟩ | ⟨hR, hb⟩
  · rw [hb] at q1
    unfold specB
    rw [if_neg (fun h => h hR)]
    obtain ⟨sid, ent, len⟩ := s
    unfold RightS at hR
    unfold EntOk at he
    dsimp only at hR he ⊢
    obtain ⟨i, rfl⟩ := nat_of hR.1
    obtain ⟨n, rfl⟩ := nat_of (show 0 ≤ len by omega)
    obtain ⟨e, rfl⟩ := nat_of he.1
    rw [Int.toNat_natCast, Int.toNat_natCast, Int.toNat_natCast]
    have w1 : IntKind.u64.wrap (i : Int) = i := wrap_u64 (by omega) (by omega)
    have w2 : IntKind.u64.wrap (n : Int) = n := wrap_u64 (by omega) (by omega)
    have w3 : IntKind.u64.wrap (e : Int) = e := wrap_u64 (by omega) (by omega)
    have w4 : IntKind.u64.wrap (IntKind.u64.wrap (i : Int) + 32768) = ((i + 32768 : Nat) : Int) := by rw [w1, wrap_u64 (by omega) (by omega)]; omega
    have hb' : ∀ m : Nat, m < 4294967296 → m < H64 := fun m h => Nat.lt_of_lt_of_le h (Nat.le_of_ble_eq_true rfl)
    have a1 := xNum_own i (hb' _ (by omega)) 2
    have a2 := xNum_own n (hb' _ (by omega)) 2
    have a3 := xNum_own (i + 32768) (hb' _ (by omega)) 2
    have a4 := xNum_own e (hb' _ (by omega)) 4
    rw [show szN 2 = 2 from rfl] at a1 a2 a3
    rw [show szN 4 = 4 from rfl] at a4
    have l1 := bcl_len (numB i 2)
    have l2 := bcl_len (numB n 2)
    have l3 := bcl_len (numB (i + 32768) 2)
    have l4 := bcl_len (numB e 4)
    rw [numB_len] at l1 l2 l3 l4
    have c2 := bcl_cells (numB n 2)
    have c4 := bcl_cells (numB e 4)
    refine DCall.of_awp tok mixed fn13 (Nat.le_of_ble_eq_true rfl) ?_
    (conv => whnf); (repeat' first | ((with_reducible refine Box.mk ?_); conv => whnf) | ((with_reducible refine And.intro (fun _ => ?_) (fun _ => ?_)) <;> conv => whnf) | ((with_reducible show AYld _ _ _ _ _); (refine AYld.of tok mixed ?_); conv => whnf) | ((with_reducible show forceH _ _); (refine (forceH_eq _ _).mpr ?_); conv => whnf) | ((with_reducible show ACall _ _ _ _ _); (refine ACall.of_pure (by assumption) (by rfl) ?_); conv => whnf) | ((with_reducible show Exists _); (refine ⟨_, ACall.of_pure (by assumption) (by rfl) ⟨rfl, rfl⟩, ?_⟩); conv => whnf) | ((with_reducible show _ ∧ _ ∧ _); (refine ⟨by omega, by omega, ?_⟩); conv => whnf) | fail)
    · rename_i h0
      rw [if_pos h0, bcl_app]
      generalize bcl (numB i 2) = x1 at *
      generalize bcl (numB n 2) = x2 at *
      refine ⟨[(2001, []), (2005, []), (3003, [1]), (3004, [1])], by kernel_rfl, ?_⟩
      (conv => whnf); (repeat' first | ((with_reducible refine Box.mk ?_); conv => whnf) | ((with_reducible refine And.intro (fun _ => ?_) (fun _ => ?_)) <;> conv => whnf) | ((with_reducible show AYld _ _ _ _ _); (refine AYld.of tok mixed ?_); conv => whnf) | ((with_reducible show forceH _ _); (refine (forceH_eq _ _).mpr ?_); conv => whnf) | ((with_reducible show ACall _ _ _ _ _); (refine ACall.of_pure (by assumption) (by rfl) ?_); conv => whnf) | ((with_reducible show Exists _); (refine ⟨_, ACall.of_pure (by assumption) (by rfl) ⟨rfl, rfl⟩, ?_⟩); conv => whnf) | ((with_reducible show _ ∧ _ ∧ _); (refine ⟨by omega, by omega, ?_⟩); conv => whnf) | fail)
      rw [w1]
      refine aDw [] a1 rfl rfl rfl ?_
      (conv => whnf); (repeat' first | ((with_reducible refine Box.mk ?_); conv => whnf) | ((with_reducible refine And.intro (fun _ => ?_) (fun _ => ?_)) <;> conv => whnf) | ((with_reducible show AYld _ _ _ _ _); (refine AYld.of tok mixed ?_); conv => whnf) | ((with_reducible show forceH _ _); (refine (forceH_eq _ _).mpr ?_); conv => whnf) | ((with_reducible show ACall _ _ _ _ _); (refine ACall.of_pure (by assumption) (by rfl) ?_); conv => whnf) | ((with_reducible show Exists _); (refine ⟨_, ACall.of_pure (by assumption) (by rfl) ⟨rfl, rfl⟩, ?_⟩); conv => whnf) | ((with_reducible show _ ∧ _ ∧ _); (refine ⟨by omega, by omega, ?_⟩); conv => whnf) | fail)
      (refine And.intro ?_ ?_); (focus ((conv => whnf); (repeat' first | exact trivial | ((refine And.intro ?_ ?_); (focus ((conv => whnf); (first | exact ⟨rfl, rfl⟩ | exact ⟨by decide, by decide, rfl, rfl⟩ | exact ⟨by omega, by omega, rfl, rfl⟩ | exact ⟨by (simp only [List.length_drop, List.length_take]; omega), rfl, rfl⟩ | exact ⟨_, rfl, rfl, rfl⟩ | exact ⟨by omega, _, by assumption, rfl, rfl, rfl⟩ | ((refine ACall.of_pure (by assumption) (by rfl) ?_); (refine And.intro ?_ ?_ <;> rfl))))); (conv => whnf)))))
      (conv => whnf); (repeat' first | ((with_reducible refine Box.mk ?_); conv => whnf) | ((with_reducible refine And.intro (fun _ => ?_) (fun _ => ?_)) <;> conv => whnf) | ((with_reducible show AYld _ _ _ _ _); (refine AYld.of tok mixed ?_); conv => whnf) | ((with_reducible show forceH _ _); (refine (forceH_eq _ _).mpr ?_); conv => whnf) | ((with_reducible show ACall _ _ _ _ _); (refine ACall.of_pure (by assumption) (by rfl) ?_); conv => whnf) | ((with_reducible show Exists _); (refine ⟨_, ACall.of_pure (by assumption) (by rfl) ⟨rfl, rfl⟩, ?_⟩); conv => whnf) | ((with_reducible show _ ∧ _ ∧ _); (refine ⟨by omega, by omega, ?_⟩); conv => whnf) | fail)
      (refine And.intro ?_ ?_); (focus ((conv => whnf); (repeat' first | exact trivial | ((refine And.intro ?_ ?_); (focus ((conv => whnf); (first | exact ⟨rfl, rfl⟩ | exact ⟨by decide, by decide, rfl, rfl⟩ | exact ⟨by omega, by omega, rfl, rfl⟩ | exact ⟨by (simp only [List.length_drop, List.length_take]; omega), rfl, rfl⟩ | exact ⟨_, rfl, rfl, rfl⟩ | exact ⟨by omega, _, by assumption, rfl, rfl, rfl⟩ | ((refine ACall.of_pure (by assumption) (by rfl) ?_); (refine And.intro ?_ ?_ <;> rfl))))); (conv => whnf)))))
      (conv => whnf); (repeat' first | ((with_reducible refine Box.mk ?_); conv => whnf) | ((with_reducible refine And.intro (fun _ => ?_) (fun _ => ?_)) <;> conv => whnf) | ((with_reducible show AYld _ _ _ _ _); (refine AYld.of tok mixed ?_); conv => whnf) | ((with_reducible show forceH _ _); (refine (forceH_eq _ _).mpr ?_); conv => whnf) | ((with_reducible show ACall _ _ _ _ _); (refine ACall.of_pure (by assumption) (by rfl) ?_); conv => whnf) | ((with_reducible show Exists _); (refine ⟨_, ACall.of_pure (by assumption) (by rfl) ⟨rfl, rfl⟩, ?_⟩); conv => whnf) | ((with_reducible show _ ∧ _ ∧ _); (refine ⟨by omega, by omega, ?_⟩); conv => whnf) | fail)
      rw [w2]
      refine aDw [] a2 rfl rfl rfl ?_
      (conv => whnf); (repeat' first | ((with_reducible refine Box.mk ?_); conv => whnf) | ((with_reducible refine And.intro (fun _ => ?_) (fun _ => ?_)) <;> conv => whnf) | ((with_reducible show AYld _ _ _ _ _); (refine AYld.of tok mixed ?_); conv => whnf) | ((with_reducible show forceH _ _); (refine (forceH_eq _ _).mpr ?_); conv => whnf) | ((with_reducible show ACall _ _ _ _ _); (refine ACall.of_pure (by assumption) (by rfl) ?_); conv => whnf) | ((with_reducible show Exists _); (refine ⟨_, ACall.of_pure (by assumption) (by rfl) ⟨rfl, rfl⟩, ?_⟩); conv => whnf) | ((with_reducible show _ ∧ _ ∧ _); (refine ⟨by omega, by omega, ?_⟩); conv => whnf) | fail)
      refine ⟨c2, by rw [l1, l2]; exact Nat.le_of_ble_eq_true rfl, by rw [l1, l2]; exact Nat.le_of_ble_eq_true rfl, ?_⟩
      (conv => whnf); (repeat' first | ((with_reducible refine Box.mk ?_); conv => whnf) | ((with_reducible refine And.intro (fun _ => ?_) (fun _ => ?_)) <;> conv => whnf) | ((with_reducible show AYld _ _ _ _ _); (refine AYld.of tok mixed ?_); conv => whnf) | ((with_reducible show forceH _ _); (refine (forceH_eq _ _).mpr ?_); conv => whnf) | ((with_reducible show ACall _ _ _ _ _); (refine ACall.of_pure (by assumption) (by rfl) ?_); conv => whnf) | ((with_reducible show Exists _); (refine ⟨_, ACall.of_pure (by assumption) (by rfl) ⟨rfl, rfl⟩, ?_⟩); conv => whnf) | ((with_reducible show _ ∧ _ ∧ _); (refine ⟨by omega, by omega, ?_⟩); conv => whnf) | fail)
      exact weak_cr 3 [] rfl rfl rfl rfl rfl
    · rename_i h0
      rw [if_neg h0, bcl_app, bcl_app]
      generalize bcl (numB (i + 32768) 2) = x1 at *
      generalize bcl (numB n 2) = x2 at *
      generalize bcl (numB e 4) = x3 at *
      refine ⟨[(2002, []), (2006, []), (3004, [2]), (3005, [2])], by kernel_rfl, ?_⟩
      (conv => whnf); (repeat' first | ((with_reducible refine Box.mk ?_); conv => whnf) | ((with_reducible refine And.intro (fun _ => ?_) (fun _ => ?_)) <;> conv => whnf) | ((with_reducible show AYld _ _ _ _ _); (refine AYld.of tok mixed ?_); conv => whnf) | ((with_reducible show forceH _ _); (refine (forceH_eq _ _).mpr ?_); conv => whnf) | ((with_reducible show ACall _ _ _ _ _); (refine ACall.of_pure (by assumption) (by rfl) ?_); conv => whnf) | ((with_reducible show Exists _); (refine ⟨_, ACall.of_pure (by assumption) (by rfl) ⟨rfl, rfl⟩, ?_⟩); conv => whnf) | ((with_reducible show _ ∧ _ ∧ _); (refine ⟨by omega, by omega, ?_⟩); conv => whnf) | fail)
      rw [w4]
      refine aDw [] a3 rfl rfl rfl ?_
      (conv => whnf); (repeat' first | ((with_reducible refine Box.mk ?_); conv => whnf) | ((with_reducible refine And.intro (fun _ => ?_) (fun _ => ?_)) <;> conv => whnf) | ((with_reducible show AYld _ _ _ _ _); (refine AYld.of tok mixed ?_); conv => whnf) | ((with_reducible show forceH _ _); (refine (forceH_eq _ _).mpr ?_); conv => whnf) | ((with_reducible show ACall _ _ _ _ _); (refine ACall.of_pure (by assumption) (by rfl) ?_); conv => whnf) | ((with_reducible show Exists _); (refine ⟨_, ACall.of_pure (by assumption) (by rfl) ⟨rfl, rfl⟩, ?_⟩); conv => whnf) | ((with_reducible show _ ∧ _ ∧ _); (refine ⟨by omega, by omega, ?_⟩); conv => whnf) | fail)
      (refine And.intro ?_ ?_); (focus ((conv => whnf); (repeat' first | exact trivial | ((refine And.intro ?_ ?_); (focus ((conv => whnf); (first | exact ⟨rfl, rfl⟩ | exact ⟨by decide, by decide, rfl, rfl⟩ | exact ⟨by omega, by omega, rfl, rfl⟩ | exact ⟨by (simp only [List.length_drop, List.length_take]; omega), rfl, rfl⟩ | exact ⟨_, rfl, rfl, rfl⟩ | exact ⟨by omega, _, by assumption, rfl, rfl, rfl⟩ | ((refine ACall.of_pure (by assumption) (by rfl) ?_); (refine And.intro ?_ ?_ <;> rfl))))); (conv => whnf)))))
      (conv => whnf); (repeat' first | ((with_reducible refine Box.mk ?_); conv => whnf) | ((with_reducible refine And.intro (fun _ => ?_) (fun _ => ?_)) <;> conv => whnf) | ((with_reducible show AYld _ _ _ _ _); (refine AYld.of tok mixed ?_); conv => whnf) | ((with_reducible show forceH _ _); (refine (forceH_eq _ _).mpr ?_); conv => whnf) | ((with_reducible show ACall _ _ _ _ _); (refine ACall.of_pure (by assumption) (by rfl) ?_); conv => whnf) | ((with_reducible show Exists _); (refine ⟨_, ACall.of_pure (by assumption) (by rfl) ⟨rfl, rfl⟩, ?_⟩); conv => whnf) | ((with_reducible show _ ∧ _ ∧ _); (refine ⟨by omega, by omega, ?_⟩); conv => whnf) | fail)
      (refine And.intro ?_ ?_); (focus ((conv => whnf); (repeat' first | exact trivial | ((refine And.intro ?_ ?_); (focus ((conv => whnf); (first | exact ⟨rfl, rfl⟩ | exact ⟨by decide, by decide, rfl, rfl⟩ | exact ⟨by omega, by omega, rfl, rfl⟩ | exact ⟨by (simp only [List.length_drop, List.length_take]; omega), rfl, rfl⟩ | exact ⟨_, rfl, rfl, rfl⟩ | exact ⟨by omega, _, by assumption, rfl, rfl, rfl⟩ | ((refine ACall.of_pure (by assumption) (by rfl) ?_); (refine And.intro ?_ ?_ <;> rfl))))); (conv => whnf)))))
      (conv => whnf); (repeat' first | ((with_reducible refine Box.mk ?_); conv => whnf) | ((with_reducible refine And.intro (fun _ => ?_) (fun _ => ?_)) <;> conv => whnf) | ((with_reducible show AYld _ _ _ _ _); (refine AYld.of tok mixed ?_); conv => whnf) | ((with_reducible show forceH _ _); (refine (forceH_eq _ _).mpr ?_); conv => whnf) | ((with_reducible show ACall _ _ _ _ _); (refine ACall.of_pure (by assumption) (by rfl) ?_); conv => whnf) | ((with_reducible show Exists _); (refine ⟨_, ACall.of_pure (by assumption) (by rfl) ⟨rfl, rfl⟩, ?_⟩); conv => whnf) | ((with_reducible show _ ∧ _ ∧ _); (refine ⟨by omega, by omega, ?_⟩); conv => whnf) | fail)
      rw [w2]
      refine aDw [] a2 rfl rfl rfl ?_
      (conv => whnf); (repeat' first | ((with_reducible refine Box.mk ?_); conv => whnf) | ((with_reducible refine And.intro (fun _ => ?_) (fun _ => ?_)) <;> conv => whnf) | ((with_reducible show AYld _ _ _ _ _); (refine AYld.of tok mixed ?_); conv => whnf) | ((with_reducible show forceH _ _); (refine (forceH_eq _ _).mpr ?_); conv => whnf) | ((with_reducible show ACall _ _ _ _ _); (refine ACall.of_pure (by assumption) (by rfl) ?_); conv => whnf) | ((with_reducible show Exists _); (refine ⟨_, ACall.of_pure (by assumption) (by rfl) ⟨rfl, rfl⟩, ?_⟩); conv => whnf) | ((with_reducible show _ ∧ _ ∧ _); (refine ⟨by omega, by omega, ?_⟩); conv => whnf) | fail)
      refine ⟨c2, by rw [l3, l2]; exact Nat.le_of_ble_eq_true rfl, by rw [l3, l2]; exact Nat.le_of_ble_eq_true rfl, ?_⟩
      (conv => whnf); (repeat' first | ((with_reducible refine Box.mk ?_); conv => whnf) | ((with_reducible refine And.intro (fun _ => ?_) (fun _ => ?_)) <;> conv => whnf) | ((with_reducible show AYld _ _ _ _ _); (refine AYld.of tok mixed ?_); conv => whnf) | ((with_reducible show forceH _ _); (refine (forceH_eq _ _).mpr ?_); conv => whnf) | ((with_reducible show ACall _ _ _ _ _); (refine ACall.of_pure (by assumption) (by rfl) ?_); conv => whnf) | ((with_reducible show Exists _); (refine ⟨_, ACall.of_pure (by assumption) (by rfl) ⟨rfl, rfl⟩, ?_⟩); conv => whnf) | ((with_reducible show _ ∧ _ ∧ _); (refine ⟨by omega, by omega, ?_⟩); conv => whnf) | fail)
      rw [w3]
      refine aW [] a4 rfl rfl rfl ?_
      (conv => whnf); (repeat' first | ((with_reducible refine Box.mk ?_); conv => whnf) | ((with_reducible refine And.intro (fun _ => ?_) (fun _ => ?_)) <;> conv => whnf) | ((with_reducible show AYld _ _ _ _ _); (refine AYld.of tok mixed ?_); conv => whnf) | ((with_reducible show forceH _ _); (refine (forceH_eq _ _).mpr ?_); conv => whnf) | ((with_reducible show ACall _ _ _ _ _); (refine ACall.of_pure (by assumption) (by rfl) ?_); conv => whnf) | ((with_reducible show Exists _); (refine ⟨_, ACall.of_pure (by assumption) (by rfl) ⟨rfl, rfl⟩, ?_⟩); conv => whnf) | ((with_reducible show _ ∧ _ ∧ _); (refine ⟨by omega, by omega, ?_⟩); conv => whnf) | fail)
      refine ⟨c4, by rw [List.length_append, l3, l2, l4]; exact Nat.le_of_ble_eq_true rfl, by rw [List.length_append, l3, l2, l4]; exact Nat.le_of_ble_eq_true rfl, ?_⟩
      (conv => whnf); (repeat' first | ((with_reducible refine Box.mk ?_); conv => whnf) | ((with_reducible refine And.intro (fun _ => ?_) (fun _ => ?_)) <;> conv => whnf) | ((with_reducible show AYld _ _ _ _ _); (refine AYld.of tok mixed ?_); conv => whnf) | ((with_reducible show forceH _ _); (refine (forceH_eq _ _).mpr ?_); conv => whnf) | ((with_reducible show ACall _ _ _ _ _); (refine ACall.of_pure (by assumption) (by rfl) ?_); conv => whnf) | ((with_reducible show Exists _); (refine ⟨_, ACall.of_pure (by assumption) (by rfl) ⟨rfl, rfl⟩, ?_⟩); conv => whnf) | ((with_reducible show _ ∧ _ ∧ _); (refine ⟨by omega, by omega, ?_⟩); conv => whnf) | fail)
      exact weak_cr 5 [] rfl rfl rfl rfl rfl
  · rw [hb] at q1
    have e : specB s = [] := by unfold specB; rw [if_pos hR]
    rw [e]
    refine DCall.of_awp tok mixed fn13 (Nat.le_of_ble_eq_true rfl) ?_
    (conv => whnf); (repeat' first | ((with_reducible refine Box.mk ?_); conv => whnf) | ((with_reducible refine And.intro (fun _ => ?_) (fun _ => ?_)) <;> conv => whnf) | ((with_reducible show AYld _ _ _ _ _); (refine AYld.of tok mixed ?_); conv => whnf) | ((with_reducible show forceH _ _); (refine (forceH_eq _ _).mpr ?_); conv => whnf) | ((with_reducible show ACall _ _ _ _ _); (refine ACall.of_pure (by assumption) (by rfl) ?_); conv => whnf) | ((with_reducible show Exists _); (refine ⟨_, ACall.of_pure (by assumption) (by rfl) ⟨rfl, rfl⟩, ?_⟩); conv => whnf) | ((with_reducible show _ ∧ _ ∧ _); (refine ⟨by omega, by omega, ?_⟩); conv => whnf) | fail)
    exact weak_nr [] rfl rfl rfl rfl
end Go.Proofs.YtnajpmepcffnaaaDoor
end

section
/- field: a field and a value, read. -/
namespace Go.Proofs.YtnajpmepcffnaaaDoor
open Go.Ve

/-- What a field is, by what was read of it. -/
def specOf (i n en : Nat) (e : Int) : Sc := if e = 0 then ⟨((i % 32768 : Nat) : Int), (en : Int), (n : Int)⟩ else ⟨0, 0, 0⟩
def specR (x1 x2 x3 : Bs) (b : Bs) (e : Int) : Sc × Bs × Int := (specOf (valB x1) (valB x2) (valB x3) e, b, e)
/-- A field read: what it is; what is left; the fault. -/
def readF (bs : Bs) (e : Int) : Sc × Bs × Int :=
  match rawF 2 bs e with
  | (x1, b1, e1) => match rawF 2 b1 e1 with
    | (x2, b2, e2) => match rawF 4 b2 (mustE e2 (decide (0 < valB x2))) with
      | (x3, b3, e3) => if valB x1 < 32768 then specR x1 x2 [] b2 (mustE e2 (decide (0 < valB x2))) else specR x1 x2 x3 b3 (mustE e3 (decide (0 < valB x3)))
theorem wrap_u32 {n : Int} (h1 : 0 ≤ n) (h2 : n ≤ 4294967295) : IntKind.u32.wrap n = n := by
  simp [IntKind.wrap, IntKind.signed, IntKind.bits]; omega
theorem raw_val (n k : Nat) (bs : Bs) (e : Int) (h : 256 ^ n = k) : valB (rawF (n : Nat) bs e).1 < k := by
  rw [← h]
  exact Nat.lt_of_lt_of_le (valB_lt _) (Nat.pow_le_pow_right (by decide) (raw_len n bs e))
set_option maxHeartbeats 8000000 in
theorem fRead_ok (bs : Bs) (e : Int) (hbs : bs.length ≤ 1000000000) : DCall P 15 [.ptr 0 0] (rH bs e) (sv (readF bs e).1) (rH (readF bs e).2.1 (readF bs e).2.2) := by
  have q1 := rNum_ok bs e 2 hbs
  have l1 := raw_rest 2 bs e
  have v1 := raw_val 2 65536 bs e rfl
  rw [show ((szN 2 : Nat) : Int) = 2 from rfl] at q1
  rw [show (((2 : Nat) : Nat) : Int) = 2 from rfl] at v1
  unfold readF
  generalize rawF 2 bs e = z1 at *
  obtain ⟨x1, b1, e1⟩ := z1
  dsimp only at q1 l1 v1 ⊢
  have q2 := rNum_ok b1 e1 2 (by omega)
  have l2 := raw_rest 2 b1 e1
  have v2 := raw_val 2 65536 b1 e1 rfl
  rw [show ((szN 2 : Nat) : Int) = 2 from rfl] at q2
  rw [show (((2 : Nat) : Nat) : Int) = 2 from rfl] at v2
  generalize rawF 2 b1 e1 = z2 at *
  obtain ⟨x2, b2, e2⟩ := z2
  dsimp only at q2 l2 v2 ⊢
  have m2 := fun b => rMust_ok b2 e2 b
  have q3 := rNum_ok b2 (mustE e2 (decide (0 < valB x2))) 4 (by omega)
  have q3e := rErr_ok b2 (mustE e2 (decide (0 < valB x2)))
  have l3 := raw_rest 4 b2 (mustE e2 (decide (0 < valB x2)))
  have v3 := raw_val 4 4294967296 b2 (mustE e2 (decide (0 < valB x2))) rfl
  rw [show ((szN 4 : Nat) : Int) = 4 from rfl] at q3
  rw [show (((4 : Nat) : Nat) : Int) = 4 from rfl] at v3
  generalize rawF 4 b2 (mustE e2 (decide (0 < valB x2))) = z3 at *
  obtain ⟨x3, b3, e3⟩ := z3
  dsimp only at q3 l3 v3 ⊢
  have m3 := fun b => rMust_ok b3 e3 b
  have q3f := rErr_ok b3 (mustE e3 (decide (0 < valB x3)))
  have z0 : valB [] = 0 := rfl
  unfold specR
  rw [z0]
  generalize valB x1 = i at *
  generalize valB x2 = n at *
  generalize valB x3 = en at *
  have w1 : IntKind.i64.wrap (i : Int) = i := wrap_i64 (by omega) (by omega)
  have w2 : IntKind.i64.wrap (n : Int) = n := wrap_i64 (by omega) (by omega)
  have w3 : IntKind.u32.wrap (en : Int) = en := wrap_u32 (by omega) (by omega)
  have wm : Int.tmod (i : Int) 32768 = ((i % 32768 : Nat) : Int) := by rw [Int.tmod_eq_emod_of_nonneg (by omega)]; rfl
  have sp : ∀ (m : Nat) (f : Int), f = 0 → sv (specOf i n m f) = .agg [.int .i64 ((i % 32768 : Nat) : Int), .int .u32 (m : Int), .int .i64 (n : Int)] := fun m f h => by unfold specOf; rw [if_pos h]; rfl
  have sz : ∀ (m : Nat) (f : Int), ¬ f = 0 → sv (specOf i n m f) = .agg [.int .i64 0, .int .u32 0, .int .i64 0] := fun m f h => by unfold specOf; rw [if_neg h]; rfl
  refine DCall.of_awp tok mixed fn15 (Nat.le_of_ble_eq_true rfl) ?_
  (conv => whnf); (repeat' first | ((with_reducible refine Box.mk ?_); conv => whnf) | ((with_reducible refine And.intro (fun _ => ?_) (fun _ => ?_)) <;> conv => whnf) | ((with_reducible show AYld _ _ _ _ _); (refine AYld.of tok mixed ?_); conv => whnf) | ((with_reducible show forceH _ _); (refine (forceH_eq _ _).mpr ?_); conv => whnf) | ((with_reducible show ACall _ _ _ _ _); (refine ACall.of_pure (by assumption) (by rfl) ?_); conv => whnf) | ((with_reducible show Exists _); (refine ⟨_, ACall.of_pure (by assumption) (by rfl) ⟨rfl, rfl⟩, ?_⟩); conv => whnf) | ((with_reducible show _ ∧ _ ∧ _); (refine ⟨by omega, by omega, ?_⟩); conv => whnf) | fail)
  refine aW [0] q1 rfl rfl rfl ?_
  (conv => whnf); (repeat' first | ((with_reducible refine Box.mk ?_); conv => whnf) | ((with_reducible refine And.intro (fun _ => ?_) (fun _ => ?_)) <;> conv => whnf) | ((with_reducible show AYld _ _ _ _ _); (refine AYld.of tok mixed ?_); conv => whnf) | ((with_reducible show forceH _ _); (refine (forceH_eq _ _).mpr ?_); conv => whnf) | ((with_reducible show ACall _ _ _ _ _); (refine ACall.of_pure (by assumption) (by rfl) ?_); conv => whnf) | ((with_reducible show Exists _); (refine ⟨_, ACall.of_pure (by assumption) (by rfl) ⟨rfl, rfl⟩, ?_⟩); conv => whnf) | ((with_reducible show _ ∧ _ ∧ _); (refine ⟨by omega, by omega, ?_⟩); conv => whnf) | fail)
  rw [w1]
  refine aW [0] q2 rfl rfl rfl ?_
  (conv => whnf); (repeat' first | ((with_reducible refine Box.mk ?_); conv => whnf) | ((with_reducible refine And.intro (fun _ => ?_) (fun _ => ?_)) <;> conv => whnf) | ((with_reducible show AYld _ _ _ _ _); (refine AYld.of tok mixed ?_); conv => whnf) | ((with_reducible show forceH _ _); (refine (forceH_eq _ _).mpr ?_); conv => whnf) | ((with_reducible show ACall _ _ _ _ _); (refine ACall.of_pure (by assumption) (by rfl) ?_); conv => whnf) | ((with_reducible show Exists _); (refine ⟨_, ACall.of_pure (by assumption) (by rfl) ⟨rfl, rfl⟩, ?_⟩); conv => whnf) | ((with_reducible show _ ∧ _ ∧ _); (refine ⟨by omega, by omega, ?_⟩); conv => whnf) | fail)
  all_goals (
    rename_i hp
    rw [w2] at hp ⊢
    first
      | (have hd : decide (0 < n) = true := decide_eq_true (by omega)
         rw [hd] at q3 q3e ⊢
         refine aW [0] (m2 true) rfl rfl rfl ?_)
      | (have hd : decide (0 < n) = false := decide_eq_false (by omega)
         rw [hd] at q3 q3e ⊢
         refine aW [0] (m2 false) rfl rfl rfl ?_)
    (conv => whnf); (repeat' first | ((with_reducible refine Box.mk ?_); conv => whnf) | ((with_reducible refine And.intro (fun _ => ?_) (fun _ => ?_)) <;> conv => whnf) | ((with_reducible show AYld _ _ _ _ _); (refine AYld.of tok mixed ?_); conv => whnf) | ((with_reducible show forceH _ _); (refine (forceH_eq _ _).mpr ?_); conv => whnf) | ((with_reducible show ACall _ _ _ _ _); (refine ACall.of_pure (by assumption) (by rfl) ?_); conv => whnf) | ((with_reducible show Exists _); (refine ⟨_, ACall.of_pure (by assumption) (by rfl) ⟨rfl, rfl⟩, ?_⟩); conv => whnf) | ((with_reducible show _ ∧ _ ∧ _); (refine ⟨by omega, by omega, ?_⟩); conv => whnf) | fail)
    refine ⟨by decide, ?_⟩
    (conv => whnf); (repeat' first | ((with_reducible refine Box.mk ?_); conv => whnf) | ((with_reducible refine And.intro (fun _ => ?_) (fun _ => ?_)) <;> conv => whnf) | ((with_reducible show AYld _ _ _ _ _); (refine AYld.of tok mixed ?_); conv => whnf) | ((with_reducible show forceH _ _); (refine (forceH_eq _ _).mpr ?_); conv => whnf) | ((with_reducible show ACall _ _ _ _ _); (refine ACall.of_pure (by assumption) (by rfl) ?_); conv => whnf) | ((with_reducible show Exists _); (refine ⟨_, ACall.of_pure (by assumption) (by rfl) ⟨rfl, rfl⟩, ?_⟩); conv => whnf) | ((with_reducible show _ ∧ _ ∧ _); (refine ⟨by omega, by omega, ?_⟩); conv => whnf) | fail)
    · rename_i hi
      rw [if_neg (by omega)]
      refine aW [0] q3 rfl rfl rfl ?_
      (conv => whnf); (repeat' first | ((with_reducible refine Box.mk ?_); conv => whnf) | ((with_reducible refine And.intro (fun _ => ?_) (fun _ => ?_)) <;> conv => whnf) | ((with_reducible show AYld _ _ _ _ _); (refine AYld.of tok mixed ?_); conv => whnf) | ((with_reducible show forceH _ _); (refine (forceH_eq _ _).mpr ?_); conv => whnf) | ((with_reducible show ACall _ _ _ _ _); (refine ACall.of_pure (by assumption) (by rfl) ?_); conv => whnf) | ((with_reducible show Exists _); (refine ⟨_, ACall.of_pure (by assumption) (by rfl) ⟨rfl, rfl⟩, ?_⟩); conv => whnf) | ((with_reducible show _ ∧ _ ∧ _); (refine ⟨by omega, by omega, ?_⟩); conv => whnf) | fail)
      all_goals (
        rename_i hp2
        rw [w3] at hp2 ⊢
        first
          | (have hd2 : decide (0 < en) = true := decide_eq_true (by omega)
             rw [hd2] at q3f ⊢
             refine aW [0] (m3 true) rfl rfl rfl ?_)
          | (have hd2 : decide (0 < en) = false := decide_eq_false (by omega)
             rw [hd2] at q3f ⊢
             refine aW [0] (m3 false) rfl rfl rfl ?_)
        (conv => whnf); (repeat' first | ((with_reducible refine Box.mk ?_); conv => whnf) | ((with_reducible refine And.intro (fun _ => ?_) (fun _ => ?_)) <;> conv => whnf) | ((with_reducible show AYld _ _ _ _ _); (refine AYld.of tok mixed ?_); conv => whnf) | ((with_reducible show forceH _ _); (refine (forceH_eq _ _).mpr ?_); conv => whnf) | ((with_reducible show ACall _ _ _ _ _); (refine ACall.of_pure (by assumption) (by rfl) ?_); conv => whnf) | ((with_reducible show Exists _); (refine ⟨_, ACall.of_pure (by assumption) (by rfl) ⟨rfl, rfl⟩, ?_⟩); conv => whnf) | ((with_reducible show _ ∧ _ ∧ _); (refine ⟨by omega, by omega, ?_⟩); conv => whnf) | fail)
        refine aW [0] q3f rfl rfl rfl ?_
        (conv => whnf); (repeat' first | ((with_reducible refine Box.mk ?_); conv => whnf) | ((with_reducible refine And.intro (fun _ => ?_) (fun _ => ?_)) <;> conv => whnf) | ((with_reducible show AYld _ _ _ _ _); (refine AYld.of tok mixed ?_); conv => whnf) | ((with_reducible show forceH _ _); (refine (forceH_eq _ _).mpr ?_); conv => whnf) | ((with_reducible show ACall _ _ _ _ _); (refine ACall.of_pure (by assumption) (by rfl) ?_); conv => whnf) | ((with_reducible show Exists _); (refine ⟨_, ACall.of_pure (by assumption) (by rfl) ⟨rfl, rfl⟩, ?_⟩); conv => whnf) | ((with_reducible show _ ∧ _ ∧ _); (refine ⟨by omega, by omega, ?_⟩); conv => whnf) | fail)
        · rename_i hz
          rw [wm]
          exact weak_ren_to [(0, true)] rfl rfl rfl ⟨(sp en _ hz).symm, trivial⟩
        · rename_i hz
          exact weak_ren_to [(0, true)] rfl rfl rfl ⟨(sz en _ hz).symm, trivial⟩)
    · rename_i hi
      rw [if_pos (by omega)]
      refine aW [0] q3e rfl rfl rfl ?_
      (conv => whnf); (repeat' first | ((with_reducible refine Box.mk ?_); conv => whnf) | ((with_reducible refine And.intro (fun _ => ?_) (fun _ => ?_)) <;> conv => whnf) | ((with_reducible show AYld _ _ _ _ _); (refine AYld.of tok mixed ?_); conv => whnf) | ((with_reducible show forceH _ _); (refine (forceH_eq _ _).mpr ?_); conv => whnf) | ((with_reducible show ACall _ _ _ _ _); (refine ACall.of_pure (by assumption) (by rfl) ?_); conv => whnf) | ((with_reducible show Exists _); (refine ⟨_, ACall.of_pure (by assumption) (by rfl) ⟨rfl, rfl⟩, ?_⟩); conv => whnf) | ((with_reducible show _ ∧ _ ∧ _); (refine ⟨by omega, by omega, ?_⟩); conv => whnf) | fail)
      · rename_i hz
        rw [wm]
        exact weak_ren_to [(0, true)] rfl rfl rfl ⟨(sp 0 _ hz).symm, trivial⟩
      · rename_i hz
        exact weak_ren_to [(0, true)] rfl rfl rfl ⟨(sz 0 _ hz).symm, trivial⟩)
set_option maxHeartbeats 8000000 in
theorem xfRead_ok (pre bs : Bs) (e : Int) (hbs : (pre ++ bs).length ≤ 1000000000) : ∃ pre', pre' ++ (readF bs e).2.1 = pre ++ bs ∧ DCall P 16 [.ptr 0 0] (xH pre bs e) (sv (readF bs e).1) (xH pre' (readF bs e).2.1 (readF bs e).2.2) := by
  have q1 := xrNum_ok pre bs e 2 hbs
  have l1 := raw_app 2 bs e
  have v1 := raw_val 2 65536 bs e rfl
  rw [show ((szN 2 : Nat) : Int) = 2 from rfl] at q1
  rw [show (((2 : Nat) : Nat) : Int) = 2 from rfl] at v1
  unfold readF
  generalize rawF 2 bs e = z1 at *
  obtain ⟨x1, b1, e1⟩ := z1
  dsimp only at q1 l1 v1 ⊢
  have q2 := xrNum_ok (pre ++ x1) b1 e1 2 (by rw [List.append_assoc, l1]; exact hbs)
  have l2 := raw_app 2 b1 e1
  have v2 := raw_val 2 65536 b1 e1 rfl
  rw [show ((szN 2 : Nat) : Int) = 2 from rfl] at q2
  rw [show (((2 : Nat) : Nat) : Int) = 2 from rfl] at v2
  generalize rawF 2 b1 e1 = z2 at *
  obtain ⟨x2, b2, e2⟩ := z2
  dsimp only at q2 l2 v2 ⊢
  have m2 := fun b => xMust_ok (pre ++ x1 ++ x2) b2 e2 b
  have q3 := xrNum_ok (pre ++ x1 ++ x2) b2 (mustE e2 (decide (0 < valB x2))) 4 (by rw [List.append_assoc, l2, List.append_assoc, l1]; exact hbs)
  have l3 := raw_app 4 b2 (mustE e2 (decide (0 < valB x2)))
  have v3 := raw_val 4 4294967296 b2 (mustE e2 (decide (0 < valB x2))) rfl
  rw [show ((szN 4 : Nat) : Int) = 4 from rfl] at q3
  rw [show (((4 : Nat) : Nat) : Int) = 4 from rfl] at v3
  generalize rawF 4 b2 (mustE e2 (decide (0 < valB x2))) = z3 at *
  obtain ⟨x3, b3, e3⟩ := z3
  dsimp only at q3 l3 v3 ⊢
  have m3 := fun b => xMust_ok (pre ++ x1 ++ x2 ++ x3) b3 e3 b
  have z0 : valB [] = 0 := rfl
  unfold specR
  rw [z0]
  generalize valB x1 = i at *
  generalize valB x2 = n at *
  generalize valB x3 = en at *
  have w1 : IntKind.i64.wrap (i : Int) = i := wrap_i64 (by omega) (by omega)
  have w2 : IntKind.i64.wrap (n : Int) = n := wrap_i64 (by omega) (by omega)
  have w3 : IntKind.u32.wrap (en : Int) = en := wrap_u32 (by omega) (by omega)
  have wm : Int.tmod (i : Int) 32768 = ((i % 32768 : Nat) : Int) := by rw [Int.tmod_eq_emod_of_nonneg (by omega)]; rfl
  have sp : ∀ (m : Nat) (f : Int), f = 0 → sv (specOf i n m f) = .agg [.int .i64 ((i % 32768 : Nat) : Int), .int .u32 (m : Int), .int .i64 (n : Int)] := fun m f h => by unfold specOf; rw [if_pos h]; rfl
  have sz : ∀ (m : Nat) (f : Int), ¬ f = 0 → sv (specOf i n m f) = .agg [.int .i64 0, .int .u32 0, .int .i64 0] := fun m f h => by unfold specOf; rw [if_neg h]; rfl
  by_cases hi : i < 32768
  · rw [if_pos hi]
    refine ⟨pre ++ x1 ++ x2, by show pre ++ x1 ++ x2 ++ b2 = _; rw [List.append_assoc, l2, List.append_assoc, l1], ?_⟩
    have hi2 : i % 32768 = i := Nat.mod_eq_of_lt hi
    refine DCall.of_awp tok mixed fn16 (Nat.le_of_ble_eq_true rfl) ?_
    (conv => whnf); (repeat' first | ((with_reducible refine Box.mk ?_); conv => whnf) | ((with_reducible refine And.intro (fun _ => ?_) (fun _ => ?_)) <;> conv => whnf) | ((with_reducible show AYld _ _ _ _ _); (refine AYld.of tok mixed ?_); conv => whnf) | ((with_reducible show forceH _ _); (refine (forceH_eq _ _).mpr ?_); conv => whnf) | ((with_reducible show ACall _ _ _ _ _); (refine ACall.of_pure (by assumption) (by rfl) ?_); conv => whnf) | ((with_reducible show Exists _); (refine ⟨_, ACall.of_pure (by assumption) (by rfl) ⟨rfl, rfl⟩, ?_⟩); conv => whnf) | ((with_reducible show _ ∧ _ ∧ _); (refine ⟨by omega, by omega, ?_⟩); conv => whnf) | fail)
    refine aW [0] q1 rfl rfl rfl ?_
    (conv => whnf); (repeat' first | ((with_reducible refine Box.mk ?_); conv => whnf) | ((with_reducible refine And.intro (fun _ => ?_) (fun _ => ?_)) <;> conv => whnf) | ((with_reducible show AYld _ _ _ _ _); (refine AYld.of tok mixed ?_); conv => whnf) | ((with_reducible show forceH _ _); (refine (forceH_eq _ _).mpr ?_); conv => whnf) | ((with_reducible show ACall _ _ _ _ _); (refine ACall.of_pure (by assumption) (by rfl) ?_); conv => whnf) | ((with_reducible show Exists _); (refine ⟨_, ACall.of_pure (by assumption) (by rfl) ⟨rfl, rfl⟩, ?_⟩); conv => whnf) | ((with_reducible show _ ∧ _ ∧ _); (refine ⟨by omega, by omega, ?_⟩); conv => whnf) | fail)
    refine aW [0] q2 rfl rfl rfl ?_
    (conv => whnf); (repeat' first | ((with_reducible refine Box.mk ?_); conv => whnf) | ((with_reducible refine And.intro (fun _ => ?_) (fun _ => ?_)) <;> conv => whnf) | ((with_reducible show AYld _ _ _ _ _); (refine AYld.of tok mixed ?_); conv => whnf) | ((with_reducible show forceH _ _); (refine (forceH_eq _ _).mpr ?_); conv => whnf) | ((with_reducible show ACall _ _ _ _ _); (refine ACall.of_pure (by assumption) (by rfl) ?_); conv => whnf) | ((with_reducible show Exists _); (refine ⟨_, ACall.of_pure (by assumption) (by rfl) ⟨rfl, rfl⟩, ?_⟩); conv => whnf) | ((with_reducible show _ ∧ _ ∧ _); (refine ⟨by omega, by omega, ?_⟩); conv => whnf) | fail)
    all_goals (
      rename_i hp
      first
        | (have hd : decide (0 < n) = true := decide_eq_true (by omega)
           rw [hd] at q3 ⊢
           refine aW [0] (m2 true) rfl rfl rfl ?_)
        | (have hd : decide (0 < n) = false := decide_eq_false (by omega)
           rw [hd] at q3 ⊢
           refine aW [0] (m2 false) rfl rfl rfl ?_)
      (conv => whnf); (repeat' first | ((with_reducible refine Box.mk ?_); conv => whnf) | ((with_reducible refine And.intro (fun _ => ?_) (fun _ => ?_)) <;> conv => whnf) | ((with_reducible show AYld _ _ _ _ _); (refine AYld.of tok mixed ?_); conv => whnf) | ((with_reducible show forceH _ _); (refine (forceH_eq _ _).mpr ?_); conv => whnf) | ((with_reducible show ACall _ _ _ _ _); (refine ACall.of_pure (by assumption) (by rfl) ?_); conv => whnf) | ((with_reducible show Exists _); (refine ⟨_, ACall.of_pure (by assumption) (by rfl) ⟨rfl, rfl⟩, ?_⟩); conv => whnf) | ((with_reducible show _ ∧ _ ∧ _); (refine ⟨by omega, by omega, ?_⟩); conv => whnf) | fail)
      all_goals try (exfalso; omega)
      · rename_i hz
        refine weak_ren_to [(0, true)] rfl rfl rfl ⟨?_, trivial⟩
        rw [sp 0 _ hz, hi2]
        show AV.agg [.int .i64 (IntKind.i64.wrap (i : Int)), _, .int .i64 (IntKind.i64.wrap (n : Int))] = _
        rw [w1, w2]
        rfl
      · rename_i hz
        refine weak_ren_to [(0, true)] rfl rfl rfl ⟨?_, trivial⟩
        rw [sz 0 _ hz]
        rfl)
  · rw [if_neg hi]
    refine ⟨pre ++ x1 ++ x2 ++ x3, by show pre ++ x1 ++ x2 ++ x3 ++ b3 = _; rw [List.append_assoc, l3, List.append_assoc, l2, List.append_assoc, l1], ?_⟩
    have hi2 : IntKind.i64.wrap (IntKind.i64.wrap (i : Int) - 32768) = ((i % 32768 : Nat) : Int) := by rw [w1, wrap_i64 (by omega) (by omega)]; omega
    refine DCall.of_awp tok mixed fn16 (Nat.le_of_ble_eq_true rfl) ?_
    (conv => whnf); (repeat' first | ((with_reducible refine Box.mk ?_); conv => whnf) | ((with_reducible refine And.intro (fun _ => ?_) (fun _ => ?_)) <;> conv => whnf) | ((with_reducible show AYld _ _ _ _ _); (refine AYld.of tok mixed ?_); conv => whnf) | ((with_reducible show forceH _ _); (refine (forceH_eq _ _).mpr ?_); conv => whnf) | ((with_reducible show ACall _ _ _ _ _); (refine ACall.of_pure (by assumption) (by rfl) ?_); conv => whnf) | ((with_reducible show Exists _); (refine ⟨_, ACall.of_pure (by assumption) (by rfl) ⟨rfl, rfl⟩, ?_⟩); conv => whnf) | ((with_reducible show _ ∧ _ ∧ _); (refine ⟨by omega, by omega, ?_⟩); conv => whnf) | fail)
    refine aW [0] q1 rfl rfl rfl ?_
    (conv => whnf); (repeat' first | ((with_reducible refine Box.mk ?_); conv => whnf) | ((with_reducible refine And.intro (fun _ => ?_) (fun _ => ?_)) <;> conv => whnf) | ((with_reducible show AYld _ _ _ _ _); (refine AYld.of tok mixed ?_); conv => whnf) | ((with_reducible show forceH _ _); (refine (forceH_eq _ _).mpr ?_); conv => whnf) | ((with_reducible show ACall _ _ _ _ _); (refine ACall.of_pure (by assumption) (by rfl) ?_); conv => whnf) | ((with_reducible show Exists _); (refine ⟨_, ACall.of_pure (by assumption) (by rfl) ⟨rfl, rfl⟩, ?_⟩); conv => whnf) | ((with_reducible show _ ∧ _ ∧ _); (refine ⟨by omega, by omega, ?_⟩); conv => whnf) | fail)
    refine aW [0] q2 rfl rfl rfl ?_
    (conv => whnf); (repeat' first | ((with_reducible refine Box.mk ?_); conv => whnf) | ((with_reducible refine And.intro (fun _ => ?_) (fun _ => ?_)) <;> conv => whnf) | ((with_reducible show AYld _ _ _ _ _); (refine AYld.of tok mixed ?_); conv => whnf) | ((with_reducible show forceH _ _); (refine (forceH_eq _ _).mpr ?_); conv => whnf) | ((with_reducible show ACall _ _ _ _ _); (refine ACall.of_pure (by assumption) (by rfl) ?_); conv => whnf) | ((with_reducible show Exists _); (refine ⟨_, ACall.of_pure (by assumption) (by rfl) ⟨rfl, rfl⟩, ?_⟩); conv => whnf) | ((with_reducible show _ ∧ _ ∧ _); (refine ⟨by omega, by omega, ?_⟩); conv => whnf) | fail)
    all_goals (
      rename_i hp
      first
        | (have hd : decide (0 < n) = true := decide_eq_true (by omega)
           rw [hd] at q3
           refine aW [0] (m2 true) rfl rfl rfl ?_)
        | (have hd : decide (0 < n) = false := decide_eq_false (by omega)
           rw [hd] at q3
           refine aW [0] (m2 false) rfl rfl rfl ?_)
      (conv => whnf); (repeat' first | ((with_reducible refine Box.mk ?_); conv => whnf) | ((with_reducible refine And.intro (fun _ => ?_) (fun _ => ?_)) <;> conv => whnf) | ((with_reducible show AYld _ _ _ _ _); (refine AYld.of tok mixed ?_); conv => whnf) | ((with_reducible show forceH _ _); (refine (forceH_eq _ _).mpr ?_); conv => whnf) | ((with_reducible show ACall _ _ _ _ _); (refine ACall.of_pure (by assumption) (by rfl) ?_); conv => whnf) | ((with_reducible show Exists _); (refine ⟨_, ACall.of_pure (by assumption) (by rfl) ⟨rfl, rfl⟩, ?_⟩); conv => whnf) | ((with_reducible show _ ∧ _ ∧ _); (refine ⟨by omega, by omega, ?_⟩); conv => whnf) | fail)
      all_goals try (exfalso; omega)
      refine aW [0] q3 rfl rfl rfl ?_
      (conv => whnf); (repeat' first | ((with_reducible refine Box.mk ?_); conv => whnf) | ((with_reducible refine And.intro (fun _ => ?_) (fun _ => ?_)) <;> conv => whnf) | ((with_reducible show AYld _ _ _ _ _); (refine AYld.of tok mixed ?_); conv => whnf) | ((with_reducible show forceH _ _); (refine (forceH_eq _ _).mpr ?_); conv => whnf) | ((with_reducible show ACall _ _ _ _ _); (refine ACall.of_pure (by assumption) (by rfl) ?_); conv => whnf) | ((with_reducible show Exists _); (refine ⟨_, ACall.of_pure (by assumption) (by rfl) ⟨rfl, rfl⟩, ?_⟩); conv => whnf) | ((with_reducible show _ ∧ _ ∧ _); (refine ⟨by omega, by omega, ?_⟩); conv => whnf) | fail)
      all_goals (
        rename_i hp2
        rw [w3] at hp2 ⊢
        first
          | (have hd2 : decide (0 < en) = true := decide_eq_true (by omega)
             rw [hd2]
             refine aW [0] (m3 true) rfl rfl rfl ?_)
          | (have hd2 : decide (0 < en) = false := decide_eq_false (by omega)
             rw [hd2]
             refine aW [0] (m3 false) rfl rfl rfl ?_)
        (conv => whnf); (repeat' first | ((with_reducible refine Box.mk ?_); conv => whnf) | ((with_reducible refine And.intro (fun _ => ?_) (fun _ => ?_)) <;> conv => whnf) | ((with_reducible show AYld _ _ _ _ _); (refine AYld.of tok mixed ?_); conv => whnf) | ((with_reducible show forceH _ _); (refine (forceH_eq _ _).mpr ?_); conv => whnf) | ((with_reducible show ACall _ _ _ _ _); (refine ACall.of_pure (by assumption) (by rfl) ?_); conv => whnf) | ((with_reducible show Exists _); (refine ⟨_, ACall.of_pure (by assumption) (by rfl) ⟨rfl, rfl⟩, ?_⟩); conv => whnf) | ((with_reducible show _ ∧ _ ∧ _); (refine ⟨by omega, by omega, ?_⟩); conv => whnf) | fail)
        · rename_i hz
          refine weak_ren_to [(0, true)] rfl rfl rfl ⟨?_, trivial⟩
          rw [sp en _ hz, ← hi2]
          show AV.agg [_, _, .int .i64 (IntKind.i64.wrap (n : Int))] = _
          rw [w2]
          rfl
        · rename_i hz
          refine weak_ren_to [(0, true)] rfl rfl rfl ⟨?_, trivial⟩
          rw [sz en _ hz]
          rfl))
end Go.Proofs.YtnajpmepcffnaaaDoor
end

section
/- field: a value, read; sizes. -/
namespace Go.Proofs.YtnajpmepcffnaaaDoor
open Go.Ve

/-- A value of a length that it tells itself. -/
def ownF (bs : Bs) (e : Int) : Bs × Bs × Int :=
  match rawF 1 bs e with
  | (x1, b1, e1) => match rawF 2 b1 e1 with
    | (x2, b2, e2) => if valB x1 = 255 then rawF (valB x2 : Nat) b2 e2 else rawF (valB x1 : Nat) b1 e1
/-- A value read: its bytes; what is left; the fault. -/
def valueF (s : Sc) (bs : Bs) (e : Int) : Bs × Bs × Int :=
  if s.len = 65535 then ownF bs (mustE e (rightS s)) else rawF s.len bs (mustE e (rightS s))
set_option maxHeartbeats 8000000 in
theorem fValue_ok (s : Sc) (bs : Bs) (e : Int) (hbs : bs.length ≤ 1000000000) : DCall P 23 [.ptr 0 0, sv s] (rH bs e) (.sl (bcl (valueF s bs e).1)) (rH (valueF s bs e).2.1 (valueF s bs e).2.2) := by
  have q0 := fRight_ok s
  unfold valueF
  generalize rightS s = b at *
  have m1 := rMust_ok bs e b
  generalize mustE e b = e0 at *
  by_cases hl : s.len = 65535
  · rw [if_pos hl]
    have q1 := rNum_ok bs e0 1 hbs
    have l1 := raw_rest 1 bs e0
    have v1 := raw_val 1 256 bs e0 rfl
    rw [show ((szN 1 : Nat) : Int) = 1 from rfl] at q1
    rw [show (((1 : Nat) : Nat) : Int) = 1 from rfl] at v1
    unfold ownF
    generalize rawF 1 bs e0 = z1 at *
    obtain ⟨x1, b1, e1⟩ := z1
    dsimp only at q1 l1 v1 ⊢
    have q2 := rNum_ok b1 e1 2 (by omega)
    have l2 := raw_rest 2 b1 e1
    have v2 := raw_val 2 65536 b1 e1 rfl
    rw [show ((szN 2 : Nat) : Int) = 2 from rfl] at q2
    rw [show (((2 : Nat) : Nat) : Int) = 2 from rfl] at v2
    generalize rawF 2 b1 e1 = z2 at *
    obtain ⟨x2, b2, e2⟩ := z2
    dsimp only at q2 l2 v2 ⊢
    have q3 := fun n : Int => rRaw_ok b1 e1 n (by omega)
    have q4 := fun n : Int => rRaw_ok b2 e2 n (by omega)
    generalize valB x1 = n1 at *
    generalize valB x2 = n2 at *
    have w1 : IntKind.i64.wrap (n1 : Int) = n1 := wrap_i64 (by omega) (by omega)
    have w2 : IntKind.i64.wrap (n2 : Int) = n2 := wrap_i64 (by omega) (by omega)
    refine DCall.of_awp tok mixed fn23 (Nat.le_of_ble_eq_true rfl) ?_
    (conv => whnf); (repeat' first | ((with_reducible refine Box.mk ?_); conv => whnf) | ((with_reducible refine And.intro (fun _ => ?_) (fun _ => ?_)) <;> conv => whnf) | ((with_reducible show AYld _ _ _ _ _); (refine AYld.of tok mixed ?_); conv => whnf) | ((with_reducible show forceH _ _); (refine (forceH_eq _ _).mpr ?_); conv => whnf) | ((with_reducible show ACall _ _ _ _ _); (refine ACall.of_pure (by assumption) (by rfl) ?_); conv => whnf) | ((with_reducible show Exists _); (refine ⟨_, ACall.of_pure (by assumption) (by rfl) ⟨rfl, rfl⟩, ?_⟩); conv => whnf) | ((with_reducible show _ ∧ _ ∧ _); (refine ⟨by omega, by omega, ?_⟩); conv => whnf) | fail)
    · refine aW [0] m1 rfl rfl rfl ?_
      (conv => whnf); (repeat' first | ((with_reducible refine Box.mk ?_); conv => whnf) | ((with_reducible refine And.intro (fun _ => ?_) (fun _ => ?_)) <;> conv => whnf) | ((with_reducible show AYld _ _ _ _ _); (refine AYld.of tok mixed ?_); conv => whnf) | ((with_reducible show forceH _ _); (refine (forceH_eq _ _).mpr ?_); conv => whnf) | ((with_reducible show ACall _ _ _ _ _); (refine ACall.of_pure (by assumption) (by rfl) ?_); conv => whnf) | ((with_reducible show Exists _); (refine ⟨_, ACall.of_pure (by assumption) (by rfl) ⟨rfl, rfl⟩, ?_⟩); conv => whnf) | ((with_reducible show _ ∧ _ ∧ _); (refine ⟨by omega, by omega, ?_⟩); conv => whnf) | fail)
      · refine aW [0] q1 rfl rfl rfl ?_
        (conv => whnf); (repeat' first | ((with_reducible refine Box.mk ?_); conv => whnf) | ((with_reducible refine And.intro (fun _ => ?_) (fun _ => ?_)) <;> conv => whnf) | ((with_reducible show AYld _ _ _ _ _); (refine AYld.of tok mixed ?_); conv => whnf) | ((with_reducible show forceH _ _); (refine (forceH_eq _ _).mpr ?_); conv => whnf) | ((with_reducible show ACall _ _ _ _ _); (refine ACall.of_pure (by assumption) (by rfl) ?_); conv => whnf) | ((with_reducible show Exists _); (refine ⟨_, ACall.of_pure (by assumption) (by rfl) ⟨rfl, rfl⟩, ?_⟩); conv => whnf) | ((with_reducible show _ ∧ _ ∧ _); (refine ⟨by omega, by omega, ?_⟩); conv => whnf) | fail)
        · rename_i h2
          rw [w1] at h2
          rw [if_pos (by omega)]
          refine aW [0] q2 rfl rfl rfl ?_
          (conv => whnf); (repeat' first | ((with_reducible refine Box.mk ?_); conv => whnf) | ((with_reducible refine And.intro (fun _ => ?_) (fun _ => ?_)) <;> conv => whnf) | ((with_reducible show AYld _ _ _ _ _); (refine AYld.of tok mixed ?_); conv => whnf) | ((with_reducible show forceH _ _); (refine (forceH_eq _ _).mpr ?_); conv => whnf) | ((with_reducible show ACall _ _ _ _ _); (refine ACall.of_pure (by assumption) (by rfl) ?_); conv => whnf) | ((with_reducible show Exists _); (refine ⟨_, ACall.of_pure (by assumption) (by rfl) ⟨rfl, rfl⟩, ?_⟩); conv => whnf) | ((with_reducible show _ ∧ _ ∧ _); (refine ⟨by omega, by omega, ?_⟩); conv => whnf) | fail)
          rw [w2]
          refine aW [0] (q4 n2) rfl rfl rfl ?_
          (conv => whnf); (repeat' first | ((with_reducible refine Box.mk ?_); conv => whnf) | ((with_reducible refine And.intro (fun _ => ?_) (fun _ => ?_)) <;> conv => whnf) | ((with_reducible show AYld _ _ _ _ _); (refine AYld.of tok mixed ?_); conv => whnf) | ((with_reducible show forceH _ _); (refine (forceH_eq _ _).mpr ?_); conv => whnf) | ((with_reducible show ACall _ _ _ _ _); (refine ACall.of_pure (by assumption) (by rfl) ?_); conv => whnf) | ((with_reducible show Exists _); (refine ⟨_, ACall.of_pure (by assumption) (by rfl) ⟨rfl, rfl⟩, ?_⟩); conv => whnf) | ((with_reducible show _ ∧ _ ∧ _); (refine ⟨by omega, by omega, ?_⟩); conv => whnf) | fail)
          exact weak_ren_to [(0, true)] rfl rfl rfl ⟨rfl, trivial⟩
        · rename_i h2
          rw [w1] at h2
          rw [if_neg (by omega), w1]
          refine aW [0] (q3 n1) rfl rfl rfl ?_
          (conv => whnf); (repeat' first | ((with_reducible refine Box.mk ?_); conv => whnf) | ((with_reducible refine And.intro (fun _ => ?_) (fun _ => ?_)) <;> conv => whnf) | ((with_reducible show AYld _ _ _ _ _); (refine AYld.of tok mixed ?_); conv => whnf) | ((with_reducible show forceH _ _); (refine (forceH_eq _ _).mpr ?_); conv => whnf) | ((with_reducible show ACall _ _ _ _ _); (refine ACall.of_pure (by assumption) (by rfl) ?_); conv => whnf) | ((with_reducible show Exists _); (refine ⟨_, ACall.of_pure (by assumption) (by rfl) ⟨rfl, rfl⟩, ?_⟩); conv => whnf) | ((with_reducible show _ ∧ _ ∧ _); (refine ⟨by omega, by omega, ?_⟩); conv => whnf) | fail)
          exact weak_ren_to [(0, true)] rfl rfl rfl ⟨rfl, trivial⟩
      · exfalso; omega
  · rw [if_neg hl]
    have q3 := rRaw_ok bs e0 s.len hbs
    refine DCall.of_awp tok mixed fn23 (Nat.le_of_ble_eq_true rfl) ?_
    (conv => whnf); (repeat' first | ((with_reducible refine Box.mk ?_); conv => whnf) | ((with_reducible refine And.intro (fun _ => ?_) (fun _ => ?_)) <;> conv => whnf) | ((with_reducible show AYld _ _ _ _ _); (refine AYld.of tok mixed ?_); conv => whnf) | ((with_reducible show forceH _ _); (refine (forceH_eq _ _).mpr ?_); conv => whnf) | ((with_reducible show ACall _ _ _ _ _); (refine ACall.of_pure (by assumption) (by rfl) ?_); conv => whnf) | ((with_reducible show Exists _); (refine ⟨_, ACall.of_pure (by assumption) (by rfl) ⟨rfl, rfl⟩, ?_⟩); conv => whnf) | ((with_reducible show _ ∧ _ ∧ _); (refine ⟨by omega, by omega, ?_⟩); conv => whnf) | fail)
    refine aW [0] m1 rfl rfl rfl ?_
    (conv => whnf); (repeat' first | ((with_reducible refine Box.mk ?_); conv => whnf) | ((with_reducible refine And.intro (fun _ => ?_) (fun _ => ?_)) <;> conv => whnf) | ((with_reducible show AYld _ _ _ _ _); (refine AYld.of tok mixed ?_); conv => whnf) | ((with_reducible show forceH _ _); (refine (forceH_eq _ _).mpr ?_); conv => whnf) | ((with_reducible show ACall _ _ _ _ _); (refine ACall.of_pure (by assumption) (by rfl) ?_); conv => whnf) | ((with_reducible show Exists _); (refine ⟨_, ACall.of_pure (by assumption) (by rfl) ⟨rfl, rfl⟩, ?_⟩); conv => whnf) | ((with_reducible show _ ∧ _ ∧ _); (refine ⟨by omega, by omega, ?_⟩); conv => whnf) | fail)
    · exfalso; omega
    · refine aW [0] q3 rfl rfl rfl ?_
      (conv => whnf); (repeat' first | ((with_reducible refine Box.mk ?_); conv => whnf) | ((with_reducible refine And.intro (fun _ => ?_) (fun _ => ?_)) <;> conv => whnf) | ((with_reducible show AYld _ _ _ _ _); (refine AYld.of tok mixed ?_); conv => whnf) | ((with_reducible show forceH _ _); (refine (forceH_eq _ _).mpr ?_); conv => whnf) | ((with_reducible show ACall _ _ _ _ _); (refine ACall.of_pure (by assumption) (by rfl) ?_); conv => whnf) | ((with_reducible show Exists _); (refine ⟨_, ACall.of_pure (by assumption) (by rfl) ⟨rfl, rfl⟩, ?_⟩); conv => whnf) | ((with_reducible show _ ∧ _ ∧ _); (refine ⟨by omega, by omega, ?_⟩); conv => whnf) | fail)
      exact weak_ren_to [(0, true)] rfl rfl rfl ⟨rfl, trivial⟩
theorem raw_bad {n : Int} {bs : Bs} {e : Int} (he : e ≠ 0) : rawF n bs e = ([], bs, e) := by
  unfold rawF
  have : mustE e (decide (0 ≤ n)) = e := by unfold mustE; rw [if_neg (fun h => he h.1)]
  rw [this, if_pos he]
set_option maxHeartbeats 8000000 in
theorem xfValue_ok (s : Sc) (pre bs : Bs) (e : Int) (hbs : (pre ++ bs).length ≤ 1000000000) : ∃ pre', pre' ++ (valueF s bs e).2.1 = pre ++ bs ∧ DCall P 24 [.ptr 0 0, sv s] (xH pre bs e) (.sl (bcl (valueF s bs e).1)) (xH pre' (valueF s bs e).2.1 (valueF s bs e).2.2) := by
  have q0 := xfRight_ok s
  have hover : 65535 < s.len → mustE e (rightS s) ≠ 0 := fun h => by
    have : rightS s = false := decide_eq_false (fun hc => by have := hc.2.2.2; omega)
    rw [this]; unfold mustE; split
    · decide
    · rename_i h2; intro h3; exact h2 ⟨h3, rfl⟩
  unfold valueF
  generalize rightS s = b at *
  have m1 := xMust_ok pre bs e b
  generalize mustE e b = e0 at *
  by_cases hl : s.len < 65535
  · rw [if_neg (by omega)]
    have q3 := xRaw_ok pre bs e0 s.len hbs
    have l3 := raw_app s.len bs e0
    generalize rawF s.len bs e0 = z1 at *
    obtain ⟨x1, b1, e1⟩ := z1
    dsimp only at q3 l3 ⊢
    refine ⟨pre ++ x1, by rw [List.append_assoc, l3], ?_⟩
    refine DCall.of_awp tok mixed fn24 (Nat.le_of_ble_eq_true rfl) ?_
    (conv => whnf); (repeat' first | ((with_reducible refine Box.mk ?_); conv => whnf) | ((with_reducible refine And.intro (fun _ => ?_) (fun _ => ?_)) <;> conv => whnf) | ((with_reducible show AYld _ _ _ _ _); (refine AYld.of tok mixed ?_); conv => whnf) | ((with_reducible show forceH _ _); (refine (forceH_eq _ _).mpr ?_); conv => whnf) | ((with_reducible show ACall _ _ _ _ _); (refine ACall.of_pure (by assumption) (by rfl) ?_); conv => whnf) | ((with_reducible show Exists _); (refine ⟨_, ACall.of_pure (by assumption) (by rfl) ⟨rfl, rfl⟩, ?_⟩); conv => whnf) | ((with_reducible show _ ∧ _ ∧ _); (refine ⟨by omega, by omega, ?_⟩); conv => whnf) | fail)
    refine aW [0] m1 rfl rfl rfl ?_
    (conv => whnf); (repeat' first | ((with_reducible refine Box.mk ?_); conv => whnf) | ((with_reducible refine And.intro (fun _ => ?_) (fun _ => ?_)) <;> conv => whnf) | ((with_reducible show AYld _ _ _ _ _); (refine AYld.of tok mixed ?_); conv => whnf) | ((with_reducible show forceH _ _); (refine (forceH_eq _ _).mpr ?_); conv => whnf) | ((with_reducible show ACall _ _ _ _ _); (refine ACall.of_pure (by assumption) (by rfl) ?_); conv => whnf) | ((with_reducible show Exists _); (refine ⟨_, ACall.of_pure (by assumption) (by rfl) ⟨rfl, rfl⟩, ?_⟩); conv => whnf) | ((with_reducible show _ ∧ _ ∧ _); (refine ⟨by omega, by omega, ?_⟩); conv => whnf) | fail)
    · refine aW [0] q3 rfl rfl rfl ?_
      (conv => whnf); (repeat' first | ((with_reducible refine Box.mk ?_); conv => whnf) | ((with_reducible refine And.intro (fun _ => ?_) (fun _ => ?_)) <;> conv => whnf) | ((with_reducible show AYld _ _ _ _ _); (refine AYld.of tok mixed ?_); conv => whnf) | ((with_reducible show forceH _ _); (refine (forceH_eq _ _).mpr ?_); conv => whnf) | ((with_reducible show ACall _ _ _ _ _); (refine ACall.of_pure (by assumption) (by rfl) ?_); conv => whnf) | ((with_reducible show Exists _); (refine ⟨_, ACall.of_pure (by assumption) (by rfl) ⟨rfl, rfl⟩, ?_⟩); conv => whnf) | ((with_reducible show _ ∧ _ ∧ _); (refine ⟨by omega, by omega, ?_⟩); conv => whnf) | fail)
      exact weak_ren_to [(0, true)] rfl rfl rfl ⟨rfl, trivial⟩
    · exfalso; omega
  · have q1 := xrNum_ok pre bs e0 1 hbs
    have l1 := raw_app 1 bs e0
    have v1 := raw_val 1 256 bs e0 rfl
    rw [show ((szN 1 : Nat) : Int) = 1 from rfl] at q1
    rw [show (((1 : Nat) : Nat) : Int) = 1 from rfl] at v1
    by_cases h6 : s.len = 65535
    · rw [if_pos h6]
      unfold ownF
      generalize rawF 1 bs e0 = z1 at *
      obtain ⟨x1, b1, e1⟩ := z1
      dsimp only at q1 l1 v1 ⊢
      have q2 := xrNum_ok (pre ++ x1) b1 e1 2 (by rw [List.append_assoc, l1]; exact hbs)
      have l2 := raw_app 2 b1 e1
      have v2 := raw_val 2 65536 b1 e1 rfl
      rw [show ((szN 2 : Nat) : Int) = 2 from rfl] at q2
      rw [show (((2 : Nat) : Nat) : Int) = 2 from rfl] at v2
      generalize rawF 2 b1 e1 = z2 at *
      obtain ⟨x2, b2, e2⟩ := z2
      dsimp only at q2 l2 v2 ⊢
      have q3 := fun n : Int => xRaw_ok (pre ++ x1) b1 e1 n (by rw [List.append_assoc, l1]; exact hbs)
      have q4 := fun n : Int => xRaw_ok (pre ++ x1 ++ x2) b2 e2 n (by rw [List.append_assoc, l2, List.append_assoc, l1]; exact hbs)
      generalize valB x1 = n1 at *
      generalize valB x2 = n2 at *
      have w1 : IntKind.i64.wrap (n1 : Int) = n1 := wrap_i64 (by omega) (by omega)
      have w2 : IntKind.i64.wrap (n2 : Int) = n2 := wrap_i64 (by omega) (by omega)
      by_cases h255 : n1 = 255
      · rw [if_pos h255]
        have q4 := q4 n2
        have l4 := raw_app n2 b2 e2
        generalize rawF (n2 : Nat) b2 e2 = z4 at *
        obtain ⟨x4, b4, e4⟩ := z4
        dsimp only at q4 l4 ⊢
        refine ⟨pre ++ x1 ++ x2 ++ x4, by rw [List.append_assoc, l4, List.append_assoc, l2, List.append_assoc, l1], ?_⟩
        refine DCall.of_awp tok mixed fn24 (Nat.le_of_ble_eq_true rfl) ?_
        (conv => whnf); (repeat' first | ((with_reducible refine Box.mk ?_); conv => whnf) | ((with_reducible refine And.intro (fun _ => ?_) (fun _ => ?_)) <;> conv => whnf) | ((with_reducible show AYld _ _ _ _ _); (refine AYld.of tok mixed ?_); conv => whnf) | ((with_reducible show forceH _ _); (refine (forceH_eq _ _).mpr ?_); conv => whnf) | ((with_reducible show ACall _ _ _ _ _); (refine ACall.of_pure (by assumption) (by rfl) ?_); conv => whnf) | ((with_reducible show Exists _); (refine ⟨_, ACall.of_pure (by assumption) (by rfl) ⟨rfl, rfl⟩, ?_⟩); conv => whnf) | ((with_reducible show _ ∧ _ ∧ _); (refine ⟨by omega, by omega, ?_⟩); conv => whnf) | fail)
        refine aW [0] m1 rfl rfl rfl ?_
        (conv => whnf); (repeat' first | ((with_reducible refine Box.mk ?_); conv => whnf) | ((with_reducible refine And.intro (fun _ => ?_) (fun _ => ?_)) <;> conv => whnf) | ((with_reducible show AYld _ _ _ _ _); (refine AYld.of tok mixed ?_); conv => whnf) | ((with_reducible show forceH _ _); (refine (forceH_eq _ _).mpr ?_); conv => whnf) | ((with_reducible show ACall _ _ _ _ _); (refine ACall.of_pure (by assumption) (by rfl) ?_); conv => whnf) | ((with_reducible show Exists _); (refine ⟨_, ACall.of_pure (by assumption) (by rfl) ⟨rfl, rfl⟩, ?_⟩); conv => whnf) | ((with_reducible show _ ∧ _ ∧ _); (refine ⟨by omega, by omega, ?_⟩); conv => whnf) | fail)
        all_goals try (exfalso; omega)
        refine aW [0] q1 rfl rfl rfl ?_
        (conv => whnf); (repeat' first | ((with_reducible refine Box.mk ?_); conv => whnf) | ((with_reducible refine And.intro (fun _ => ?_) (fun _ => ?_)) <;> conv => whnf) | ((with_reducible show AYld _ _ _ _ _); (refine AYld.of tok mixed ?_); conv => whnf) | ((with_reducible show forceH _ _); (refine (forceH_eq _ _).mpr ?_); conv => whnf) | ((with_reducible show ACall _ _ _ _ _); (refine ACall.of_pure (by assumption) (by rfl) ?_); conv => whnf) | ((with_reducible show Exists _); (refine ⟨_, ACall.of_pure (by assumption) (by rfl) ⟨rfl, rfl⟩, ?_⟩); conv => whnf) | ((with_reducible show _ ∧ _ ∧ _); (refine ⟨by omega, by omega, ?_⟩); conv => whnf) | fail)
        all_goals try (exfalso; omega)
        refine aW [0] q2 rfl rfl rfl ?_
        (conv => whnf); (repeat' first | ((with_reducible refine Box.mk ?_); conv => whnf) | ((with_reducible refine And.intro (fun _ => ?_) (fun _ => ?_)) <;> conv => whnf) | ((with_reducible show AYld _ _ _ _ _); (refine AYld.of tok mixed ?_); conv => whnf) | ((with_reducible show forceH _ _); (refine (forceH_eq _ _).mpr ?_); conv => whnf) | ((with_reducible show ACall _ _ _ _ _); (refine ACall.of_pure (by assumption) (by rfl) ?_); conv => whnf) | ((with_reducible show Exists _); (refine ⟨_, ACall.of_pure (by assumption) (by rfl) ⟨rfl, rfl⟩, ?_⟩); conv => whnf) | ((with_reducible show _ ∧ _ ∧ _); (refine ⟨by omega, by omega, ?_⟩); conv => whnf) | fail)
        rw [w2]
        refine aW [0] q4 rfl rfl rfl ?_
        (conv => whnf); (repeat' first | ((with_reducible refine Box.mk ?_); conv => whnf) | ((with_reducible refine And.intro (fun _ => ?_) (fun _ => ?_)) <;> conv => whnf) | ((with_reducible show AYld _ _ _ _ _); (refine AYld.of tok mixed ?_); conv => whnf) | ((with_reducible show forceH _ _); (refine (forceH_eq _ _).mpr ?_); conv => whnf) | ((with_reducible show ACall _ _ _ _ _); (refine ACall.of_pure (by assumption) (by rfl) ?_); conv => whnf) | ((with_reducible show Exists _); (refine ⟨_, ACall.of_pure (by assumption) (by rfl) ⟨rfl, rfl⟩, ?_⟩); conv => whnf) | ((with_reducible show _ ∧ _ ∧ _); (refine ⟨by omega, by omega, ?_⟩); conv => whnf) | fail)
        exact weak_ren_to [(0, true)] rfl rfl rfl ⟨rfl, trivial⟩
      · rw [if_neg h255]
        have q3 := q3 n1
        have l4 := raw_app n1 b1 e1
        generalize rawF (n1 : Nat) b1 e1 = z4 at *
        obtain ⟨x4, b4, e4⟩ := z4
        dsimp only at q3 l4 ⊢
        refine ⟨pre ++ x1 ++ x4, by rw [List.append_assoc, l4, List.append_assoc, l1], ?_⟩
        refine DCall.of_awp tok mixed fn24 (Nat.le_of_ble_eq_true rfl) ?_
        (conv => whnf); (repeat' first | ((with_reducible refine Box.mk ?_); conv => whnf) | ((with_reducible refine And.intro (fun _ => ?_) (fun _ => ?_)) <;> conv => whnf) | ((with_reducible show AYld _ _ _ _ _); (refine AYld.of tok mixed ?_); conv => whnf) | ((with_reducible show forceH _ _); (refine (forceH_eq _ _).mpr ?_); conv => whnf) | ((with_reducible show ACall _ _ _ _ _); (refine ACall.of_pure (by assumption) (by rfl) ?_); conv => whnf) | ((with_reducible show Exists _); (refine ⟨_, ACall.of_pure (by assumption) (by rfl) ⟨rfl, rfl⟩, ?_⟩); conv => whnf) | ((with_reducible show _ ∧ _ ∧ _); (refine ⟨by omega, by omega, ?_⟩); conv => whnf) | fail)
        refine aW [0] m1 rfl rfl rfl ?_
        (conv => whnf); (repeat' first | ((with_reducible refine Box.mk ?_); conv => whnf) | ((with_reducible refine And.intro (fun _ => ?_) (fun _ => ?_)) <;> conv => whnf) | ((with_reducible show AYld _ _ _ _ _); (refine AYld.of tok mixed ?_); conv => whnf) | ((with_reducible show forceH _ _); (refine (forceH_eq _ _).mpr ?_); conv => whnf) | ((with_reducible show ACall _ _ _ _ _); (refine ACall.of_pure (by assumption) (by rfl) ?_); conv => whnf) | ((with_reducible show Exists _); (refine ⟨_, ACall.of_pure (by assumption) (by rfl) ⟨rfl, rfl⟩, ?_⟩); conv => whnf) | ((with_reducible show _ ∧ _ ∧ _); (refine ⟨by omega, by omega, ?_⟩); conv => whnf) | fail)
        all_goals try (exfalso; omega)
        refine aW [0] q1 rfl rfl rfl ?_
        (conv => whnf); (repeat' first | ((with_reducible refine Box.mk ?_); conv => whnf) | ((with_reducible refine And.intro (fun _ => ?_) (fun _ => ?_)) <;> conv => whnf) | ((with_reducible show AYld _ _ _ _ _); (refine AYld.of tok mixed ?_); conv => whnf) | ((with_reducible show forceH _ _); (refine (forceH_eq _ _).mpr ?_); conv => whnf) | ((with_reducible show ACall _ _ _ _ _); (refine ACall.of_pure (by assumption) (by rfl) ?_); conv => whnf) | ((with_reducible show Exists _); (refine ⟨_, ACall.of_pure (by assumption) (by rfl) ⟨rfl, rfl⟩, ?_⟩); conv => whnf) | ((with_reducible show _ ∧ _ ∧ _); (refine ⟨by omega, by omega, ?_⟩); conv => whnf) | fail)
        all_goals try (exfalso; omega)
        rw [w1]
        refine aW [0] q3 rfl rfl rfl ?_
        (conv => whnf); (repeat' first | ((with_reducible refine Box.mk ?_); conv => whnf) | ((with_reducible refine And.intro (fun _ => ?_) (fun _ => ?_)) <;> conv => whnf) | ((with_reducible show AYld _ _ _ _ _); (refine AYld.of tok mixed ?_); conv => whnf) | ((with_reducible show forceH _ _); (refine (forceH_eq _ _).mpr ?_); conv => whnf) | ((with_reducible show ACall _ _ _ _ _); (refine ACall.of_pure (by assumption) (by rfl) ?_); conv => whnf) | ((with_reducible show Exists _); (refine ⟨_, ACall.of_pure (by assumption) (by rfl) ⟨rfl, rfl⟩, ?_⟩); conv => whnf) | ((with_reducible show _ ∧ _ ∧ _); (refine ⟨by omega, by omega, ?_⟩); conv => whnf) | fail)
        exact weak_ren_to [(0, true)] rfl rfl rfl ⟨rfl, trivial⟩
    · rw [if_neg h6]
      have hne := hover (by omega)
      have q3 := xRaw_ok pre bs e0 0 hbs
      rw [raw_bad hne] at q1 q3
      rw [raw_bad hne]
      dsimp only at q1 q3 ⊢
      rw [List.append_nil] at q1 q3
      refine ⟨pre, rfl, ?_⟩
      refine DCall.of_awp tok mixed fn24 (Nat.le_of_ble_eq_true rfl) ?_
      (conv => whnf); (repeat' first | ((with_reducible refine Box.mk ?_); conv => whnf) | ((with_reducible refine And.intro (fun _ => ?_) (fun _ => ?_)) <;> conv => whnf) | ((with_reducible show AYld _ _ _ _ _); (refine AYld.of tok mixed ?_); conv => whnf) | ((with_reducible show forceH _ _); (refine (forceH_eq _ _).mpr ?_); conv => whnf) | ((with_reducible show ACall _ _ _ _ _); (refine ACall.of_pure (by assumption) (by rfl) ?_); conv => whnf) | ((with_reducible show Exists _); (refine ⟨_, ACall.of_pure (by assumption) (by rfl) ⟨rfl, rfl⟩, ?_⟩); conv => whnf) | ((with_reducible show _ ∧ _ ∧ _); (refine ⟨by omega, by omega, ?_⟩); conv => whnf) | fail)
      refine aW [0] m1 rfl rfl rfl ?_
      (conv => whnf); (repeat' first | ((with_reducible refine Box.mk ?_); conv => whnf) | ((with_reducible refine And.intro (fun _ => ?_) (fun _ => ?_)) <;> conv => whnf) | ((with_reducible show AYld _ _ _ _ _); (refine AYld.of tok mixed ?_); conv => whnf) | ((with_reducible show forceH _ _); (refine (forceH_eq _ _).mpr ?_); conv => whnf) | ((with_reducible show ACall _ _ _ _ _); (refine ACall.of_pure (by assumption) (by rfl) ?_); conv => whnf) | ((with_reducible show Exists _); (refine ⟨_, ACall.of_pure (by assumption) (by rfl) ⟨rfl, rfl⟩, ?_⟩); conv => whnf) | ((with_reducible show _ ∧ _ ∧ _); (refine ⟨by omega, by omega, ?_⟩); conv => whnf) | fail)
      all_goals try (exfalso; omega)
      refine aW [0] q1 rfl rfl rfl ?_
      (conv => whnf); (repeat' first | ((with_reducible refine Box.mk ?_); conv => whnf) | ((with_reducible refine And.intro (fun _ => ?_) (fun _ => ?_)) <;> conv => whnf) | ((with_reducible show AYld _ _ _ _ _); (refine AYld.of tok mixed ?_); conv => whnf) | ((with_reducible show forceH _ _); (refine (forceH_eq _ _).mpr ?_); conv => whnf) | ((with_reducible show ACall _ _ _ _ _); (refine ACall.of_pure (by assumption) (by rfl) ?_); conv => whnf) | ((with_reducible show Exists _); (refine ⟨_, ACall.of_pure (by assumption) (by rfl) ⟨rfl, rfl⟩, ?_⟩); conv => whnf) | ((with_reducible show _ ∧ _ ∧ _); (refine ⟨by omega, by omega, ?_⟩); conv => whnf) | fail)
      all_goals try (rename_i hbad; exact absurd hbad (by decide))
      refine aW [0] q3 rfl rfl rfl ?_
      (conv => whnf); (repeat' first | ((with_reducible refine Box.mk ?_); conv => whnf) | ((with_reducible refine And.intro (fun _ => ?_) (fun _ => ?_)) <;> conv => whnf) | ((with_reducible show AYld _ _ _ _ _); (refine AYld.of tok mixed ?_); conv => whnf) | ((with_reducible show forceH _ _); (refine (forceH_eq _ _).mpr ?_); conv => whnf) | ((with_reducible show ACall _ _ _ _ _); (refine ACall.of_pure (by assumption) (by rfl) ?_); conv => whnf) | ((with_reducible show Exists _); (refine ⟨_, ACall.of_pure (by assumption) (by rfl) ⟨rfl, rfl⟩, ?_⟩); conv => whnf) | ((with_reducible show _ ∧ _ ∧ _); (refine ⟨by omega, by omega, ?_⟩); conv => whnf) | fail)
      exact weak_ren_to [(0, true)] rfl rfl rfl ⟨rfl, trivial⟩
/-- How many bytes values have at least. -/
def sizeS (s : Sc) : Int := if ¬ RightS s then 0 else if s.len = 65535 then 1 else s.len
def sizesF : List Sc → Int
  | [] => 0
  | s :: r => sizeS s + sizesF r
theorem sizeS_le (s : Sc) : 0 ≤ sizeS s ∧ sizeS s ≤ 65534 := by
  unfold sizeS RightS
  (repeat' split) <;> omega
theorem sizes_snoc (l : List Sc) (s : Sc) : sizesF (l ++ [s]) = sizesF l + sizeS s := by
  induction l with
  | nil => simp [sizesF]
  | cons a r ih => simp only [List.cons_append, sizesF, ih]; omega
theorem sizes_le (l : List Sc) : 0 ≤ sizesF l ∧ sizesF l ≤ l.length * 65534 := by
  induction l with
  | nil => exact ⟨Int.le_refl _, Int.le_refl _⟩
  | cons a r ih =>
    have := sizeS_le a
    simp only [sizesF, List.length_cons]; omega
def scl (l : List Sc) : List (List AV) := l.map scc
theorem scl_len (l : List Sc) : (scl l).length = l.length := by simp [scl]
theorem scl_get {l : List Sc} {i : Nat} {s : Sc} (h : l[i]? = some s) : (scl l)[(i : Int).toNat]? = some (scc s) := by
  rw [Int.toNat_natCast, scl, List.getElem?_map, h]; rfl
theorem sizes_take {l : List Sc} {i : Nat} {s : Sc} (h : l[i]? = some s) : sizesF (l.take (i + 1)) = sizesF (l.take i) + sizeS s := by
  rw [List.take_add_one, h]; exact sizes_snoc _ _
set_option maxHeartbeats 4000000 in
theorem fSize_ok (l : List Sc) (hl : l.length ≤ 100000000000) : PCall P 21 [.sl (scl l)] (.int .i64 (sizesF l)) := by
  have hll := scl_len l
  refine PCall.of_awp tok mixed fn21 (Nat.le_of_ble_eq_true rfl) ?_
  (conv => whnf); (repeat' first | ((with_reducible refine Box.mk ?_); conv => whnf) | ((with_reducible refine And.intro (fun _ => ?_) (fun _ => ?_)) <;> conv => whnf) | ((with_reducible show AYld _ _ _ _ _); (refine AYld.of tok mixed ?_); conv => whnf) | ((with_reducible show forceH _ _); (refine (forceH_eq _ _).mpr ?_); conv => whnf) | ((with_reducible show ACall _ _ _ _ _); (refine ACall.of_pure (by assumption) (by rfl) ?_); conv => whnf) | ((with_reducible show Exists _); (refine ⟨_, ACall.of_pure (by assumption) (by rfl) ⟨rfl, rfl⟩, ?_⟩); conv => whnf) | ((with_reducible show _ ∧ _ ∧ _); (refine ⟨by omega, by omega, ?_⟩); conv => whnf) | fail)
  refine aloop (fun i : Nat => i ≤ l.length) (fun i => ⟨envL [(3, .int .i64 (sizesF (l.take i))), (6, .sl (scl l)), (7, .int .i64 (scl l).length), (8, .int .i64 i)], []⟩) (fun i => l.length - i) 0 (Nat.zero_le _) (weak_to ⟨rfl, rfl, rfl, rfl, trivial⟩ rfl) ?_
  intro i hi
  by_cases hil : i < l.length
  · have hg0 : l[i]? = some l[i] := List.getElem?_eq_getElem hil
    have hg := scl_get hg0
    have hst := sizes_take hg0
    have hle := sizes_le (l.take i)
    have htl : (l.take i).length ≤ l.length := by rw [List.length_take]; omega
    have hs := sizeS_le l[i]
    generalize l[i] = s at *
    have q := fRight_ok s
    unfold sizeS at hst hs
    rcases right_cases s with ⟨hR, hb⟩ | ⟨hR, hb⟩
    · rw [hb] at q
      rw [if_neg (fun h => h hR)] at hst hs
      (conv => whnf); (repeat' first | ((with_reducible refine Box.mk ?_); conv => whnf) | ((with_reducible refine And.intro (fun _ => ?_) (fun _ => ?_)) <;> conv => whnf) | ((with_reducible show AYld _ _ _ _ _); (refine AYld.of tok mixed ?_); conv => whnf) | ((with_reducible show forceH _ _); (refine (forceH_eq _ _).mpr ?_); conv => whnf) | ((with_reducible show ACall _ _ _ _ _); (refine ACall.of_pure (by assumption) (by rfl) ?_); conv => whnf) | ((with_reducible show Exists _); (refine ⟨_, ACall.of_pure (by assumption) (by rfl) ⟨rfl, rfl⟩, ?_⟩); conv => whnf) | ((with_reducible show _ ∧ _ ∧ _); (refine ⟨by omega, by omega, ?_⟩); conv => whnf) | fail)
      all_goals try (exfalso; omega)
      refine ⟨by omega, _, hg, rfl, ?_⟩
      (conv => whnf); (repeat' first | ((with_reducible refine Box.mk ?_); conv => whnf) | ((with_reducible refine And.intro (fun _ => ?_) (fun _ => ?_)) <;> conv => whnf) | ((with_reducible show AYld _ _ _ _ _); (refine AYld.of tok mixed ?_); conv => whnf) | ((with_reducible show forceH _ _); (refine (forceH_eq _ _).mpr ?_); conv => whnf) | ((with_reducible show ACall _ _ _ _ _); (refine ACall.of_pure (by assumption) (by rfl) ?_); conv => whnf) | ((with_reducible show Exists _); (refine ⟨_, ACall.of_pure (by assumption) (by rfl) ⟨rfl, rfl⟩, ?_⟩); conv => whnf) | ((with_reducible show _ ∧ _ ∧ _); (refine ⟨by omega, by omega, ?_⟩); conv => whnf) | fail)
      · rename_i h5
        rw [if_pos h5] at hst
        exact ⟨i + 1, hil, by show l.length - (i + 1) < l.length - i; omega, weak_ren_to [] rfl rfl rfl ⟨congrArg (AV.int .i64) (by rw [wrap_i64 (by omega) (by omega)]; exact hst.symm), rfl, rfl, wrap_nat (m := 1) (by omega), trivial⟩⟩
      · rename_i h5
        rw [if_neg h5] at hst hs
        exact ⟨i + 1, hil, by show l.length - (i + 1) < l.length - i; omega, weak_ren_to [] rfl rfl rfl ⟨congrArg (AV.int .i64) (by rw [wrap_i64 (by omega) (by omega)]; exact hst.symm), rfl, rfl, wrap_nat (m := 1) (by omega), trivial⟩⟩
    · rw [hb] at q
      rw [if_pos hR, Int.add_zero] at hst
      (conv => whnf); (repeat' first | ((with_reducible refine Box.mk ?_); conv => whnf) | ((with_reducible refine And.intro (fun _ => ?_) (fun _ => ?_)) <;> conv => whnf) | ((with_reducible show AYld _ _ _ _ _); (refine AYld.of tok mixed ?_); conv => whnf) | ((with_reducible show forceH _ _); (refine (forceH_eq _ _).mpr ?_); conv => whnf) | ((with_reducible show ACall _ _ _ _ _); (refine ACall.of_pure (by assumption) (by rfl) ?_); conv => whnf) | ((with_reducible show Exists _); (refine ⟨_, ACall.of_pure (by assumption) (by rfl) ⟨rfl, rfl⟩, ?_⟩); conv => whnf) | ((with_reducible show _ ∧ _ ∧ _); (refine ⟨by omega, by omega, ?_⟩); conv => whnf) | fail)
      all_goals try (exfalso; omega)
      refine ⟨by omega, _, hg, rfl, ?_⟩
      (conv => whnf); (repeat' first | ((with_reducible refine Box.mk ?_); conv => whnf) | ((with_reducible refine And.intro (fun _ => ?_) (fun _ => ?_)) <;> conv => whnf) | ((with_reducible show AYld _ _ _ _ _); (refine AYld.of tok mixed ?_); conv => whnf) | ((with_reducible show forceH _ _); (refine (forceH_eq _ _).mpr ?_); conv => whnf) | ((with_reducible show ACall _ _ _ _ _); (refine ACall.of_pure (by assumption) (by rfl) ?_); conv => whnf) | ((with_reducible show Exists _); (refine ⟨_, ACall.of_pure (by assumption) (by rfl) ⟨rfl, rfl⟩, ?_⟩); conv => whnf) | ((with_reducible show _ ∧ _ ∧ _); (refine ⟨by omega, by omega, ?_⟩); conv => whnf) | fail)
      exact ⟨i + 1, hil, by show l.length - (i + 1) < l.length - i; omega, weak_ren_to [] rfl rfl rfl ⟨congrArg (AV.int .i64) hst.symm, rfl, rfl, wrap_nat (m := 1) (by omega), trivial⟩⟩
  · have : i = l.length := by omega
    (conv => whnf); (repeat' first | ((with_reducible refine Box.mk ?_); conv => whnf) | ((with_reducible refine And.intro (fun _ => ?_) (fun _ => ?_)) <;> conv => whnf) | ((with_reducible show AYld _ _ _ _ _); (refine AYld.of tok mixed ?_); conv => whnf) | ((with_reducible show forceH _ _); (refine (forceH_eq _ _).mpr ?_); conv => whnf) | ((with_reducible show ACall _ _ _ _ _); (refine ACall.of_pure (by assumption) (by rfl) ?_); conv => whnf) | ((with_reducible show Exists _); (refine ⟨_, ACall.of_pure (by assumption) (by rfl) ⟨rfl, rfl⟩, ?_⟩); conv => whnf) | ((with_reducible show _ ∧ _ ∧ _); (refine ⟨by omega, by omega, ?_⟩); conv => whnf) | fail)
    all_goals try (exfalso; omega)
    exact res1_eq (congrArg (AV.int .i64) (by show sizesF (l.take i) = _; rw [List.take_of_length_le (by omega)]))
end Go.Proofs.YtnajpmepcffnaaaDoor
end
