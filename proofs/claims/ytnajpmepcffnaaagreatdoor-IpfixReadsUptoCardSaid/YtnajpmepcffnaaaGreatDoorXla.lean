/- The program's contracts: texts joined into one: Wide Wire WireN Wire2 Wire3 Wire4 Wire5 Field Field2 Field3 Field4 Field5 Lib Label Label2 Label3 Label4 LawLabel Key Key2 Field6 Field7 Field8 Field9 FieldLaw LawLabel2 LawLabel3 FieldLaw2 Key3 Key4 Key5 Dim Pre LawKey Ref7 Ref7b Ref7c Ref7d Ref7e KeyLaw KeyLaw2 KeyLaw3 ArgsKey LawKey2 LawKey3 Pre2 Pre3 PreLaw PreLaw2 LawKey4 PreLaw3 PreLaw4 CacheLaw IpLaw Weaken. -/
import Derived.Test.YtnajpmepcffnaaaGreatDoorXFns
import Derived.Test.YtnajpmepcffnaaaGreatDoorXvb
import Derived.Test.YtnajpmepcffnaaaGreatDoorXvc
import Derived.Test.YtnajpmepcffnaaaGreatDoorXShelf

section
/- wide: what its functions compute. -/
namespace Go.Proofs.YtnajpmepcffnaaaGreatDoor
open Go.Ve

def wv (N : Nat) : AV := .agg [.int .u64 ((N / H64 : Nat) : Int), .int .u64 ((N % H64 : Nat) : Int)]
theorem hi_lt {N : Nat} (h : N < 2 ^ 128) : N / H64 < H64 := by
 rw [Nat.div_lt_iff_lt_mul (by decide), hh]; exact h
theorem lo_lt (N : Nat) : N % H64 < H64 := Nat.mod_lt _ (by decide)
theorem wrap_nat_u64 (n : Nat) : IntKind.u64.wrap (n : Int) = ((n % H64 : Nat) : Int) := by
 simp [IntKind.wrap, IntKind.signed, IntKind.bits]

theorem of_ok (n : Nat) (h : n < H64) : PCall P 154 [.int .u64 (n : Int)] (wv n) := by
 refine PCall.of_awp tok mixed fn154 (Nat.le_of_ble_eq_true rfl) ?_
 conv => whnf
 repeat' ((with_reducible refine Box.mk ?_) <;> conv => whnf)
 show AV.agg _ = AV.agg _
 rw [Nat.div_eq_of_lt h, Nat.mod_eq_of_lt h]; rfl

theorem and_ok (N M : Nat) (hN : N < 2 ^ 128) (hM : M < 2 ^ 128) : PCall P 131 [wv N, wv M] (wv (N &&& M)) := by
 refine PCall.of_awp tok mixed fn131 (Nat.le_of_ble_eq_true rfl) ?_
 conv => whnf
 repeat' ((with_reducible refine Box.mk ?_) <;> conv => whnf)
 show AV.agg [_, _] = AV.agg [_, _]
 rw [u64_and_nat _ _ (hi_lt hN) (hi_lt hM), u64_and_nat _ _ (lo_lt N) (lo_lt M), (and_halves N M).1, (and_halves N M).2]

def leftN (N : Nat) (n : Int) : Nat := if n < 1 then N else if 128 ≤ n then 0 else N * 2 ^ n.toNat % 2 ^ 128
theorem left_ok (N : Nat) (n : Int) : PCall P 143 [wv N, .int .i64 n] (wv (leftN N n)) := by
 refine PCall.of_awp tok mixed fn143 (Nat.le_of_ble_eq_true rfl) ?_
 conv => whnf
 repeat' ((with_reducible first | refine Box.mk ?_ | refine And.intro (fun _ => ?_) (fun _ => ?_) | fail) <;> conv => whnf)
 ·rename_i h1
  rw [leftN, if_pos h1]; rfl
 ·rename_i h1 h2
  show AV.agg _ = AV.agg _
  rw [leftN, if_neg h1, if_pos h2]; rfl
 ·rename_i h1 h2 h3
  obtain ⟨k, rfl⟩ := Int.eq_ofNat_of_zero_le (show 0 ≤ n by omega)
  have hw : IntKind.i64.wrap ((k : Int) - 64) = ((k - 64 : Nat) : Int) := by rw [wrap_i64 (by omega) (by omega)]; omega
  refine ⟨by show 0 ≤ IntKind.i64.wrap ((k : Int) - 64); rw [hw]; omega, ?_⟩
  conv => whnf
  repeat' ((with_reducible refine Box.mk ?_) <;> conv => whnf)
  obtain ⟨e1, e2⟩ := left_far N k (by omega)
  show AV.agg [_, _] = AV.agg [_, _]
  rw [leftN, if_neg h1, if_neg h2, Int.toNat_natCast, e1, e2, hw, Int.toNat_natCast]
  have e3 : min (k - 64) IntKind.u64.bits = k - 64 := by show min (k - 64) 64 = _; omega
  have e4 : IntKind.u64.wrap (((N % H64 : Nat) : Int) * 2 ^ (k - 64)) = ((N % H64 * 2 ^ (k - 64) % H64 : Nat) : Int) := by rw [← wrap_nat_u64 (N % H64 * 2 ^ (k - 64)), Int.natCast_mul, Int.natCast_pow]; rfl
  rw [e3, e4]; rfl
 ·rename_i h1 h2 h3
  obtain ⟨k, rfl⟩ := Int.eq_ofNat_of_zero_le (show 0 ≤ n by omega)
  have hk : k < 64 := by omega
  have hw : IntKind.i64.wrap (64 - (k : Int)) = ((64 - k : Nat) : Int) := by rw [wrap_i64 (by omega) (by omega)]; omega
  refine ⟨[], by kernel_rfl, ?_⟩
  conv => whnf
  repeat' ((with_reducible refine Box.mk ?_) <;> conv => whnf)
  refine ⟨by omega, ?_⟩
  conv => whnf
  repeat' ((with_reducible refine Box.mk ?_) <;> conv => whnf)
  refine ⟨by show 0 ≤ IntKind.i64.wrap (64 - (k : Int)); rw [hw]; omega, ?_⟩
  conv => whnf
  repeat' ((with_reducible refine Box.mk ?_) <;> conv => whnf)
  refine ⟨by omega, ?_⟩
  conv => whnf
  repeat' ((with_reducible refine Box.mk ?_) <;> conv => whnf)
  show AV.agg [_, _] = AV.agg [_, _]
  have e1 : min k IntKind.u64.bits = k := by show min k 64 = _; omega
  have e2 : min (64 - k) IntKind.u64.bits = 64 - k := by show min (64 - k) 64 = _; omega
  have e3 : ∀ m : Nat, IntKind.u64.wrap ((m : Int) * 2 ^ k) = ((m * 2 ^ k % H64 : Nat) : Int) := fun m => by rw [← wrap_nat_u64, Int.natCast_mul, Int.natCast_pow]; rfl
  have e4 : (((N % H64 : Nat) : Int)).fdiv (2 ^ (64 - k)) = ((N % H64 / 2 ^ (64 - k) : Nat) : Int) := by
   rw [Int.natCast_ediv, Int.natCast_pow]
   exact Int.fdiv_eq_ediv_of_nonneg _ (Int.le_of_lt (Int.pow_pos (by decide)))
  rw [hw, Int.toNat_natCast, Int.toNat_natCast, e1, e2, e3, e3, e4, u64_or_nat _ _ (Nat.mod_lt _ (by decide)) (Nat.lt_of_le_of_lt (Nat.div_le_self _ _) (lo_lt N))]
  rw [leftN, if_neg h1, if_neg h2, Int.toNat_natCast, left_hi N k hk, left_lo]
theorem leftN_lt {N : Nat} (hN : N < 2 ^ 128) (n : Int) : leftN N n < 2 ^ 128 := by
 unfold leftN
 split
 ·exact hN
 ·split
  ·decide
  ·exact Nat.mod_lt _ (by decide)

def maskN (n : Int) : Nat := if n ≤ 0 then 0 else leftN (2 ^ 128 - 1) (128 - min n 128)
theorem mask_ok (n : Int) : PCall P 132 [.int .i64 n] (wv (maskN n)) := by
 refine PCall.of_awp tok mixed fn132 (Nat.le_of_ble_eq_true rfl) ?_
 conv => whnf
 repeat' ((with_reducible first | refine Box.mk ?_ | refine And.intro (fun _ => ?_) (fun _ => ?_) | fail) <;> conv => whnf)
 ·rename_i h1
  rw [maskN, if_pos h1]; rfl
 ·rename_i h1
  have hw : IntKind.i64.wrap (128 - min n 128) = 128 - min n 128 := wrap_i64 (by omega) (by omega)
  have c := left_ok (2 ^ 128 - 1) (IntKind.i64.wrap (128 - min n 128))
  rw [hw] at c
  refine ACall.of_pure (args := [.agg [.int .u64 18446744073709551615, .int .u64 18446744073709551615], .int .i64 (IntKind.i64.wrap (128 - min n 128))]) (by rw [hw]; exact c) rfl ?_
  (conv => whnf); repeat' ((with_reducible refine Box.mk ?_) <;> conv => whnf)
  rw [maskN, if_neg h1]; rfl
theorem and_mask {N : Nat} (hN : N < 2 ^ 128) (n : Int) : N &&& maskN n = topN N (min n 128).toNat := by
 unfold maskN topN
 split
 ·rename_i h
  rw [Nat.and_zero, show (min n 128).toNat = 0 by omega, Nat.div_eq_of_lt (by simpa using hN), Nat.zero_mul]
 ·rename_i h
  unfold leftN
  split
  ·rename_i h1
   have e : (min n 128).toNat = 128 := by omega
   rw [e, Nat.and_two_pow_sub_one_eq_mod, Nat.mod_eq_of_lt hN]
   simp
  ·rw [if_neg (by omega)]
   have e : (128 - min n 128).toNat = 128 - (min n 128).toNat := by omega
   rw [e, all_left _ (by omega), and_top N _ hN (by omega)]
theorem top_ok' (N : Nat) (hN : N < 2 ^ 128) (n : Int) : PCall P 119 [wv N, .int .i64 n] (wv (topN N (min n 128).toNat)) := by
 have hM : maskN n < 2 ^ 128 := by
  unfold maskN
  split
  ·decide
  ·exact leftN_lt (by decide) _
 refine PCall.of_awp tok mixed fn119 (Nat.le_of_ble_eq_true rfl) ?_
 conv => whnf
 repeat' ((with_reducible refine Box.mk ?_) <;> conv => whnf)
 refine ⟨[], by kernel_rfl, ?_⟩
 conv => whnf
 repeat' ((with_reducible refine Box.mk ?_) <;> conv => whnf)
 refine ⟨_, ACall.of_pure (mask_ok n) rfl ⟨rfl, rfl⟩, ?_⟩
 conv => whnf
 repeat' ((with_reducible refine Box.mk ?_) <;> conv => whnf)
 refine ⟨_, ACall.of_pure (and_ok N (maskN n) hN hM) rfl ⟨rfl, rfl⟩, ?_⟩
 conv => whnf
 repeat' ((with_reducible refine Box.mk ?_) <;> conv => whnf)
 rw [and_mask hN]; rfl

end Go.Proofs.YtnajpmepcffnaaaGreatDoor
end

section
/- wire: the writer. -/
namespace Go.Proofs.YtnajpmepcffnaaaGreatDoor
open Go.Ve

def bcl (l : Bs) : List (List AV) := l.map byteCell
theorem bcl_len (l : Bs) : (bcl l).length = l.length := by simp [bcl]
theorem bcl_app (a b : Bs) : bcl (a ++ b) = bcl a ++ bcl b := by simp [bcl]
theorem bcl_cells (l : Bs) : allCells 1 (bcl l) := fun c hc => by
 obtain ⟨b, _, rfl⟩ := List.mem_map.1 hc
 exact ⟨rfl, rfl⟩
theorem bcl_all (l : Bs) : allLen 1 (bcl l) := fun c hc => (bcl_cells l c hc).1
def wH : Bs → Hp
 | [] => [.box 89 [.nils]]
 | x :: r => [.box 89 [.own 1], .row 5 1 (bcl (x :: r))]
def wP : Bs → Bs → Hp
 | [], cs => wH cs
 | _ :: _, cs => [.box 89 [.own 2], .dead, .row 5 1 (bcl cs)]
def numB (n : Nat) : Nat → Bs
 | 0 => []
 | k + 1 => UInt8.ofNat (n / 256 ^ k) :: numB n k
theorem numB_len (n : Nat) : ∀ k, (numB n k).length = k
 | 0 => rfl
 | k + 1 => by simp [numB, numB_len n k]
theorem numB_get {n : Nat} : ∀ {k t : Nat}, t < k → (numB n k)[t]? = some (UInt8.ofNat (n / 256 ^ (k - 1 - t)))
 | 0, _, h => by omega
 | k + 1, 0, _ => by simp [numB]
 | k + 1, t + 1, h => by
  simp only [numB, List.getElem?_cons_succ]
  rw [numB_get (by omega)]
  congr 4; omega
theorem numB_take {n k t : Nat} (h : t < k) : (numB n k).take (t + 1) = (numB n k).take t ++ [UInt8.ofNat (n / 256 ^ (k - 1 - t))] := by
 rw [List.take_add_one, numB_get h]; rfl
def szN (k : Int) : Nat := (min (max k 1) 8).toNat
theorem szN_pos (k : Int) : 1 ≤ szN k ∧ szN k ≤ 8 := by unfold szN; omega
theorem wSize_ok (k : Int) : PCall P 63 [.int .i64 k] (.int .i64 (szN k : Nat)) := by
 refine PCall.of_awp tok mixed fn63 (Nat.le_of_ble_eq_true rfl) ?_
 (conv => whnf); repeat' ((with_reducible refine Box.mk ?_) <;> conv => whnf)
 exact res1_eq (congrArg (AV.int .i64) (by unfold szN; omega))
theorem u8_of (n : Nat) : IntKind.u8.wrap (n : Int) = ((UInt8.ofNat n).toNat : Int) := by
 have : IntKind.u8.wrap (n : Int) = ((n % 256 : Nat) : Int) := by
  simp [IntKind.wrap, IntKind.signed, IntKind.bits]
 rw [this]; rfl
theorem byte_at {n i : Nat} (hi : i < 8) : [AV.int .u8 (IntKind.u8.wrap (Int.fdiv (n : Int) (2 ^ (min ((8 * i : Nat) : Int).toNat IntKind.u64.bits))))] = byteCell (UInt8.ofNat (n / 256 ^ i)) := by
 rw [Int.toNat_natCast, Nat.min_eq_left (by show 8 * i ≤ 64; omega)]
 have e2 : Int.fdiv (n : Int) (2 ^ (8 * i)) = ((n / 256 ^ i : Nat) : Int) := by
  rw [show (256 : Nat) = 2 ^ 8 from rfl, ← Nat.pow_mul, Int.fdiv_eq_ediv_of_nonneg _ (Int.pow_nonneg (by decide))]
  norm_cast
 rw [e2, u8_of]; rfl
set_option maxHeartbeats 4000000 in
theorem wNum0 (n : Nat) (k : Int) : DCall P 30 [.ptr 0 0, .int .u64 n, .int .i64 k] (wH []) (.ptr 0 0) (wP [] (numB n (szN k))) := by
 have q1 := wSize_ok k
 have hk := szN_pos k
 have hlen := numB_len n (szN k)
 have htk := fun t (h : t < szN k) => numB_take (n := n) h
 have hall : (numB n (szN k)).take (szN k) = numB n (szN k) := List.take_of_length_le (by omega)
 generalize szN k = K at *
 have htl : ∀ t, t ≤ K → ((numB n K).take t).length = t := fun t ht => by rw [List.length_take, hlen]; omega
 refine DCall.of_awp tok mixed fn30 (Nat.le_of_ble_eq_true rfl) ?_
 (conv => whnf); (repeat' ((first | (with_reducible first | refine Box.mk ?_ | refine And.intro (fun _ => ?_) (fun _ => ?_) | fail) | ((with_reducible show ACall _ _ _ _ _); refine ACall.of_pure (by assumption) (by rfl) ?_) | fail) <;> conv => whnf))
 all_goals try contradiction
 refine aloop (fun x : Nat × Bs => x.1 ≤ K ∧ x.2 = (numB n K).take x.1) (fun x => ⟨envL [(0, .ptr 0 0), (1, .int .u64 n), (7, .int .i64 ((K : Int) - 1 - (x.1 : Int)))], wH x.2⟩) (fun x => K - x.1) (0, []) ⟨Nat.zero_le _, rfl⟩
  (weak_to ⟨rfl, rfl, congrArg (AV.int .i64) (by show IntKind.i64.wrap _ = _; rw [wrap_i64 (by omega) (by omega)]; show (K : Int) - 1 = (K : Int) - 1 - ((0 : Nat) : Int); omega), trivial⟩ rfl) ?_
 rintro ⟨t, l⟩ ⟨ht, hl⟩
 have ht : t ≤ K := ht
 have hl : l = (numB n K).take t := hl
 have hll : l.length = t := by rw [hl]; exact htl t ht
 have hbl := bcl_len l
 have hi8 : t < K → IntKind.i64.wrap (8 * ((K : Int) - 1 - (t : Int))) = ((8 * (K - 1 - t) : Nat) : Int) := fun h => by rw [wrap_i64 (by omega) (by omega)]; omega
 have hby := fun h : t < K => byte_at (n := n) (i := K - 1 - t) (by omega)
 have hstep := fun h : t < K => htk t h
 rw [← hl] at hstep
 have hi1 : t < K → IntKind.i64.wrap ((K : Int) - 1 - (t : Int) - 1) = (K : Int) - 1 - ((t + 1 : Nat) : Int) := fun h => by rw [wrap_i64 (by omega) (by omega)]; omega
 cases l with
 | nil =>
  (conv => whnf); (repeat' ((with_reducible first | refine Box.mk ?_ | refine And.intro (fun _ => ?_) (fun _ => ?_) | fail) <;> conv => whnf))
  ·rename_i h0
   have hlt : t < K := by have h0 : 0 ≤ (K : Int) - 1 - (t : Int) := h0; omega
   have hs2 := hstep hlt
   have hb2 := hby hlt
   refine ⟨[(10, [4])], by kernel_rfl, ?_⟩
   (conv => whnf); repeat' ((with_reducible refine Box.mk ?_) <;> conv => whnf)
   rw [hi8 hlt]
   refine ⟨by omega, ?_⟩
   (conv => whnf); repeat' ((with_reducible refine Box.mk ?_) <;> conv => whnf)
   (refine And.intro ?_ ?_); (focus ((conv => whnf); (repeat' first | exact trivial | ((refine And.intro ?_ ?_); (focus ((conv => whnf); (first | exact ⟨rfl, rfl⟩ | exact ⟨by decide, by decide, rfl, rfl⟩ | exact ⟨by omega, by omega, rfl, rfl⟩ | exact ⟨by (simp only [List.length_drop, List.length_take]; omega), rfl, rfl⟩ | exact ⟨_, rfl, rfl, rfl⟩ | exact ⟨by omega, _, by assumption, rfl, rfl, rfl⟩ | ((refine ACall.of_pure (by assumption) (by rfl) ?_); (refine And.intro ?_ ?_ <;> rfl))))); (conv => whnf)))))
   (conv => whnf); repeat' ((with_reducible refine Box.mk ?_) <;> conv => whnf)
   rw [hb2]
   refine ⟨bcl_cells [_], fun h => (by cases h), fun _ => ⟨Nat.le_of_ble_eq_true rfl, Nat.le_of_ble_eq_true rfl, ?_⟩⟩
   (conv => whnf); repeat' ((with_reducible refine Box.mk ?_) <;> conv => whnf)
   exact ⟨(t + 1, _), ⟨hlt, hs2.symm⟩, by show K - (t + 1) < K - t; omega, weak_ren_to [(0, true), (2, true)] rfl rfl rfl ⟨rfl, rfl, congrArg (AV.int .i64) (hi1 hlt), trivial⟩⟩
  ·rename_i h0
   have h0 : ¬ 0 ≤ (K : Int) - 1 - (t : Int) := h0
   exfalso
   have : t = 0 := hll.symm
   omega
 | cons x r =>
  (conv => whnf); (repeat' ((with_reducible first | refine Box.mk ?_ | refine And.intro (fun _ => ?_) (fun _ => ?_) | fail) <;> conv => whnf))
  ·rename_i h0
   have hlt : t < K := by have h0 : 0 ≤ (K : Int) - 1 - (t : Int) := h0; omega
   have hs2 := hstep hlt
   have hb2 := hby hlt
   refine ⟨[(10, [4])], by kernel_rfl, ?_⟩
   (conv => whnf); repeat' ((with_reducible refine Box.mk ?_) <;> conv => whnf)
   rw [hi8 hlt]
   refine ⟨by omega, ?_⟩
   (conv => whnf); repeat' ((with_reducible refine Box.mk ?_) <;> conv => whnf)
   (refine And.intro ?_ ?_); (focus ((conv => whnf); (repeat' first | exact trivial | ((refine And.intro ?_ ?_); (focus ((conv => whnf); (first | exact ⟨rfl, rfl⟩ | exact ⟨by decide, by decide, rfl, rfl⟩ | exact ⟨by omega, by omega, rfl, rfl⟩ | exact ⟨by (simp only [List.length_drop, List.length_take]; omega), rfl, rfl⟩ | exact ⟨_, rfl, rfl, rfl⟩ | exact ⟨by omega, _, by assumption, rfl, rfl, rfl⟩ | ((refine ACall.of_pure (by assumption) (by rfl) ?_); (refine And.intro ?_ ?_ <;> rfl))))); (conv => whnf)))))
   (conv => whnf); repeat' ((with_reducible refine Box.mk ?_) <;> conv => whnf)
   rw [hb2]
   refine ⟨bcl_cells [_], by rw [hbl]; show (_ + 1) * 1 ≤ _; omega, by rw [hbl]; show _ + 1 ≤ _; omega, ?_⟩
   (conv => whnf); repeat' ((with_reducible refine Box.mk ?_) <;> conv => whnf)
   refine ⟨(t + 1, x :: r ++ [UInt8.ofNat (n / 256 ^ (K - 1 - t))]), ⟨hlt, hs2.symm⟩, by show K - (t + 1) < K - t; omega, weak_ren_to [(0, true), (3, true)] rfl rfl ?_ ⟨rfl, rfl, congrArg (AV.int .i64) (hi1 hlt), trivial⟩⟩
   show [_, Ob.row _ _ (bcl (x :: r) ++ [byteCell _])] = [_, Ob.row _ _ (bcl (x :: r ++ [_]))]
   rw [bcl_app]; rfl
  ·rename_i h0
   have h0 : ¬ 0 ≤ (K : Int) - 1 - (t : Int) := h0
   have : t = K := by omega
   subst this
   rw [← hall, ← hl]
   exact weak_to ⟨rfl, trivial⟩ rfl
set_option maxHeartbeats 4000000 in
theorem wNum1 (y : UInt8) (bs : Bs) (hbs : (y :: bs).length ≤ 1000000000) (n : Nat) (k : Int) : DCall P 30 [.ptr 0 0, .int .u64 n, .int .i64 k] (wH (y :: bs)) (.ptr 0 0) (wP (y :: bs) (y :: bs ++ numB n (szN k))) := by
 have q1 := wSize_ok k
 have hk := szN_pos k
 have hlen := numB_len n (szN k)
 have htk := fun t (h : t < szN k) => numB_take (n := n) h
 have hall : (numB n (szN k)).take (szN k) = numB n (szN k) := List.take_of_length_le (by omega)
 generalize szN k = K at *
 have htl : ∀ t, t ≤ K → ((numB n K).take t).length = t := fun t ht => by rw [List.length_take, hlen]; omega
 refine DCall.of_awp tok mixed fn30 (Nat.le_of_ble_eq_true rfl) ?_
 (conv => whnf); (repeat' ((first | (with_reducible first | refine Box.mk ?_ | refine And.intro (fun _ => ?_) (fun _ => ?_) | fail) | ((with_reducible show ACall _ _ _ _ _); refine ACall.of_pure (by assumption) (by rfl) ?_) | fail) <;> conv => whnf))
 all_goals try contradiction
 refine aloop (fun x : Nat × Bs => x.1 ≤ K ∧ x.2 = (numB n K).take x.1) (fun x => ⟨envL [(0, .ptr 0 0), (1, .int .u64 n), (7, .int .i64 ((K : Int) - 1 - (x.1 : Int)))], wP (y :: bs) (y :: bs ++ x.2)⟩) (fun x => K - x.1) (0, []) ⟨Nat.zero_le _, rfl⟩
  (weak_ren_to [(0, true), (1, false), (1, true)] rfl rfl (by show [_, _, Ob.row _ _ (bcl (y :: bs))] = [_, _, Ob.row _ _ (bcl (y :: bs ++ []))]; rw [List.append_nil]; rfl) ⟨rfl, rfl, congrArg (AV.int .i64) (by show IntKind.i64.wrap _ = _; rw [wrap_i64 (by omega) (by omega)]; show (K : Int) - 1 = (K : Int) - 1 - ((0 : Nat) : Int); omega), trivial⟩) ?_
 rintro ⟨t, l⟩ ⟨ht, hl⟩
 have ht : t ≤ K := ht
 have hl : l = (numB n K).take t := hl
 have hll : l.length = t := by rw [hl]; exact htl t ht
 have hbl := bcl_len (y :: bs ++ l)
 rw [List.length_append] at hbl
 have hi8 : t < K → IntKind.i64.wrap (8 * ((K : Int) - 1 - (t : Int))) = ((8 * (K - 1 - t) : Nat) : Int) := fun h => by rw [wrap_i64 (by omega) (by omega)]; omega
 have hby := fun h : t < K => byte_at (n := n) (i := K - 1 - t) (by omega)
 have hstep := fun h : t < K => htk t h
 rw [← hl] at hstep
 have hi1 : t < K → IntKind.i64.wrap ((K : Int) - 1 - (t : Int) - 1) = (K : Int) - 1 - ((t + 1 : Nat) : Int) := fun h => by rw [wrap_i64 (by omega) (by omega)]; omega
 (conv => whnf); (repeat' ((with_reducible first | refine Box.mk ?_ | refine And.intro (fun _ => ?_) (fun _ => ?_) | fail) <;> conv => whnf))
 ·rename_i h0
  have hlt : t < K := by have h0 : 0 ≤ (K : Int) - 1 - (t : Int) := h0; omega
  have hs2 := hstep hlt
  have hb2 := hby hlt
  refine ⟨[(10, [4])], by kernel_rfl, ?_⟩
  (conv => whnf); repeat' ((with_reducible refine Box.mk ?_) <;> conv => whnf)
  rw [hi8 hlt]
  refine ⟨by omega, ?_⟩
  (conv => whnf); repeat' ((with_reducible refine Box.mk ?_) <;> conv => whnf)
  (refine And.intro ?_ ?_); (focus ((conv => whnf); (repeat' first | exact trivial | ((refine And.intro ?_ ?_); (focus ((conv => whnf); (first | exact ⟨rfl, rfl⟩ | exact ⟨by decide, by decide, rfl, rfl⟩ | exact ⟨by omega, by omega, rfl, rfl⟩ | exact ⟨by (simp only [List.length_drop, List.length_take]; omega), rfl, rfl⟩ | exact ⟨_, rfl, rfl, rfl⟩ | exact ⟨by omega, _, by assumption, rfl, rfl, rfl⟩ | ((refine ACall.of_pure (by assumption) (by rfl) ?_); (refine And.intro ?_ ?_ <;> rfl))))); (conv => whnf)))))
  (conv => whnf); repeat' ((with_reducible refine Box.mk ?_) <;> conv => whnf)
  rw [hb2]
  refine ⟨bcl_cells [_], by rw [hbl]; show (_ + 1) * 1 ≤ _; omega, by rw [hbl]; show _ + 1 ≤ _; omega, ?_⟩
  (conv => whnf); repeat' ((with_reducible refine Box.mk ?_) <;> conv => whnf)
  refine ⟨(t + 1, l ++ [UInt8.ofNat (n / 256 ^ (K - 1 - t))]), ⟨hlt, hs2.symm⟩, by show K - (t + 1) < K - t; omega, weak_ren_to [(0, true), (1, false), (4, true)] rfl rfl ?_ ⟨rfl, rfl, congrArg (AV.int .i64) (hi1 hlt), trivial⟩⟩
  show [_, _, Ob.row _ _ (bcl (y :: bs ++ l) ++ [byteCell _])] = [_, _, Ob.row _ _ (bcl (y :: bs ++ (l ++ [_])))]
  rw [← List.append_assoc, bcl_app (y :: bs ++ l)]; rfl
 ·rename_i h0
  have h0 : ¬ 0 ≤ (K : Int) - 1 - (t : Int) := h0
  have : t = K := by omega
  subst this
  rw [← hall, ← hl]
  exact weak_to ⟨rfl, trivial⟩ rfl
theorem wNum_ok (bs : Bs) (hbs : bs.length ≤ 1000000000) (n : Nat) (k : Int) : DCall P 30 [.ptr 0 0, .int .u64 n, .int .i64 k] (wH bs) (.ptr 0 0) (wP bs (bs ++ numB n (szN k))) := by
 cases bs with
 | nil => exact wNum0 n k
 | cons y r => exact wNum1 y r hbs n k
theorem wWide_ok (bs : Bs) (hbs : bs.length ≤ 900000000) (hi lo : Nat) : DCall P 108 [.ptr 0 0, .agg [.int .u64 hi, .int .u64 lo]] (wH bs) (.ptr 0 0) (wP bs (bs ++ (numB hi 8 ++ numB lo 8))) := by
 have hb1 := numB_len hi 8
 have q1 := wNum_ok bs (by omega) hi 8
 have q2 := wNum_ok (bs ++ numB hi 8) (by rw [List.length_append]; omega) lo 8
 rw [show szN 8 = 8 from rfl] at q1 q2
 rw [List.append_assoc] at q2
 have ew : ∃ a b, numB hi 8 = a :: b := ⟨_, _, rfl⟩
 obtain ⟨a, b, ew⟩ := ew
 rw [ew] at q1 q2 ⊢
 refine DCall.of_awp tok mixed fn108 (Nat.le_of_ble_eq_true rfl) ?_
 cases bs with
 | nil =>
  (conv => whnf); repeat' ((with_reducible refine Box.mk ?_) <;> conv => whnf)
  refine ⟨[(2003, []), (2006, []), (3005, [3])], by kernel_rfl, ?_⟩
  (conv => whnf); repeat' ((with_reducible refine Box.mk ?_) <;> conv => whnf)
  refine aDw [0] q1 rfl rfl rfl ?_
  (conv => whnf); repeat' ((with_reducible refine Box.mk ?_) <;> conv => whnf)
  (refine And.intro ?_ ?_); (focus ((conv => whnf); (repeat' first | exact trivial | ((refine And.intro ?_ ?_); (focus ((conv => whnf); (first | exact ⟨rfl, rfl⟩ | exact ⟨by decide, by decide, rfl, rfl⟩ | exact ⟨by omega, by omega, rfl, rfl⟩ | exact ⟨by (simp only [List.length_drop, List.length_take]; omega), rfl, rfl⟩ | exact ⟨_, rfl, rfl, rfl⟩ | exact ⟨by omega, _, by assumption, rfl, rfl, rfl⟩ | ((refine ACall.of_pure (by assumption) (by rfl) ?_); (refine And.intro ?_ ?_ <;> rfl))))); (conv => whnf)))))
  (conv => whnf); repeat' ((with_reducible refine Box.mk ?_) <;> conv => whnf)
  refine aDw [0, 2] q2 rfl rfl rfl ?_
  (conv => whnf); repeat' ((with_reducible refine Box.mk ?_) <;> conv => whnf)
  exact weak_ren_to [(0, true), (3, true)] rfl rfl rfl ⟨rfl, trivial⟩
 | cons y r =>
  (conv => whnf); repeat' ((with_reducible refine Box.mk ?_) <;> conv => whnf)
  refine ⟨[(2003, []), (2006, []), (3005, [3])], by kernel_rfl, ?_⟩
  (conv => whnf); repeat' ((with_reducible refine Box.mk ?_) <;> conv => whnf)
  refine aDw [0, 1] q1 rfl rfl rfl ?_
  (conv => whnf); repeat' ((with_reducible refine Box.mk ?_) <;> conv => whnf)
  (refine And.intro ?_ ?_); (focus ((conv => whnf); (repeat' first | exact trivial | ((refine And.intro ?_ ?_); (focus ((conv => whnf); (first | exact ⟨rfl, rfl⟩ | exact ⟨by decide, by decide, rfl, rfl⟩ | exact ⟨by omega, by omega, rfl, rfl⟩ | exact ⟨by (simp only [List.length_drop, List.length_take]; omega), rfl, rfl⟩ | exact ⟨_, rfl, rfl, rfl⟩ | exact ⟨by omega, _, by assumption, rfl, rfl, rfl⟩ | ((refine ACall.of_pure (by assumption) (by rfl) ?_); (refine And.intro ?_ ?_ <;> rfl))))); (conv => whnf)))))
  (conv => whnf); repeat' ((with_reducible refine Box.mk ?_) <;> conv => whnf)
  refine aDw [0, 3] q2 rfl rfl rfl ?_
  (conv => whnf); repeat' ((with_reducible refine Box.mk ?_) <;> conv => whnf)
  exact weak_ren_to [(0, true), (1, false), (4, true)] rfl rfl rfl ⟨rfl, trivial⟩
theorem clone_own (l : Bs) (hl : l.length ≤ 1000000000) : DCall P 64 [.own 0] [.row 5 1 (bcl l)] (.sl (bcl l)) [.row 5 1 (bcl l)] := by
 have hbl := bcl_len l
 refine DCall.of_awp tok mixed fn64 (Nat.le_of_ble_eq_true rfl) ?_
 (conv => whnf); repeat' ((with_reducible refine Box.mk ?_) <;> conv => whnf)
 refine ⟨?_, fun h => ?_⟩
 ·(conv => whnf); repeat' ((with_reducible refine Box.mk ?_) <;> conv => whnf)
  refine ⟨bcl_cells l, by rw [hbl]; show (0 + _) * 1 ≤ _; omega, by rw [hbl]; show 0 + _ ≤ _; omega, ?_⟩
  (conv => whnf); repeat' ((with_reducible refine Box.mk ?_) <;> conv => whnf)
  exact weak_cr 2 [(0, true)] rfl rfl rfl rfl rfl
 ·(conv => whnf); repeat' ((with_reducible refine Box.mk ?_) <;> conv => whnf)
  rw [h]
  exact weak_le ⟨.inr ⟨rfl, rfl⟩, trivial⟩ rfl
theorem clone_sl (l : Bs) (hl : l.length ≤ 1000000000) : DCall P 64 [.sl (bcl l)] [] (.sl (bcl l)) [] := by
 have hbl := bcl_len l
 refine DCall.of_awp tok mixed fn64 (Nat.le_of_ble_eq_true rfl) ?_
 (conv => whnf); repeat' ((with_reducible refine Box.mk ?_) <;> conv => whnf)
 refine ⟨?_, fun h => ?_⟩
 ·(conv => whnf); repeat' ((with_reducible refine Box.mk ?_) <;> conv => whnf)
  refine ⟨bcl_cells l, by rw [hbl]; show (0 + _) * 1 ≤ _; omega, by rw [hbl]; show 0 + _ ≤ _; omega, ?_⟩
  (conv => whnf); repeat' ((with_reducible refine Box.mk ?_) <;> conv => whnf)
  exact weak_cr 1 [] rfl rfl rfl rfl rfl
 ·(conv => whnf); repeat' ((with_reducible refine Box.mk ?_) <;> conv => whnf)
  rw [h]
  exact weak_nils rfl ⟨rfl, trivial⟩
def rH (bs : Bs) (e : Int) : Hp := [.box 140 [.bool true, .sl (bcl bs), .int .i64 e]]
theorem from_sl (l : Bs) (hl : l.length ≤ 1000000000) : DCall P 40 [.sl (bcl l)] [] (.ptr 0 0) (rH l 0) := by
 have q1 := clone_sl l hl
 refine DCall.of_awp tok mixed fn40 (Nat.le_of_ble_eq_true rfl) ?_
 (conv => whnf); repeat' ((with_reducible refine Box.mk ?_) <;> conv => whnf)
 refine aW [] q1 rfl rfl rfl ?_
 (conv => whnf); repeat' ((with_reducible refine Box.mk ?_) <;> conv => whnf)
 exact weak_to ⟨rfl, trivial⟩ rfl
theorem rErr_ok (bs : Bs) (e : Int) : DCall P 46 [.ptr 0 0] (rH bs e) (.int .i64 e) (rH bs e) := by
 refine DCall.of_awp tok mixed fn46 (Nat.le_of_ble_eq_true rfl) ?_
 (conv => whnf); (repeat' ((with_reducible first | refine Box.mk ?_ | refine And.intro (fun _ => ?_) (fun _ => ?_) | fail) <;> conv => whnf))
 all_goals try contradiction
 exact weak_to ⟨rfl, trivial⟩ rfl
def restN (bs : Bs) (e : Int) : Int := if e = 0 then (bs.length : Int) else 0
theorem rLeft_ok (bs : Bs) (e : Int) : DCall P 43 [.ptr 0 0] (rH bs e) (.int .i64 (restN bs e)) (rH bs e) := by
 have q1 := rErr_ok bs e
 have hbl := bcl_len bs
 refine DCall.of_awp tok mixed fn43 (Nat.le_of_ble_eq_true rfl) ?_
 (conv => whnf); repeat' ((with_reducible refine Box.mk ?_) <;> conv => whnf)
 refine aW [0] q1 rfl rfl rfl ?_
 (conv => whnf); (repeat' ((with_reducible first | refine Box.mk ?_ | refine And.intro (fun _ => ?_) (fun _ => ?_) | fail) <;> conv => whnf))
 ·rename_i h
  exact weak_to ⟨congrArg (AV.int .i64) (by rw [restN, if_pos h, hbl]), trivial⟩ rfl
 ·rename_i h
  exact weak_to ⟨congrArg (AV.int .i64) (by rw [restN, if_neg h]), trivial⟩ rfl
def mustE (e : Int) (b : Bool) : Int := if e = 0 ∧ b = false then 3 else e
theorem rMust_ok (bs : Bs) (e : Int) (b : Bool) : DCall P 44 [.ptr 0 0, .bool b] (rH bs e) (mkRes []) (rH bs (mustE e b)) := by
 have q1 := rErr_ok bs e
 cases b
 all_goals (
  refine DCall.of_awp tok mixed fn44 (Nat.le_of_ble_eq_true rfl) ?_
  (conv => whnf); repeat' ((with_reducible refine Box.mk ?_) <;> conv => whnf)
  refine aW [0] q1 rfl rfl rfl ?_
  (conv => whnf); (repeat' ((with_reducible first | refine Box.mk ?_ | refine And.intro (fun _ => ?_) (fun _ => ?_) | fail) <;> conv => whnf)))
 ·rename_i h
  exact weak_to ⟨rfl, trivial⟩ (by rw [mustE, if_pos ⟨h, rfl⟩]; rfl)
 ·rename_i h
  exact weak_to ⟨rfl, trivial⟩ (by rw [mustE, if_neg (fun hc => h hc.1)]; rfl)
 ·exact weak_to ⟨rfl, trivial⟩ (by rw [mustE, if_neg (fun hc => by cases hc.2)]; rfl)
 ·exact weak_to ⟨rfl, trivial⟩ (by rw [mustE, if_neg (fun hc => by cases hc.2)]; rfl)
def rawF (n : Int) (bs : Bs) (e : Int) : Bs × Bs × Int :=
 if mustE e (decide (0 ≤ n)) ≠ 0 then ([], bs, mustE e (decide (0 ≤ n))) else if (bs.length : Int) < n then ([], bs, 8) else (bs.take n.toNat, bs.drop n.toNat, 0)
theorem rRaw_ok (bs : Bs) (e n : Int) (hbs : bs.length ≤ 1000000000) : DCall P 45 [.ptr 0 0, .int .i64 n] (rH bs e) (.sl (bcl (rawF n bs e).1)) (rH (rawF n bs e).2.1 (rawF n bs e).2.2) := by
 have q1 := fun b => rMust_ok bs e b
 have hbl := bcl_len bs
 by_cases h0 : mustE e (decide (0 ≤ n)) = 0
 ·have hn : 0 ≤ n := by
   by_cases hc : 0 ≤ n
   ·exact hc
   ·rw [decide_eq_false hc] at h0
    unfold mustE at h0
    split at h0
    ·cases h0
    ·rename_i h1; exact absurd ⟨h0, rfl⟩ h1
  rw [decide_eq_true hn] at h0
  have q1' := q1 true
  rw [h0] at q1'
  have q2 := rErr_ok bs 0
  by_cases hl : (bs.length : Int) < n
  ·have e1 : rawF n bs e = ([], bs, 8) := by unfold rawF; rw [decide_eq_true hn, if_neg (fun h => h h0), if_pos hl]
   rw [e1]
   refine DCall.of_awp tok mixed fn45 (Nat.le_of_ble_eq_true rfl) ?_
   (conv => whnf); (repeat' ((with_reducible first | refine Box.mk ?_ | refine And.intro (fun _ => ?_) (fun _ => ?_) | fail) <;> conv => whnf))
   ·refine aW [0] q1' rfl rfl rfl ?_
    (conv => whnf); repeat' ((with_reducible refine Box.mk ?_) <;> conv => whnf)
    refine aW [0] q2 rfl rfl rfl ?_
    (conv => whnf); (repeat' ((first | (with_reducible first | refine Box.mk ?_ | refine And.intro (fun _ => ?_) (fun _ => ?_) | fail) | ((with_reducible show _ ∧ _ ∧ _); refine ⟨by omega, by omega, ?_⟩) | fail) <;> conv => whnf))
    all_goals try contradiction
    ·exact weak_le ⟨.inr ⟨rfl, rfl⟩, trivial⟩ rfl
    ·exfalso; omega
   ·contradiction
  ·obtain ⟨k, rfl⟩ : ∃ k : Nat, n = k := ⟨n.toNat, by omega⟩
   have e1 : rawF k bs e = (bs.take k, bs.drop k, 0) := by unfold rawF; rw [decide_eq_true hn, if_neg (fun h => h h0), if_neg hl]; rfl
   have hk : k ≤ bs.length := by omega
   rw [e1]
   refine DCall.of_awp tok mixed fn45 (Nat.le_of_ble_eq_true rfl) ?_
   (conv => whnf); (repeat' ((with_reducible first | refine Box.mk ?_ | refine And.intro (fun _ => ?_) (fun _ => ?_) | fail) <;> conv => whnf))
   ·refine aW [0] q1' rfl rfl rfl ?_
    (conv => whnf); repeat' ((with_reducible refine Box.mk ?_) <;> conv => whnf)
    refine aW [0] q2 rfl rfl rfl ?_
    (conv => whnf); (repeat' ((first | (with_reducible first | refine Box.mk ?_ | refine And.intro (fun _ => ?_) (fun _ => ?_) | fail) | ((with_reducible show _ ∧ _ ∧ _); refine ⟨by omega, by omega, ?_⟩) | fail) <;> conv => whnf))
    all_goals try contradiction
    ·exfalso; omega
    ·refine ⟨by show (k : Int) * ((1 : Nat) : Int) ≤ _; omega, by omega, ?_⟩
     have hd : List.drop 0 (List.take ((k : Nat) : Int).toNat (bcl bs)) = bcl (bs.take k) := by rw [List.drop_zero, Int.toNat_natCast]; exact (List.map_take ..).symm
     have hd2 : List.drop ((k : Nat) : Int).toNat (List.take (bcl bs).length (bcl bs)) = bcl (bs.drop k) := by rw [List.take_length, Int.toNat_natCast]; exact (List.map_drop ..).symm
     have hcp : List.take (List.replicate ((k : Nat) : Int).toNat [AV.int .u8 0]).length (bcl (bs.take k)) ++ List.drop (bcl (bs.take k)).length (List.replicate ((k : Nat) : Int).toNat [AV.int .u8 0]) = bcl (bs.take k) := by
      have hl1 : (bcl (bs.take k)).length = k := by rw [bcl_len, List.length_take]; omega
      rw [hl1, List.length_replicate, Int.toNat_natCast, List.drop_of_length_le (by rw [List.length_replicate]; omega), List.append_nil, List.take_of_length_le (by omega)]
     (conv => whnf); (repeat' ((first | (with_reducible refine Box.mk ?_) | ((with_reducible show _ ∧ _ ∧ _); refine ⟨by omega, by omega, ?_⟩) | fail) <;> conv => whnf))
     rw [hd]
     refine ⟨bcl_all bs, ?_⟩
     (conv => whnf); repeat' ((with_reducible refine Box.mk ?_) <;> conv => whnf)
     refine ⟨bcl_cells _, ?_⟩
     (conv => whnf); (repeat' ((first | (with_reducible refine Box.mk ?_) | ((with_reducible show _ ∧ _ ∧ _); refine ⟨by omega, by omega, ?_⟩) | fail) <;> conv => whnf))
     rw [hd2]
     refine ⟨bcl_all bs, ?_⟩
     (conv => whnf); repeat' ((with_reducible refine Box.mk ?_) <;> conv => whnf)
     exact weak_cr 1 [(0, true)] rfl rfl rfl (congrArg AV.sl hcp) rfl
   ·contradiction
 ·have e1 : rawF n bs e = ([], bs, mustE e (decide (0 ≤ n))) := by unfold rawF; rw [if_pos h0]
  rw [e1]
  have q2 := rErr_ok bs (mustE e (decide (0 ≤ n)))
  generalize hm : mustE e (decide (0 ≤ n)) = m at *
  refine DCall.of_awp tok mixed fn45 (Nat.le_of_ble_eq_true rfl) ?_
  (conv => whnf); (repeat' ((with_reducible first | refine Box.mk ?_ | refine And.intro (fun _ => ?_) (fun _ => ?_) | fail) <;> conv => whnf))
  ·rename_i hn
   have q1' := q1 true
   rw [decide_eq_true hn] at hm
   rw [hm] at q1'
   refine aW [0] q1' rfl rfl rfl ?_
   (conv => whnf); repeat' ((with_reducible refine Box.mk ?_) <;> conv => whnf)
   refine aW [0] q2 rfl rfl rfl ?_
   (conv => whnf); (repeat' ((first | (with_reducible first | refine Box.mk ?_ | refine And.intro (fun _ => ?_) (fun _ => ?_) | fail) | ((with_reducible show _ ∧ _ ∧ _); refine ⟨by omega, by omega, ?_⟩) | fail) <;> conv => whnf))
   all_goals try contradiction
   exact weak_le ⟨.inr ⟨rfl, rfl⟩, trivial⟩ rfl
  ·rename_i hn
   have q1' := q1 false
   rw [decide_eq_false hn] at hm
   rw [hm] at q1'
   refine aW [0] q1' rfl rfl rfl ?_
   (conv => whnf); repeat' ((with_reducible refine Box.mk ?_) <;> conv => whnf)
   refine aW [0] q2 rfl rfl rfl ?_
   (conv => whnf); (repeat' ((first | (with_reducible first | refine Box.mk ?_ | refine And.intro (fun _ => ?_) (fun _ => ?_) | fail) | ((with_reducible show _ ∧ _ ∧ _); refine ⟨by omega, by omega, ?_⟩) | fail) <;> conv => whnf))
   all_goals try contradiction
   exact weak_le ⟨.inr ⟨rfl, rfl⟩, trivial⟩ rfl
end Go.Proofs.YtnajpmepcffnaaaGreatDoor
end

section
/- wire: the writer, its bytes as a row that may be nil. -/
namespace Go.Proofs.YtnajpmepcffnaaaGreatDoor
open Go.Ve

def wN : Hp := [.box 89 [.nils]]
def wR (bs : Bs) : Hp := [.box 89 [.own 1], .row 5 1 (bcl bs)]
def wQ (bs : Bs) : Hp := [.box 89 [.own 2], .dead, .row 5 1 (bcl bs)]
set_option maxHeartbeats 4000000 in
theorem wNumR (bs : Bs) (hbs : bs.length ≤ 1000000000) (n : Nat) (k : Int) : DCall P 30 [.ptr 0 0, .int .u64 n, .int .i64 k] (wR bs) (.ptr 0 0) (wQ (bs ++ numB n (szN k))) := by
 have q1 := wSize_ok k
 have hk := szN_pos k
 have hlen := numB_len n (szN k)
 have htk := fun t (h : t < szN k) => numB_take (n := n) h
 have hall : (numB n (szN k)).take (szN k) = numB n (szN k) := List.take_of_length_le (by omega)
 generalize szN k = K at *
 have htl : ∀ t, t ≤ K → ((numB n K).take t).length = t := fun t ht => by rw [List.length_take, hlen]; omega
 refine DCall.of_awp tok mixed fn30 (Nat.le_of_ble_eq_true rfl) ?_
 (conv => whnf); (repeat' ((first | (with_reducible first | refine Box.mk ?_ | refine And.intro (fun _ => ?_) (fun _ => ?_) | fail) | ((with_reducible show ACall _ _ _ _ _); refine ACall.of_pure (by assumption) (by rfl) ?_) | fail) <;> conv => whnf))
 all_goals try contradiction
 refine aloop (fun x : Nat × Bs => x.1 ≤ K ∧ x.2 = (numB n K).take x.1) (fun x => ⟨envL [(0, .ptr 0 0), (1, .int .u64 n), (7, .int .i64 ((K : Int) - 1 - (x.1 : Int)))], wQ (bs ++ x.2)⟩) (fun x => K - x.1) (0, []) ⟨Nat.zero_le _, rfl⟩
  (weak_ren_to [(0, true), (1, false), (1, true)] rfl rfl (by show [_, _, Ob.row _ _ (bcl bs)] = [_, _, Ob.row _ _ (bcl (bs ++ []))]; rw [List.append_nil]; rfl) ⟨rfl, rfl, congrArg (AV.int .i64) (by show IntKind.i64.wrap _ = _; rw [wrap_i64 (by omega) (by omega)]; show (K : Int) - 1 = (K : Int) - 1 - ((0 : Nat) : Int); omega), trivial⟩) ?_
 rintro ⟨t, l⟩ ⟨ht, hl⟩
 have ht : t ≤ K := ht
 have hl : l = (numB n K).take t := hl
 have hll : l.length = t := by rw [hl]; exact htl t ht
 have hbl := bcl_len (bs ++ l)
 rw [List.length_append] at hbl
 have hi8 : t < K → IntKind.i64.wrap (8 * ((K : Int) - 1 - (t : Int))) = ((8 * (K - 1 - t) : Nat) : Int) := fun h => by rw [wrap_i64 (by omega) (by omega)]; omega
 have hby := fun h : t < K => byte_at (n := n) (i := K - 1 - t) (by omega)
 have hstep := fun h : t < K => htk t h
 rw [← hl] at hstep
 have hi1 : t < K → IntKind.i64.wrap ((K : Int) - 1 - (t : Int) - 1) = (K : Int) - 1 - ((t + 1 : Nat) : Int) := fun h => by rw [wrap_i64 (by omega) (by omega)]; omega
 (conv => whnf); (repeat' ((with_reducible first | refine Box.mk ?_ | refine And.intro (fun _ => ?_) (fun _ => ?_) | fail) <;> conv => whnf))
 ·rename_i h0
  have hlt : t < K := by have h0 : 0 ≤ (K : Int) - 1 - (t : Int) := h0; omega
  have hs2 := hstep hlt
  have hb2 := hby hlt
  refine ⟨[(10, [4])], by kernel_rfl, ?_⟩
  (conv => whnf); repeat' ((with_reducible refine Box.mk ?_) <;> conv => whnf)
  rw [hi8 hlt]
  refine ⟨by omega, ?_⟩
  (conv => whnf); repeat' ((with_reducible refine Box.mk ?_) <;> conv => whnf)
  (refine And.intro ?_ ?_); (focus ((conv => whnf); (repeat' first | exact trivial | ((refine And.intro ?_ ?_); (focus ((conv => whnf); (first | exact ⟨rfl, rfl⟩ | exact ⟨by decide, by decide, rfl, rfl⟩ | exact ⟨by omega, by omega, rfl, rfl⟩ | exact ⟨by (simp only [List.length_drop, List.length_take]; omega), rfl, rfl⟩ | exact ⟨_, rfl, rfl, rfl⟩ | exact ⟨by omega, _, by assumption, rfl, rfl, rfl⟩ | ((refine ACall.of_pure (by assumption) (by rfl) ?_); (refine And.intro ?_ ?_ <;> rfl))))); (conv => whnf)))))
  (conv => whnf); repeat' ((with_reducible refine Box.mk ?_) <;> conv => whnf)
  rw [hb2]
  refine ⟨bcl_cells [_], by rw [hbl]; show (_ + 1) * 1 ≤ _; omega, by rw [hbl]; show _ + 1 ≤ _; omega, ?_⟩
  (conv => whnf); repeat' ((with_reducible refine Box.mk ?_) <;> conv => whnf)
  refine ⟨(t + 1, l ++ [UInt8.ofNat (n / 256 ^ (K - 1 - t))]), ⟨hlt, hs2.symm⟩, by show K - (t + 1) < K - t; omega, weak_ren_to [(0, true), (1, false), (4, true)] rfl rfl ?_ ⟨rfl, rfl, congrArg (AV.int .i64) (hi1 hlt), trivial⟩⟩
  show [_, _, Ob.row _ _ (bcl (bs ++ l) ++ [byteCell _])] = [_, _, Ob.row _ _ (bcl (bs ++ (l ++ [_])))]
  rw [← List.append_assoc, bcl_app (bs ++ l)]; rfl
 ·rename_i h0
  have h0 : ¬ 0 ≤ (K : Int) - 1 - (t : Int) := h0
  have : t = K := by omega
  subst this
  rw [← hall, ← hl]
  exact weak_to ⟨rfl, trivial⟩ rfl
set_option maxHeartbeats 4000000 in
theorem wNumN (n : Nat) (k : Int) : DCall P 30 [.ptr 0 0, .int .u64 n, .int .i64 k] wN (.ptr 0 0) (wR (numB n (szN k))) := by
 have h := wNum0 n k
 have hk := szN_pos k
 obtain ⟨a, b, e⟩ : ∃ a b, numB n (szN k) = a :: b := by
  cases hK : szN k with
  | zero => omega
  | succ j => exact ⟨_, _, rfl⟩
 rw [e] at h ⊢
 exact h
theorem wRawR (bs : Bs) (hbs : bs.length ≤ 1000000000) (l : Bs) (hl : l.length ≤ 1000000000) : DCall P 31 [.ptr 0 0, .sl (bcl l)] (wR bs) (.ptr 0 0) (wQ (bs ++ l)) := by
 have hbl := bcl_len l
 have hbl2 := bcl_len bs
 refine DCall.of_awp tok mixed fn31 (Nat.le_of_ble_eq_true rfl) ?_
 (conv => whnf); (repeat' ((with_reducible first | refine Box.mk ?_ | refine And.intro (fun _ => ?_) (fun _ => ?_) | fail) <;> conv => whnf))
 all_goals try contradiction
 refine ⟨bcl_cells l, by rw [hbl2, hbl]; show _ * 1 ≤ _; omega, by rw [hbl2, hbl]; omega, ?_⟩
 (conv => whnf); repeat' ((with_reducible refine Box.mk ?_) <;> conv => whnf)
 exact weak_to ⟨rfl, trivial⟩ (by show [_, _, Ob.row _ _ (bcl bs ++ bcl l)] = [_, _, Ob.row _ _ (bcl (bs ++ l))]; rw [bcl_app])
theorem wBytesR (bs : Bs) (hbs : bs.length ≤ 1000000000) : DCall P 32 [.ptr 0 0] (wR bs) (.sl (bcl bs)) (wR bs) := by
 have q2 := clone_own bs hbs
 refine DCall.of_awp tok mixed fn32 (Nat.le_of_ble_eq_true rfl) ?_
 (conv => whnf); (repeat' ((with_reducible first | refine Box.mk ?_ | refine And.intro (fun _ => ?_) (fun _ => ?_) | fail) <;> conv => whnf))
 all_goals try contradiction
 refine aW [1] q2 rfl rfl rfl ?_
 (conv => whnf); repeat' ((with_reducible refine Box.mk ?_) <;> conv => whnf)
 exact weak_to ⟨rfl, trivial⟩ rfl
theorem wWideN (hi lo : Nat) : DCall P 108 [.ptr 0 0, .agg [.int .u64 hi, .int .u64 lo]] wN (.ptr 0 0) (wR (numB hi 8 ++ numB lo 8)) := by
 have h := wWide_ok [] (by decide) hi lo
 exact h
end Go.Proofs.YtnajpmepcffnaaaGreatDoor
end

section
/- wire: numbers and texts read. -/
namespace Go.Proofs.YtnajpmepcffnaaaGreatDoor
open Go.Ve

def valA : Nat → Bs → Nat
 | n, [] => n
 | n, b :: r => valA (n * 256 + b.toNat) r
def valB (l : Bs) : Nat := valA 0 l
theorem valA_snoc (b : UInt8) : ∀ (l : Bs) (n : Nat), valA n (l ++ [b]) = valA n l * 256 + b.toNat
 | [], _ => rfl
 | _ :: r, _ => valA_snoc b r _
theorem valB_snoc (l : Bs) (b : UInt8) : valB (l ++ [b]) = valB l * 256 + b.toNat := valA_snoc b l 0
theorem valA_lt : ∀ (l : Bs) (n : Nat), valA n l < (n + 1) * 256 ^ l.length
 | [], n => by simp [valA]
 | b :: r, n => by
  have h := valA_lt r (n * 256 + b.toNat)
  have hb := b.toNat_lt
  have h2 : (n * 256 + b.toNat + 1) * 256 ^ r.length ≤ ((n + 1) * 256) * 256 ^ r.length := Nat.mul_le_mul_right _ (by omega)
  rw [List.length_cons, Nat.pow_succ, Nat.mul_comm (256 ^ r.length) 256, ← Nat.mul_assoc]
  exact Nat.lt_of_lt_of_le h h2
theorem valB_lt (l : Bs) : valB l < 256 ^ l.length := by
 have := valA_lt l 0
 rwa [Nat.zero_add, Nat.one_mul] at this
theorem valB_lt8 {l : Bs} (h : l.length ≤ 8) : valB l < H64 := Nat.lt_of_lt_of_le (valB_lt l) (by
 have := Nat.pow_le_pow_right (n := 256) (by decide) h
 exact this)
theorem valB_take {l : Bs} {i : Nat} {b : UInt8} (h : l[i]? = some b) : valB (l.take (i + 1)) = valB (l.take i) * 256 + b.toNat := by
 rw [List.take_add_one, h]; exact valB_snoc _ _
theorem shl_or {n : Nat} (b : UInt8) (h : n * 256 + b.toNat < H64) : bits .or .u64 (IntKind.u64.wrap ((n : Int) * 2 ^ 8)) (b.toNat : Int) = ((n * 256 + b.toNat : Nat) : Int) := by
 have hb := b.toNat_lt
 have h1 : n * 256 < H64 := Nat.lt_of_le_of_lt (Nat.le_add_right _ _) h
 have h2 : b.toNat < H64 := Nat.lt_of_le_of_lt (Nat.le_add_left _ _) h
 have e1 : IntKind.u64.wrap ((n : Int) * 2 ^ 8) = ((n * 256 : Nat) : Int) := by
  have : (n : Int) * 2 ^ 8 = ((n * 256 : Nat) : Int) := by rw [Int.natCast_mul]; rfl
  rw [this, wrap_nat_u64, Nat.mod_eq_of_lt h1]
 rw [e1, u64_or_nat _ _ h1 h2]
 have := Nat.two_pow_add_eq_or_of_lt (i := 8) (b := b.toNat) hb n
 rw [Nat.mul_comm n 256]
 exact congrArg Nat.cast this.symm
theorem raw_len (n : Int) (bs : Bs) (e : Int) : (rawF n bs e).1.length ≤ n.toNat := by
 unfold rawF
 split
 ·exact Nat.zero_le _
 ·split
  ·exact Nat.zero_le _
  ·show (bs.take _).length ≤ _
   rw [List.length_take]; omega
theorem raw_rest (n : Int) (bs : Bs) (e : Int) : (rawF n bs e).2.1.length ≤ bs.length := by
 unfold rawF
 split
 ·exact Nat.le_refl _
 ·split
  ·exact Nat.le_refl _
  ·show (bs.drop _).length ≤ _
   rw [List.length_drop]; omega
theorem bcl_get {l : Bs} {i : Nat} {b : UInt8} (h : l[i]? = some b) : (bcl l)[(i : Int).toNat]? = some (byteCell b) := by
 rw [Int.toNat_natCast, bcl, List.getElem?_map, h]; rfl
theorem wrap64_u8 (b : UInt8) : IntKind.u64.wrap (b.toNat : Int) = (b.toNat : Int) := by
 have hb := b.toNat_lt
 exact wrap_u64 (by omega) (by omega)
set_option maxHeartbeats 4000000 in
theorem rNum_ok (bs : Bs) (e k : Int) (hbs : bs.length ≤ 1000000000) : DCall P 41 [.ptr 0 0, .int .i64 k] (rH bs e) (.int .u64 (valB (rawF (szN k : Nat) bs e).1 : Nat)) (rH (rawF (szN k : Nat) bs e).2.1 (rawF (szN k : Nat) bs e).2.2) := by
 have q1 := wSize_ok k
 have hk := szN_pos k
 have q2 := rRaw_ok bs e (szN k : Nat) hbs
 have hl := raw_len (szN k : Nat) bs e
 generalize (rawF (szN k : Nat) bs e).2.1 = bs' at *
 generalize (rawF (szN k : Nat) bs e).2.2 = e' at *
 generalize (rawF (szN k : Nat) bs e).1 = x at *
 have hbl := bcl_len x
 refine DCall.of_awp tok mixed fn41 (Nat.le_of_ble_eq_true rfl) ?_
 (conv => whnf); (repeat' ((first | (with_reducible refine Box.mk ?_) | ((with_reducible show ACall _ _ _ _ _); refine ACall.of_pure (by assumption) (by rfl) ?_) | fail) <;> conv => whnf))
 refine aW [0] q2 rfl rfl rfl ?_
 (conv => whnf); repeat' ((with_reducible refine Box.mk ?_) <;> conv => whnf)
 refine aloop (fun i : Nat => i ≤ x.length) (fun i => ⟨envL [(5, .int .u64 (valB (x.take i) : Nat)), (11, .sl (bcl x)), (12, .int .i64 (bcl x).length), (13, .int .i64 i)], rH bs' e'⟩) (fun i => x.length - i) 0 (Nat.zero_le _) (weak_to ⟨rfl, rfl, rfl, rfl, trivial⟩ rfl) ?_
 intro i hi
 (conv => whnf); (repeat' ((with_reducible first | refine Box.mk ?_ | refine And.intro (fun _ => ?_) (fun _ => ?_) | fail) <;> conv => whnf))
 ·rename_i h
  have hil : i < x.length := by omega
  have hg := List.getElem?_eq_getElem hil
  have hv := valB_take hg
  have hlt : valB (x.take i) * 256 + (x[i]).toNat < H64 := by rw [← hv]; exact valB_lt8 (by rw [List.length_take]; omega)
  have hc := bcl_get hg
  generalize x[i] = c at *
  refine ⟨by omega, _, hc, rfl, ?_⟩
  (conv => whnf); repeat' ((with_reducible refine Box.mk ?_) <;> conv => whnf)
  refine ⟨by decide, ?_⟩
  (conv => whnf); repeat' ((with_reducible refine Box.mk ?_) <;> conv => whnf)
  refine ⟨i + 1, hil, by omega, weak_to ⟨congrArg (AV.int .u64) ?_, rfl, rfl, wrap_nat (m := 1) (by omega), trivial⟩ rfl⟩
  rw [hv, wrap64_u8]
  exact shl_or c hlt
 ·rename_i h
  exact weak_to ⟨congrArg (AV.int .u64) (by show ((valB (x.take i) : Nat) : Int) = _; rw [List.take_of_length_le (by omega)]), trivial⟩ rfl
end Go.Proofs.YtnajpmepcffnaaaGreatDoor
end

section
/- wire, the document's answer. -/
namespace Go.Proofs.YtnajpmepcffnaaaGreatDoor
open Go.Ve

theorem xSize_ok (k : Int) : PCall P 65 [.int .i64 k] (.int .i64 (szN k : Nat)) := by
 refine PCall.of_awp tok mixed fn65 (Nat.le_of_ble_eq_true rfl) ?_
 (conv => whnf); (repeat' ((with_reducible first | refine Box.mk ?_ | refine And.intro (fun _ => ?_) (fun _ => ?_) | fail) <;> conv => whnf))
 all_goals exact res1_eq (congrArg (AV.int .i64) (by unfold szN; omega))
end Go.Proofs.YtnajpmepcffnaaaGreatDoor
end

section
/- wire, the document's answer: the reader. -/
namespace Go.Proofs.YtnajpmepcffnaaaGreatDoor
open Go.Ve

def xH (pre bs : Bs) (e : Int) : Hp := [.box 115 [.sl (bcl (pre ++ bs)), .int .i64 pre.length, .int .i64 e]]
theorem xMust_ok (pre bs : Bs) (e : Int) (b : Bool) : DCall P 51 [.ptr 0 0, .bool b] (xH pre bs e) (mkRes []) (xH pre bs (mustE e b)) := by
 cases b
 all_goals (
  refine DCall.of_awp tok mixed fn51 (Nat.le_of_ble_eq_true rfl) ?_
  (conv => whnf); (repeat' ((with_reducible first | refine Box.mk ?_ | refine And.intro (fun _ => ?_) (fun _ => ?_) | fail) <;> conv => whnf)))
 ·rename_i h
  exact weak_to ⟨rfl, trivial⟩ (by rw [mustE, if_pos ⟨h, rfl⟩]; rfl)
 ·rename_i h
  exact weak_to ⟨rfl, trivial⟩ (by rw [mustE, if_neg (fun hc => h hc.1)]; rfl)
 ·exact weak_to ⟨rfl, trivial⟩ (by rw [mustE, if_neg (fun hc => by cases hc.2)]; rfl)
 ·exact weak_to ⟨rfl, trivial⟩ (by rw [mustE, if_neg (fun hc => by cases hc.2)]; rfl)
theorem xLeft_ok (pre bs : Bs) (e : Int) (hl : (pre ++ bs).length ≤ 1000000000) : DCall P 49 [.ptr 0 0] (xH pre bs e) (.int .i64 (restN bs e)) (xH pre bs e) := by
 have hbl := bcl_len (pre ++ bs)
 rw [List.length_append] at hbl hl
 refine DCall.of_awp tok mixed fn49 (Nat.le_of_ble_eq_true rfl) ?_
 (conv => whnf); (repeat' ((first | (with_reducible first | refine Box.mk ?_ | refine And.intro (fun _ => ?_) (fun _ => ?_) | fail) | ((with_reducible show ∃ L, drawR L _ = true ∧ _); refine ⟨[], by kernel_rfl, ?_⟩) | fail) <;> conv => whnf))
 ·rename_i h
  exact weak_to ⟨congrArg (AV.int .i64) (by rw [restN, if_pos h, hbl, wrap_i64 (by omega) (by omega)]; omega), trivial⟩ rfl
 ·rename_i h
  exact weak_to ⟨congrArg (AV.int .i64) (by rw [restN, if_neg h]), trivial⟩ rfl
theorem raw_app (n : Int) (bs : Bs) (e : Int) : (rawF n bs e).1 ++ (rawF n bs e).2.1 = bs := by
 unfold rawF
 split
 ·rfl
 ·split
  ·rfl
  ·exact List.take_append_drop _ _
set_option maxHeartbeats 4000000 in
theorem xRaw_ok (pre bs : Bs) (e n : Int) (hl : (pre ++ bs).length ≤ 1000000000) : DCall P 76 [.ptr 0 0, .int .i64 n] (xH pre bs e) (.sl (bcl (rawF n bs e).1)) (xH (pre ++ (rawF n bs e).1) (rawF n bs e).2.1 (rawF n bs e).2.2) := by
 have q1 := fun b => xMust_ok pre bs e b
 have hbl := bcl_len (pre ++ bs)
 rw [List.length_append] at hbl hl
 have hw : IntKind.i64.wrap (((bcl (pre ++ bs)).length : Int) - (pre.length : Int)) = (bs.length : Int) := by rw [hbl, wrap_i64 (by omega) (by omega)]; omega
 by_cases h0 : mustE e (decide (0 ≤ n)) = 0
 ·have hn : 0 ≤ n := by
   by_cases hc : 0 ≤ n
   ·exact hc
   ·rw [decide_eq_false hc] at h0
    unfold mustE at h0
    split at h0
    ·cases h0
    ·rename_i h1; exact absurd ⟨h0, rfl⟩ h1
  rw [decide_eq_true hn] at h0
  have q1' := q1 true
  rw [h0] at q1'
  by_cases hlt : (bs.length : Int) < n
  ·have e1 : rawF n bs e = ([], bs, 8) := by unfold rawF; rw [decide_eq_true hn, if_neg (fun h => h h0), if_pos hlt]
   rw [e1]
   refine DCall.of_awp tok mixed fn76 (Nat.le_of_ble_eq_true rfl) ?_
   (conv => whnf); (repeat' ((with_reducible first | refine Box.mk ?_ | refine And.intro (fun _ => ?_) (fun _ => ?_) | fail) <;> conv => whnf))
   ·refine aW [0] q1' rfl rfl rfl ?_
    (conv => whnf); (repeat' ((first | (with_reducible first | refine Box.mk ?_ | refine And.intro (fun _ => ?_) (fun _ => ?_) | fail) | ((with_reducible show ∃ L, drawR L _ = true ∧ _); refine ⟨[], by kernel_rfl, ?_⟩) | ((with_reducible show _ ∧ _ ∧ _); refine ⟨by omega, by omega, ?_⟩) | fail) <;> conv => whnf))
    all_goals try contradiction
    all_goals try (exfalso; omega)
    exact weak_le ⟨.inr ⟨rfl, rfl⟩, trivial⟩ (by rw [List.append_nil]; rfl)
   ·contradiction
  ·obtain ⟨k, rfl⟩ : ∃ k : Nat, n = k := ⟨n.toNat, by omega⟩
   have e1 : rawF k bs e = (bs.take k, bs.drop k, 0) := by unfold rawF; rw [decide_eq_true hn, if_neg (fun h => h h0), if_neg hlt]; rfl
   have hk : k ≤ bs.length := by omega
   rw [e1]
   refine DCall.of_awp tok mixed fn76 (Nat.le_of_ble_eq_true rfl) ?_
   (conv => whnf); (repeat' ((with_reducible first | refine Box.mk ?_ | refine And.intro (fun _ => ?_) (fun _ => ?_) | fail) <;> conv => whnf))
   ·refine aW [0] q1' rfl rfl rfl ?_
    have ha : IntKind.i64.wrap ((pre.length : Int) + (k : Int)) = ((pre.length + k : Nat) : Int) := by rw [wrap_i64 (by omega) (by omega)]; omega
    have hb : IntKind.i64.wrap (((pre.length + k : Nat) : Int) - (k : Int)) = ((pre.length : Nat) : Int) := by rw [wrap_i64 (by omega) (by omega)]; omega
    (conv => whnf); repeat' ((with_reducible refine Box.mk ?_) <;> conv => whnf)
    refine ⟨[], by kernel_rfl, ?_⟩
    (conv => whnf); (repeat' ((with_reducible first | refine Box.mk ?_ | refine And.intro (fun _ => ?_) (fun _ => ?_) | fail) <;> conv => whnf))
    all_goals try contradiction
    all_goals try (exfalso; omega)
    refine ⟨[], by kernel_rfl, ?_⟩
    (conv => whnf); (repeat' ((first | (with_reducible refine Box.mk ?_) | ((with_reducible show _ ∧ _ ∧ _); refine ⟨by omega, by omega, ?_⟩) | fail) <;> conv => whnf))
    all_goals try contradiction
    have hs : List.drop ((pre.length : Nat) : Int).toNat (List.take ((pre.length + k : Nat) : Int).toNat (bcl (pre ++ bs))) = bcl (bs.take k) := by
     rw [Int.toNat_natCast, Int.toNat_natCast, bcl_app, ← bcl_len pre, List.take_length_add_append, List.drop_left]
     exact (List.map_take ..).symm
    rw [ha, hb]
    refine ⟨by omega, by omega, bcl_all _, ?_⟩
    rw [hs]
    (conv => whnf); repeat' ((with_reducible refine Box.mk ?_) <;> conv => whnf)
    refine weak_to ⟨rfl, trivial⟩ ?_
    have e2 : (pre ++ bs.take k) ++ bs.drop k = pre ++ bs := by rw [List.append_assoc, List.take_append_drop]
    have e3 : (pre ++ bs.take k).length = pre.length + k := by rw [List.length_append, List.length_take]; omega
    show [Ob.box _ [_, AV.int _ _, _]] = [Ob.box _ [_, AV.int _ _, _]]
    rw [e2, e3]
   ·contradiction
 ·have e1 : rawF n bs e = ([], bs, mustE e (decide (0 ≤ n))) := by unfold rawF; rw [if_pos h0]
  rw [e1]
  generalize hm : mustE e (decide (0 ≤ n)) = m at *
  refine DCall.of_awp tok mixed fn76 (Nat.le_of_ble_eq_true rfl) ?_
  (conv => whnf); (repeat' ((with_reducible first | refine Box.mk ?_ | refine And.intro (fun _ => ?_) (fun _ => ?_) | fail) <;> conv => whnf))
  ·rename_i hn
   have q1' := q1 true
   rw [decide_eq_true hn] at hm
   rw [hm] at q1'
   refine aW [0] q1' rfl rfl rfl ?_
   (conv => whnf); (repeat' ((first | (with_reducible first | refine Box.mk ?_ | refine And.intro (fun _ => ?_) (fun _ => ?_) | fail) | ((with_reducible show ∃ L, drawR L _ = true ∧ _); refine ⟨[], by kernel_rfl, ?_⟩) | ((with_reducible show _ ∧ _ ∧ _); refine ⟨by omega, by omega, ?_⟩) | fail) <;> conv => whnf))
   all_goals try contradiction
   exact weak_le ⟨.inr ⟨rfl, rfl⟩, trivial⟩ (by rw [List.append_nil]; rfl)
  ·rename_i hn
   have q1' := q1 false
   rw [decide_eq_false hn] at hm
   rw [hm] at q1'
   refine aW [0] q1' rfl rfl rfl ?_
   (conv => whnf); (repeat' ((first | (with_reducible first | refine Box.mk ?_ | refine And.intro (fun _ => ?_) (fun _ => ?_) | fail) | ((with_reducible show ∃ L, drawR L _ = true ∧ _); refine ⟨[], by kernel_rfl, ?_⟩) | ((with_reducible show _ ∧ _ ∧ _); refine ⟨by omega, by omega, ?_⟩) | fail) <;> conv => whnf))
   all_goals try contradiction
   exact weak_le ⟨.inr ⟨rfl, rfl⟩, trivial⟩ (by rw [List.append_nil]; rfl)
end Go.Proofs.YtnajpmepcffnaaaGreatDoor
end

section
/- wire, the document's answer: numbers and texts read. -/
namespace Go.Proofs.YtnajpmepcffnaaaGreatDoor
open Go.Ve

theorem mul_add {n : Nat} (b : UInt8) (h : n * 256 + b.toNat < H64) : IntKind.u64.wrap (IntKind.u64.wrap (256 * (n : Int)) + (b.toNat : Int)) = ((n * 256 + b.toNat : Nat) : Int) := by
 have h1 : n * 256 < H64 := Nat.lt_of_le_of_lt (Nat.le_add_right _ _) h
 have e1 : IntKind.u64.wrap (256 * (n : Int)) = ((n * 256 : Nat) : Int) := by
  have : 256 * (n : Int) = ((n * 256 : Nat) : Int) := by rw [Int.natCast_mul, Int.mul_comm]; rfl
  rw [this, wrap_nat_u64, Nat.mod_eq_of_lt h1]
 rw [e1, ← Int.natCast_add, wrap_nat_u64, Nat.mod_eq_of_lt h]
set_option maxHeartbeats 4000000 in
theorem xrNum_ok (pre bs : Bs) (e k : Int) (hl : (pre ++ bs).length ≤ 1000000000) : DCall P 48 [.ptr 0 0, .int .i64 k] (xH pre bs e) (.int .u64 (valB (rawF (szN k : Nat) bs e).1 : Nat)) (xH (pre ++ (rawF (szN k : Nat) bs e).1) (rawF (szN k : Nat) bs e).2.1 (rawF (szN k : Nat) bs e).2.2) := by
 have q1 := xSize_ok k
 have hk := szN_pos k
 have q2 := xRaw_ok pre bs e (szN k : Nat) hl
 have hx := raw_len (szN k : Nat) bs e
 generalize (rawF (szN k : Nat) bs e).2.1 = bs' at *
 generalize (rawF (szN k : Nat) bs e).2.2 = e' at *
 generalize (rawF (szN k : Nat) bs e).1 = x at *
 have hbl := bcl_len x
 refine DCall.of_awp tok mixed fn48 (Nat.le_of_ble_eq_true rfl) ?_
 (conv => whnf); (repeat' ((first | (with_reducible refine Box.mk ?_) | ((with_reducible show ACall _ _ _ _ _); refine ACall.of_pure (by assumption) (by rfl) ?_) | fail) <;> conv => whnf))
 refine aW [0] q2 rfl rfl rfl ?_
 (conv => whnf); repeat' ((with_reducible refine Box.mk ?_) <;> conv => whnf)
 refine aloop (fun i : Nat => i ≤ x.length) (fun i => ⟨envL [(5, .sl (bcl x)), (6, .int .u64 (valB (x.take i) : Nat)), (7, .int .i64 i)], xH (pre ++ x) bs' e'⟩) (fun i => x.length - i) 0 (Nat.zero_le _) (weak_to ⟨rfl, rfl, rfl, trivial⟩ rfl) ?_
 intro i hi
 (conv => whnf); (repeat' ((with_reducible first | refine Box.mk ?_ | refine And.intro (fun _ => ?_) (fun _ => ?_) | fail) <;> conv => whnf))
 ·rename_i h
  have hil : i < x.length := by omega
  have hg := List.getElem?_eq_getElem hil
  have hv := valB_take hg
  have hlt : valB (x.take i) * 256 + (x[i]).toNat < H64 := by rw [← hv]; exact valB_lt8 (by rw [List.length_take]; omega)
  have hc := bcl_get hg
  have hma := mul_add x[i] hlt
  have hw := wrap64_u8 x[i]
  generalize x[i] = c at *
  refine ⟨by omega, _, hc, rfl, ?_⟩
  (conv => whnf); repeat' ((with_reducible refine Box.mk ?_) <;> conv => whnf)
  refine ⟨i + 1, hil, by omega, weak_to ⟨rfl, congrArg (AV.int .u64) ?_, wrap_nat (m := 1) (by omega), trivial⟩ rfl⟩
  rw [hv, hw]
  exact hma
 ·rename_i h
  exact weak_to ⟨congrArg (AV.int .u64) (by show ((valB (x.take i) : Nat) : Int) = _; rw [List.take_of_length_le (by omega)]), trivial⟩ rfl
theorem valA_mul : ∀ (l : Bs) (n : Nat), valA n l = n * 256 ^ l.length + valA 0 l
 | [], n => by simp [valA]
 | b :: r, n => by
  rw [valA, valA_mul r (n * 256 + b.toNat), valA, valA_mul r (0 * 256 + b.toNat), List.length_cons, Nat.pow_succ, Nat.zero_mul, Nat.zero_add, Nat.add_mul, Nat.add_assoc, Nat.mul_comm (256 ^ r.length) 256, Nat.mul_assoc]
theorem valA_app : ∀ (a b : Bs) (n : Nat), valA n (a ++ b) = valA (valA n a) b
 | [], _, _ => rfl
 | _ :: r, b, _ => valA_app r b _
theorem valB_app (a b : Bs) : valB (a ++ b) = valB a * 256 ^ b.length + valB b := by
 unfold valB
 rw [valA_app, valA_mul]
end Go.Proofs.YtnajpmepcffnaaaGreatDoor
end

section
/- field: which fields may be, and what they say. -/
namespace Go.Proofs.YtnajpmepcffnaaaGreatDoor
open Go.Ve

structure Sc where
 id : Int
 ent : Int
 len : Int
def scc (s : Sc) : List AV := [.int .i64 s.id, .int .u32 s.ent, .int .i64 s.len]
def sv (s : Sc) : AV := .agg (scc s)
def RightS (s : Sc) : Prop := 0 ≤ s.id ∧ s.id ≤ 32767 ∧ 1 ≤ s.len ∧ s.len ≤ 65535
instance (s : Sc) : Decidable (RightS s) := by unfold RightS; infer_instance
def rightS (s : Sc) : Bool := decide (RightS s)
theorem fRight_ok (s : Sc) : PCall P 90 [sv s] (.bool (rightS s)) := by
 unfold rightS RightS
 refine PCall.of_awp tok mixed fn90 (Nat.le_of_ble_eq_true rfl) ?_
 (conv => whnf); (repeat' ((with_reducible first | refine Box.mk ?_ | refine And.intro (fun _ => ?_) (fun _ => ?_) | fail) <;> conv => whnf))
 all_goals first
  | exact res1_eq (bool_true (decide_eq_true (by omega)))
  | exact res1_eq (bool_false (decide_eq_false (by omega)))
theorem xfRight_ok (s : Sc) : PCall P 81 [sv s] (.bool (rightS s)) := by
 unfold rightS RightS
 refine PCall.of_awp tok mixed fn81 (Nat.le_of_ble_eq_true rfl) ?_
 (conv => whnf); (repeat' ((with_reducible first | refine Box.mk ?_ | refine And.intro (fun _ => ?_) (fun _ => ?_) | fail) <;> conv => whnf))
 all_goals first
  | exact res1_eq (bool_true (decide_eq_true (by omega)))
  | exact res1_eq (bool_false (decide_eq_false (by omega)))
def inL (n a b r : Int) : Int := if n < a ∨ b < n then -1 else r
def usualS (id : Int) : Int × Int × Int :=
 if id = 1 then (1, 1, 8) else if id = 2 then (2, 1, 8) else if id = 8 then (3, 4, 4) else if id = 12 then (4, 4, 4) else if id = 27 then (5, 16, 16) else if id = 28 then (6, 16, 16) else (0, 1, 65535)
theorem fUsual_ok (id : Int) : PCall P 106 [.int .i64 id] (.tup [.int .i64 (usualS id).1, .int .i64 (usualS id).2.1, .int .i64 (usualS id).2.2]) := by
 unfold usualS
 refine PCall.of_awp tok mixed fn106 (Nat.le_of_ble_eq_true rfl) ?_
 (conv => whnf); (repeat' ((with_reducible first | refine Box.mk ?_ | refine And.intro (fun _ => ?_) (fun _ => ?_) | fail) <;> conv => whnf))
 all_goals (simp only [*, if_true, if_false]; first | rfl | skip)
def saysS (s : Sc) : Int :=
 if ¬ RightS s then -1 else
 if s.ent = 0 then inL s.len (usualS s.id).2.1 (usualS s.id).2.2 (usualS s.id).1 else
 if s.ent = 32473 ∧ s.id = 1 then 7 else if s.ent = 32473 ∧ s.id = 2 then 8 else 0
theorem right_cases (s : Sc) : (RightS s ∧ rightS s = true) ∨ (¬ RightS s ∧ rightS s = false) := by
 by_cases h : RightS s
 ·exact .inl ⟨h, decide_eq_true h⟩
 ·exact .inr ⟨h, decide_eq_false h⟩
theorem fSays_ok (s : Sc) : PCall P 88 [sv s] (.int .i64 (saysS s)) := by
 have q1 := fRight_ok s
 have q2 := fUsual_ok s.id
 unfold saysS inL
 generalize (usualS s.id).1 = u1 at *
 generalize (usualS s.id).2.1 = u2 at *
 generalize (usualS s.id).2.2 = u3 at *
 rcases right_cases s with ⟨hR, hb⟩ | ⟨hR, hb⟩
 all_goals (
  rw [hb] at q1
  unfold RightS at hR ⊢
  refine PCall.of_awp tok mixed fn88 (Nat.le_of_ble_eq_true rfl) ?_
  (conv => whnf); (repeat' ((first | (with_reducible first | refine Box.mk ?_ | refine And.intro (fun _ => ?_) (fun _ => ?_) | fail) | ((with_reducible show ACall _ _ _ _ _); refine ACall.of_pure (by assumption) (by rfl) ?_) | fail) <;> conv => whnf))
  all_goals refine res1_eq (congrArg (AV.int .i64) ?_)
  all_goals ((repeat' split) <;> omega))
def idsS : List Int := [1, 2, 8, 12, 27, 28, 1, 2]
def entsS : List Int := [0, 0, 0, 0, 0, 0, 32473, 32473]
def leastS : List Int := [1, 1, 4, 4, 16, 16, 1, 1]
def mostS : List Int := [8, 8, 4, 4, 16, 16, 65535, 65535]
def rowI (l : List Int) : Ob := .row 3 1 (l.map fun x => [.int .i64 x])
def rowE (l : List Int) : Ob := .row 27 1 (l.map fun x => [.int .u32 x])
def noneS (s : Sc) (i : Nat) : Prop := ∀ j, j < i → ¬ (s.id = idsS.getD j 0 ∧ s.ent = entsS.getD j 0)
set_option maxHeartbeats 4000000 in
theorem xfSays_ok (s : Sc) : PCall P 82 [sv s] (.int .i64 (saysS s)) := by
 have q1 := xfRight_ok s
 rcases right_cases s with ⟨hR, hb⟩ | ⟨hR, hb⟩
 ·rw [hb] at q1
  refine PCall.of_awp tok mixed fn82 (Nat.le_of_ble_eq_true rfl) ?_
  (conv => whnf); (repeat' ((first | (with_reducible refine Box.mk ?_) | ((with_reducible show ACall _ _ _ _ _); refine ACall.of_pure (by assumption) (by rfl) ?_) | fail) <;> conv => whnf))
  all_goals try contradiction
  refine aloop (fun i : Nat => i ≤ 8 ∧ noneS s i) (fun i => ⟨envL [(1, .ptr 0 0), (3, .own 1), (4, .own 2), (5, .own 3), (6, .own 4), (7, .int .i64 i)], [.box 82 (scc s), rowI idsS, rowE entsS, rowI leastS, rowI mostS]⟩) (fun i => 8 - i) 0 ⟨Nat.zero_le _, fun j hj => by omega⟩ (weak_to ⟨rfl, rfl, rfl, rfl, rfl, rfl, trivial⟩ rfl) ?_
  rintro i ⟨hi, hn⟩
  have hi : i ≤ 8 := hi
  have hn : noneS s i := hn
  have hstep : ¬ (s.id = idsS.getD i 0 ∧ s.ent = entsS.getD i 0) → noneS s (i + 1) := fun h j hj => by
   rcases Nat.lt_or_ge j i with h1 | h1
   ·exact hn j h1
   ·obtain rfl : j = i := by omega
    exact h
  have hcase : i = 0 ∨ i = 1 ∨ i = 2 ∨ i = 3 ∨ i = 4 ∨ i = 5 ∨ i = 6 ∨ i = 7 ∨ i = 8 := by omega
  rcases hcase with rfl | rfl | rfl | rfl | rfl | rfl | rfl | rfl | rfl
  all_goals (
   (conv => whnf); (repeat' ((first | (with_reducible first | refine Box.mk ?_ | refine And.intro (fun _ => ?_) (fun _ => ?_) | fail) | ((with_reducible show ∃ L, drawR L _ = true ∧ _); refine ⟨[], by kernel_rfl, ?_⟩) | ((with_reducible show _ ∧ _ ∧ _); refine ⟨by omega, by omega, ?_⟩) | ((with_reducible show _ ∧ _ ∧ _); refine ⟨by decide, Nat.le_of_ble_eq_true rfl, ?_⟩) | ((with_reducible show Exists _); refine ⟨_, rfl, ?_⟩) | fail) <;> conv => whnf))
   all_goals try (exfalso; omega)
   all_goals first
    | exact ⟨_, ⟨by decide, hstep (by simp [idsS, entsS]; omega)⟩, by decide, weak_to ⟨rfl, rfl, rfl, rfl, rfl, rfl, trivial⟩ rfl⟩
    | skip)
  all_goals refine res1_eq (congrArg (AV.int .i64) ?_)
  all_goals try rw [wrap_i64 (by decide) (by decide)]
  all_goals (
   try (
    have h0 := hn 0 (by decide); have h1 := hn 1 (by decide); have h2 := hn 2 (by decide); have h3 := hn 3 (by decide)
    have h4 := hn 4 (by decide); have h5 := hn 5 (by decide); have h6 := hn 6 (by decide); have h7 := hn 7 (by decide)
    simp [idsS, entsS] at h0 h1 h2 h3 h4 h5 h6 h7)
   unfold saysS inL usualS
   unfold RightS at hR ⊢
   (repeat' split) <;> first | omega | (dsimp only at *; first | done | omega))
 ·rw [hb] at q1
  refine PCall.of_awp tok mixed fn82 (Nat.le_of_ble_eq_true rfl) ?_
  (conv => whnf); (repeat' ((first | (with_reducible refine Box.mk ?_) | ((with_reducible show ACall _ _ _ _ _); refine ACall.of_pure (by assumption) (by rfl) ?_) | fail) <;> conv => whnf))
  all_goals try contradiction
  exact res1_eq (congrArg (AV.int .i64) (by unfold saysS; rw [if_pos hR]))
end Go.Proofs.YtnajpmepcffnaaaGreatDoor
end

section
/- field: a field's bytes, written. -/
namespace Go.Proofs.YtnajpmepcffnaaaGreatDoor
open Go.Ve

def EntOk (s : Sc) : Prop := 0 ≤ s.ent ∧ s.ent < 4294967296
def specB (s : Sc) : Bs :=
 if ¬ RightS s then [] else if s.ent = 0 then numB s.id.toNat 2 ++ numB s.len.toNat 2 else numB (s.id.toNat + 32768) 2 ++ numB s.len.toNat 2 ++ numB s.ent.toNat 4
theorem specB_len (s : Sc) : (specB s).length ≤ 8 := by
 unfold specB
 split
 ·exact Nat.zero_le _
 ·split
  ·rw [List.length_append, numB_len, numB_len]; omega
  ·rw [List.length_append, List.length_append, numB_len, numB_len, numB_len]; omega
theorem nat_of {n : Int} (h : 0 ≤ n) : ∃ k : Nat, n = k := ⟨n.toNat, by omega⟩
set_option maxHeartbeats 4000000 in
theorem fWriteR (cs : Bs) (hcs : cs.length ≤ 900000000) (s : Sc) (he : EntOk s) : DCall P 59 [.ptr 0 0, sv s] (wR cs) (mkRes []) (wQ (cs ++ specB s)) := by
 have q1 := fRight_ok s
 rcases right_cases s with ⟨hR, hb⟩ | ⟨hR, hb⟩
 ·rw [hb] at q1
  unfold specB
  rw [if_neg (fun h => h hR)]
  obtain ⟨sid, ent, len⟩ := s
  unfold RightS at hR
  unfold EntOk at he
  dsimp only at hR he ⊢
  obtain ⟨i, rfl⟩ := nat_of hR.1
  obtain ⟨n, rfl⟩ := nat_of (show 0 ≤ len by omega)
  obtain ⟨e, rfl⟩ := nat_of he.1
  rw [Int.toNat_natCast, Int.toNat_natCast, Int.toNat_natCast]
  have w1 : IntKind.u64.wrap (i : Int) = i := wrap_u64 (by omega) (by omega)
  have w2 : IntKind.u64.wrap (n : Int) = n := wrap_u64 (by omega) (by omega)
  have w3 : IntKind.u64.wrap (e : Int) = e := wrap_u64 (by omega) (by omega)
  have w4 : IntKind.u64.wrap (IntKind.i64.wrap ((i : Int) + 32768)) = ((i + 32768 : Nat) : Int) := by rw [wrap_i64 (by omega) (by omega), wrap_u64 (by omega) (by omega)]; omega
  have hl1 := numB_len i 2
  have hl2 := numB_len (i + 32768) 2
  have hl3 := numB_len n 2
  have a1 := wNumR cs (by omega) i 2
  have a2 := wNumR (cs ++ numB i 2) (by rw [List.length_append]; omega) n 2
  have b1 := wNumR cs (by omega) (i + 32768) 2
  have b2 := wNumR (cs ++ numB (i + 32768) 2) (by rw [List.length_append]; omega) n 2
  have b3 := wNumR (cs ++ numB (i + 32768) 2 ++ numB n 2) (by rw [List.length_append, List.length_append]; omega) e 4
  rw [show szN 2 = 2 from rfl] at a1 a2 b1 b2
  rw [show szN 4 = 4 from rfl] at b3
  refine DCall.of_awp tok mixed fn59 (Nat.le_of_ble_eq_true rfl) ?_
  (conv => whnf); (repeat' ((first | (with_reducible first | refine Box.mk ?_ | refine And.intro (fun _ => ?_) (fun _ => ?_) | fail) | ((with_reducible show ACall _ _ _ _ _); refine ACall.of_pure (by assumption) (by rfl) ?_) | fail) <;> conv => whnf))
  ·rename_i h0
   rw [if_pos h0, ← List.append_assoc]
   refine ⟨[(2004, []), (2008, []), (3006, [4]), (3007, [4])], by kernel_rfl, ?_⟩
   (conv => whnf); repeat' ((with_reducible refine Box.mk ?_) <;> conv => whnf)
   rw [w1]
   refine aDw [0, 1] a1 rfl rfl rfl ?_
   (conv => whnf); repeat' ((with_reducible refine Box.mk ?_) <;> conv => whnf)
   (refine And.intro ?_ ?_); (focus ((conv => whnf); (repeat' first | exact trivial | ((refine And.intro ?_ ?_); (focus ((conv => whnf); (first | exact ⟨rfl, rfl⟩ | exact ⟨by decide, by decide, rfl, rfl⟩ | exact ⟨by omega, by omega, rfl, rfl⟩ | exact ⟨by (simp only [List.length_drop, List.length_take]; omega), rfl, rfl⟩ | exact ⟨_, rfl, rfl, rfl⟩ | exact ⟨by omega, _, by assumption, rfl, rfl, rfl⟩ | ((refine ACall.of_pure (by assumption) (by rfl) ?_); (refine And.intro ?_ ?_ <;> rfl))))); (conv => whnf)))))
   (conv => whnf); repeat' ((with_reducible refine Box.mk ?_) <;> conv => whnf)
   (refine And.intro ?_ ?_); (focus ((conv => whnf); (repeat' first | exact trivial | ((refine And.intro ?_ ?_); (focus ((conv => whnf); (first | exact ⟨rfl, rfl⟩ | exact ⟨by decide, by decide, rfl, rfl⟩ | exact ⟨by omega, by omega, rfl, rfl⟩ | exact ⟨by (simp only [List.length_drop, List.length_take]; omega), rfl, rfl⟩ | exact ⟨_, rfl, rfl, rfl⟩ | exact ⟨by omega, _, by assumption, rfl, rfl, rfl⟩ | ((refine ACall.of_pure (by assumption) (by rfl) ?_); (refine And.intro ?_ ?_ <;> rfl))))); (conv => whnf)))))
   (conv => whnf); repeat' ((with_reducible refine Box.mk ?_) <;> conv => whnf)
   rw [w2]
   refine aDw [0, 3] a2 rfl rfl rfl ?_
   (conv => whnf); repeat' ((with_reducible refine Box.mk ?_) <;> conv => whnf)
   exact weak_ren_to [(0, true), (1, false), (4, true)] rfl rfl rfl ⟨rfl, trivial⟩
  ·rename_i h0
   rw [if_neg h0, ← List.append_assoc, ← List.append_assoc]
   refine ⟨[(2005, []), (2009, []), (2013, []), (3007, [5]), (3008, [5]), (3011, [5, 9]), (3012, [5, 9])], by kernel_rfl, ?_⟩
   (conv => whnf); repeat' ((with_reducible refine Box.mk ?_) <;> conv => whnf)
   rw [w4]
   refine aDw [0, 1] b1 rfl rfl rfl ?_
   (conv => whnf); repeat' ((with_reducible refine Box.mk ?_) <;> conv => whnf)
   (refine And.intro ?_ ?_); (focus ((conv => whnf); (repeat' first | exact trivial | ((refine And.intro ?_ ?_); (focus ((conv => whnf); (first | exact ⟨rfl, rfl⟩ | exact ⟨by decide, by decide, rfl, rfl⟩ | exact ⟨by omega, by omega, rfl, rfl⟩ | exact ⟨by (simp only [List.length_drop, List.length_take]; omega), rfl, rfl⟩ | exact ⟨_, rfl, rfl, rfl⟩ | exact ⟨by omega, _, by assumption, rfl, rfl, rfl⟩ | ((refine ACall.of_pure (by assumption) (by rfl) ?_); (refine And.intro ?_ ?_ <;> rfl))))); (conv => whnf)))))
   (conv => whnf); repeat' ((with_reducible refine Box.mk ?_) <;> conv => whnf)
   (refine And.intro ?_ ?_); (focus ((conv => whnf); (repeat' first | exact trivial | ((refine And.intro ?_ ?_); (focus ((conv => whnf); (first | exact ⟨rfl, rfl⟩ | exact ⟨by decide, by decide, rfl, rfl⟩ | exact ⟨by omega, by omega, rfl, rfl⟩ | exact ⟨by (simp only [List.length_drop, List.length_take]; omega), rfl, rfl⟩ | exact ⟨_, rfl, rfl, rfl⟩ | exact ⟨by omega, _, by assumption, rfl, rfl, rfl⟩ | ((refine ACall.of_pure (by assumption) (by rfl) ?_); (refine And.intro ?_ ?_ <;> rfl))))); (conv => whnf)))))
   (conv => whnf); repeat' ((with_reducible refine Box.mk ?_) <;> conv => whnf)
   rw [w2]
   refine aDw [0, 3] b2 rfl rfl rfl ?_
   (conv => whnf); repeat' ((with_reducible refine Box.mk ?_) <;> conv => whnf)
   (refine And.intro ?_ ?_); (focus ((conv => whnf); (repeat' first | exact trivial | ((refine And.intro ?_ ?_); (focus ((conv => whnf); (first | exact ⟨rfl, rfl⟩ | exact ⟨by decide, by decide, rfl, rfl⟩ | exact ⟨by omega, by omega, rfl, rfl⟩ | exact ⟨by (simp only [List.length_drop, List.length_take]; omega), rfl, rfl⟩ | exact ⟨_, rfl, rfl, rfl⟩ | exact ⟨by omega, _, by assumption, rfl, rfl, rfl⟩ | ((refine ACall.of_pure (by assumption) (by rfl) ?_); (refine And.intro ?_ ?_ <;> rfl))))); (conv => whnf)))))
   (conv => whnf); repeat' ((with_reducible refine Box.mk ?_) <;> conv => whnf)
   (refine And.intro ?_ ?_); (focus ((conv => whnf); (repeat' first | exact trivial | ((refine And.intro ?_ ?_); (focus ((conv => whnf); (first | exact ⟨rfl, rfl⟩ | exact ⟨by decide, by decide, rfl, rfl⟩ | exact ⟨by omega, by omega, rfl, rfl⟩ | exact ⟨by (simp only [List.length_drop, List.length_take]; omega), rfl, rfl⟩ | exact ⟨_, rfl, rfl, rfl⟩ | exact ⟨by omega, _, by assumption, rfl, rfl, rfl⟩ | ((refine ACall.of_pure (by assumption) (by rfl) ?_); (refine And.intro ?_ ?_ <;> rfl))))); (conv => whnf)))))
   (conv => whnf); repeat' ((with_reducible refine Box.mk ?_) <;> conv => whnf)
   rw [w3]
   refine aDw [0, 4] b3 rfl rfl rfl ?_
   (conv => whnf); repeat' ((with_reducible refine Box.mk ?_) <;> conv => whnf)
   exact weak_ren_to [(0, true), (1, false), (5, true)] rfl rfl rfl ⟨rfl, trivial⟩
 ·rw [hb] at q1
  have e : specB s = [] := by unfold specB; rw [if_pos hR]
  rw [e, List.append_nil]
  refine DCall.of_awp tok mixed fn59 (Nat.le_of_ble_eq_true rfl) ?_
  (conv => whnf); (repeat' ((first | (with_reducible refine Box.mk ?_) | ((with_reducible show ACall _ _ _ _ _); refine ACall.of_pure (by assumption) (by rfl) ?_) | fail) <;> conv => whnf))
  exact weak_ren_to [(0, true), (1, false), (1, true)] rfl rfl rfl ⟨rfl, trivial⟩
end Go.Proofs.YtnajpmepcffnaaaGreatDoor
end

section
/- field: a field and a value, read. -/
namespace Go.Proofs.YtnajpmepcffnaaaGreatDoor
open Go.Ve

def specOf (i n en : Nat) (e : Int) : Sc := if e = 0 then ⟨((i % 32768 : Nat) : Int), (en : Int), (n : Int)⟩ else ⟨0, 0, 0⟩
def specR (x1 x2 x3 : Bs) (b : Bs) (e : Int) : Sc × Bs × Int := (specOf (valB x1) (valB x2) (valB x3) e, b, e)
def readF (bs : Bs) (e : Int) : Sc × Bs × Int :=
 match rawF 2 bs e with
 | (x1, b1, e1) => match rawF 2 b1 e1 with
  | (x2, b2, e2) => match rawF 4 b2 (mustE e2 (decide (0 < valB x2))) with
   | (x3, b3, e3) => if valB x1 < 32768 then specR x1 x2 [] b2 (mustE e2 (decide (0 < valB x2))) else specR x1 x2 x3 b3 (mustE e3 (decide (0 < valB x3)))
theorem wrap_u32 {n : Int} (h1 : 0 ≤ n) (h2 : n ≤ 4294967295) : IntKind.u32.wrap n = n := by
 simp [IntKind.wrap, IntKind.signed, IntKind.bits]; omega
theorem raw_val (n k : Nat) (bs : Bs) (e : Int) (h : 256 ^ n = k) : valB (rawF (n : Nat) bs e).1 < k := by
 rw [← h]
 exact Nat.lt_of_lt_of_le (valB_lt _) (Nat.pow_le_pow_right (by decide) (raw_len n bs e))
set_option maxHeartbeats 8000000 in
theorem fRead_ok (bs : Bs) (e : Int) (hbs : bs.length ≤ 1000000000) : DCall P 123 [.ptr 0 0] (rH bs e) (sv (readF bs e).1) (rH (readF bs e).2.1 (readF bs e).2.2) := by
 have q1 := rNum_ok bs e 2 hbs
 have l1 := raw_rest 2 bs e
 have v1 := raw_val 2 65536 bs e rfl
 rw [show ((szN 2 : Nat) : Int) = 2 from rfl] at q1
 rw [show (((2 : Nat) : Nat) : Int) = 2 from rfl] at v1
 unfold readF
 generalize rawF 2 bs e = z1 at *
 obtain ⟨x1, b1, e1⟩ := z1
 dsimp only at q1 l1 v1 ⊢
 have q2 := rNum_ok b1 e1 2 (by omega)
 have l2 := raw_rest 2 b1 e1
 have v2 := raw_val 2 65536 b1 e1 rfl
 rw [show ((szN 2 : Nat) : Int) = 2 from rfl] at q2
 rw [show (((2 : Nat) : Nat) : Int) = 2 from rfl] at v2
 generalize rawF 2 b1 e1 = z2 at *
 obtain ⟨x2, b2, e2⟩ := z2
 dsimp only at q2 l2 v2 ⊢
 have m2 := fun b => rMust_ok b2 e2 b
 have q3 := rNum_ok b2 (mustE e2 (decide (0 < valB x2))) 4 (by omega)
 have q3e := rErr_ok b2 (mustE e2 (decide (0 < valB x2)))
 have l3 := raw_rest 4 b2 (mustE e2 (decide (0 < valB x2)))
 have v3 := raw_val 4 4294967296 b2 (mustE e2 (decide (0 < valB x2))) rfl
 rw [show ((szN 4 : Nat) : Int) = 4 from rfl] at q3
 rw [show (((4 : Nat) : Nat) : Int) = 4 from rfl] at v3
 generalize rawF 4 b2 (mustE e2 (decide (0 < valB x2))) = z3 at *
 obtain ⟨x3, b3, e3⟩ := z3
 dsimp only at q3 l3 v3 ⊢
 have m3 := fun b => rMust_ok b3 e3 b
 have q3f := rErr_ok b3 (mustE e3 (decide (0 < valB x3)))
 have z0 : valB [] = 0 := rfl
 unfold specR
 rw [z0]
 generalize valB x1 = i at *
 generalize valB x2 = n at *
 generalize valB x3 = en at *
 have w1 : IntKind.i64.wrap (i : Int) = i := wrap_i64 (by omega) (by omega)
 have w2 : IntKind.i64.wrap (n : Int) = n := wrap_i64 (by omega) (by omega)
 have w3 : IntKind.u32.wrap (en : Int) = en := wrap_u32 (by omega) (by omega)
 have wm : Int.tmod (i : Int) 32768 = ((i % 32768 : Nat) : Int) := by rw [Int.tmod_eq_emod_of_nonneg (by omega)]; rfl
 have sp : ∀ (m : Nat) (f : Int), f = 0 → sv (specOf i n m f) = .agg [.int .i64 ((i % 32768 : Nat) : Int), .int .u32 (m : Int), .int .i64 (n : Int)] := fun m f h => by unfold specOf; rw [if_pos h]; rfl
 have sz : ∀ (m : Nat) (f : Int), ¬ f = 0 → sv (specOf i n m f) = .agg [.int .i64 0, .int .u32 0, .int .i64 0] := fun m f h => by unfold specOf; rw [if_neg h]; rfl
 refine DCall.of_awp tok mixed fn123 (Nat.le_of_ble_eq_true rfl) ?_
 (conv => whnf); repeat' ((with_reducible refine Box.mk ?_) <;> conv => whnf)
 refine aW [0] q1 rfl rfl rfl ?_
 (conv => whnf); repeat' ((with_reducible refine Box.mk ?_) <;> conv => whnf)
 rw [w1]
 refine aW [0] q2 rfl rfl rfl ?_
 (conv => whnf); (repeat' ((with_reducible first | refine Box.mk ?_ | refine And.intro (fun _ => ?_) (fun _ => ?_) | fail) <;> conv => whnf))
 all_goals (
  rename_i hp
  rw [w2] at hp ⊢
  first
   | (have hd : decide (0 < n) = true := decide_eq_true (by omega); rw [hd] at q3 q3e ⊢; refine aW [0] (m2 true) rfl rfl rfl ?_)
   | (have hd : decide (0 < n) = false := decide_eq_false (by omega); rw [hd] at q3 q3e ⊢; refine aW [0] (m2 false) rfl rfl rfl ?_)
  (conv => whnf); repeat' ((with_reducible refine Box.mk ?_) <;> conv => whnf)
  refine ⟨by decide, ?_⟩
  (conv => whnf); (repeat' ((with_reducible first | refine Box.mk ?_ | refine And.intro (fun _ => ?_) (fun _ => ?_) | fail) <;> conv => whnf))
  ·rename_i hi
   rw [if_neg (by omega)]
   refine aW [0] q3 rfl rfl rfl ?_
   (conv => whnf); (repeat' ((with_reducible first | refine Box.mk ?_ | refine And.intro (fun _ => ?_) (fun _ => ?_) | fail) <;> conv => whnf))
   all_goals (
    rename_i hp2
    rw [w3] at hp2 ⊢
    first
     | (have hd2 : decide (0 < en) = true := decide_eq_true (by omega); rw [hd2] at q3f ⊢; refine aW [0] (m3 true) rfl rfl rfl ?_)
     | (have hd2 : decide (0 < en) = false := decide_eq_false (by omega); rw [hd2] at q3f ⊢; refine aW [0] (m3 false) rfl rfl rfl ?_)
    (conv => whnf); repeat' ((with_reducible refine Box.mk ?_) <;> conv => whnf)
    refine aW [0] q3f rfl rfl rfl ?_
    (conv => whnf); (repeat' ((with_reducible first | refine Box.mk ?_ | refine And.intro (fun _ => ?_) (fun _ => ?_) | fail) <;> conv => whnf))
    ·rename_i hz
     rw [wm]
     exact weak_ren_to [(0, true)] rfl rfl rfl ⟨(sp en _ hz).symm, trivial⟩
    ·rename_i hz
     exact weak_ren_to [(0, true)] rfl rfl rfl ⟨(sz en _ hz).symm, trivial⟩)
  ·rename_i hi
   rw [if_pos (by omega)]
   refine aW [0] q3e rfl rfl rfl ?_
   (conv => whnf); (repeat' ((with_reducible first | refine Box.mk ?_ | refine And.intro (fun _ => ?_) (fun _ => ?_) | fail) <;> conv => whnf))
   ·rename_i hz
    rw [wm]
    exact weak_ren_to [(0, true)] rfl rfl rfl ⟨(sp 0 _ hz).symm, trivial⟩
   ·rename_i hz
    exact weak_ren_to [(0, true)] rfl rfl rfl ⟨(sz 0 _ hz).symm, trivial⟩)
set_option maxHeartbeats 8000000 in
theorem xfRead_ok (pre bs : Bs) (e : Int) (hbs : (pre ++ bs).length ≤ 1000000000) : ∃ pre', pre' ++ (readF bs e).2.1 = pre ++ bs ∧ DCall P 52 [.ptr 0 0] (xH pre bs e) (sv (readF bs e).1) (xH pre' (readF bs e).2.1 (readF bs e).2.2) := by
 have q1 := xrNum_ok pre bs e 2 hbs
 have l1 := raw_app 2 bs e
 have v1 := raw_val 2 65536 bs e rfl
 rw [show ((szN 2 : Nat) : Int) = 2 from rfl] at q1
 rw [show (((2 : Nat) : Nat) : Int) = 2 from rfl] at v1
 unfold readF
 generalize rawF 2 bs e = z1 at *
 obtain ⟨x1, b1, e1⟩ := z1
 dsimp only at q1 l1 v1 ⊢
 have q2 := xrNum_ok (pre ++ x1) b1 e1 2 (by rw [List.append_assoc, l1]; exact hbs)
 have l2 := raw_app 2 b1 e1
 have v2 := raw_val 2 65536 b1 e1 rfl
 rw [show ((szN 2 : Nat) : Int) = 2 from rfl] at q2
 rw [show (((2 : Nat) : Nat) : Int) = 2 from rfl] at v2
 generalize rawF 2 b1 e1 = z2 at *
 obtain ⟨x2, b2, e2⟩ := z2
 dsimp only at q2 l2 v2 ⊢
 have m2 := fun b => xMust_ok (pre ++ x1 ++ x2) b2 e2 b
 have q3 := xrNum_ok (pre ++ x1 ++ x2) b2 (mustE e2 (decide (0 < valB x2))) 4 (by rw [List.append_assoc, l2, List.append_assoc, l1]; exact hbs)
 have l3 := raw_app 4 b2 (mustE e2 (decide (0 < valB x2)))
 have v3 := raw_val 4 4294967296 b2 (mustE e2 (decide (0 < valB x2))) rfl
 rw [show ((szN 4 : Nat) : Int) = 4 from rfl] at q3
 rw [show (((4 : Nat) : Nat) : Int) = 4 from rfl] at v3
 generalize rawF 4 b2 (mustE e2 (decide (0 < valB x2))) = z3 at *
 obtain ⟨x3, b3, e3⟩ := z3
 dsimp only at q3 l3 v3 ⊢
 have m3 := fun b => xMust_ok (pre ++ x1 ++ x2 ++ x3) b3 e3 b
 have z0 : valB [] = 0 := rfl
 unfold specR
 rw [z0]
 generalize valB x1 = i at *
 generalize valB x2 = n at *
 generalize valB x3 = en at *
 have w1 : IntKind.i64.wrap (i : Int) = i := wrap_i64 (by omega) (by omega)
 have w2 : IntKind.i64.wrap (n : Int) = n := wrap_i64 (by omega) (by omega)
 have w3 : IntKind.u32.wrap (en : Int) = en := wrap_u32 (by omega) (by omega)
 have wm : Int.tmod (i : Int) 32768 = ((i % 32768 : Nat) : Int) := by rw [Int.tmod_eq_emod_of_nonneg (by omega)]; rfl
 have sp : ∀ (m : Nat) (f : Int), f = 0 → sv (specOf i n m f) = .agg [.int .i64 ((i % 32768 : Nat) : Int), .int .u32 (m : Int), .int .i64 (n : Int)] := fun m f h => by unfold specOf; rw [if_pos h]; rfl
 have sz : ∀ (m : Nat) (f : Int), ¬ f = 0 → sv (specOf i n m f) = .agg [.int .i64 0, .int .u32 0, .int .i64 0] := fun m f h => by unfold specOf; rw [if_neg h]; rfl
 by_cases hi : i < 32768
 ·rw [if_pos hi]
  refine ⟨pre ++ x1 ++ x2, by show pre ++ x1 ++ x2 ++ b2 = _; rw [List.append_assoc, l2, List.append_assoc, l1], ?_⟩
  have hi2 : i % 32768 = i := Nat.mod_eq_of_lt hi
  refine DCall.of_awp tok mixed fn52 (Nat.le_of_ble_eq_true rfl) ?_
  (conv => whnf); repeat' ((with_reducible refine Box.mk ?_) <;> conv => whnf)
  refine aW [0] q1 rfl rfl rfl ?_
  (conv => whnf); repeat' ((with_reducible refine Box.mk ?_) <;> conv => whnf)
  refine aW [0] q2 rfl rfl rfl ?_
  (conv => whnf); (repeat' ((with_reducible first | refine Box.mk ?_ | refine And.intro (fun _ => ?_) (fun _ => ?_) | fail) <;> conv => whnf))
  all_goals (
   rename_i hp
   first
    | (have hd : decide (0 < n) = true := decide_eq_true (by omega); rw [hd] at q3 ⊢; refine aW [0] (m2 true) rfl rfl rfl ?_)
    | (have hd : decide (0 < n) = false := decide_eq_false (by omega); rw [hd] at q3 ⊢; refine aW [0] (m2 false) rfl rfl rfl ?_)
   (conv => whnf); (repeat' ((with_reducible first | refine Box.mk ?_ | refine And.intro (fun _ => ?_) (fun _ => ?_) | fail) <;> conv => whnf))
   all_goals try (exfalso; omega)
   ·rename_i hz
    refine weak_ren_to [(0, true)] rfl rfl rfl ⟨?_, trivial⟩
    rw [sp 0 _ hz, hi2]
    show AV.agg [.int .i64 (IntKind.i64.wrap (i : Int)), _, .int .i64 (IntKind.i64.wrap (n : Int))] = _
    rw [w1, w2]
    rfl
   ·rename_i hz
    refine weak_ren_to [(0, true)] rfl rfl rfl ⟨?_, trivial⟩
    rw [sz 0 _ hz]
    rfl)
 ·rw [if_neg hi]
  refine ⟨pre ++ x1 ++ x2 ++ x3, by show pre ++ x1 ++ x2 ++ x3 ++ b3 = _; rw [List.append_assoc, l3, List.append_assoc, l2, List.append_assoc, l1], ?_⟩
  have hi2 : IntKind.i64.wrap (IntKind.i64.wrap (i : Int) - 32768) = ((i % 32768 : Nat) : Int) := by rw [w1, wrap_i64 (by omega) (by omega)]; omega
  refine DCall.of_awp tok mixed fn52 (Nat.le_of_ble_eq_true rfl) ?_
  (conv => whnf); repeat' ((with_reducible refine Box.mk ?_) <;> conv => whnf)
  refine aW [0] q1 rfl rfl rfl ?_
  (conv => whnf); repeat' ((with_reducible refine Box.mk ?_) <;> conv => whnf)
  refine aW [0] q2 rfl rfl rfl ?_
  (conv => whnf); (repeat' ((with_reducible first | refine Box.mk ?_ | refine And.intro (fun _ => ?_) (fun _ => ?_) | fail) <;> conv => whnf))
  all_goals (
   rename_i hp
   first
    | (have hd : decide (0 < n) = true := decide_eq_true (by omega); rw [hd] at q3; refine aW [0] (m2 true) rfl rfl rfl ?_)
    | (have hd : decide (0 < n) = false := decide_eq_false (by omega); rw [hd] at q3; refine aW [0] (m2 false) rfl rfl rfl ?_)
   (conv => whnf); (repeat' ((with_reducible first | refine Box.mk ?_ | refine And.intro (fun _ => ?_) (fun _ => ?_) | fail) <;> conv => whnf))
   all_goals try (exfalso; omega)
   refine aW [0] q3 rfl rfl rfl ?_
   (conv => whnf); (repeat' ((with_reducible first | refine Box.mk ?_ | refine And.intro (fun _ => ?_) (fun _ => ?_) | fail) <;> conv => whnf))
   all_goals (
    rename_i hp2
    rw [w3] at hp2 ⊢
    first
     | (have hd2 : decide (0 < en) = true := decide_eq_true (by omega); rw [hd2]; refine aW [0] (m3 true) rfl rfl rfl ?_)
     | (have hd2 : decide (0 < en) = false := decide_eq_false (by omega); rw [hd2]; refine aW [0] (m3 false) rfl rfl rfl ?_)
    (conv => whnf); (repeat' ((with_reducible first | refine Box.mk ?_ | refine And.intro (fun _ => ?_) (fun _ => ?_) | fail) <;> conv => whnf))
    ·rename_i hz
     refine weak_ren_to [(0, true)] rfl rfl rfl ⟨?_, trivial⟩
     rw [sp en _ hz, ← hi2]
     show AV.agg [_, _, .int .i64 (IntKind.i64.wrap (n : Int))] = _
     rw [w2]
     rfl
    ·rename_i hz
     refine weak_ren_to [(0, true)] rfl rfl rfl ⟨?_, trivial⟩
     rw [sz en _ hz]
     rfl))
end Go.Proofs.YtnajpmepcffnaaaGreatDoor
end

section
/- field: a value, read; sizes. -/
namespace Go.Proofs.YtnajpmepcffnaaaGreatDoor
open Go.Ve

def ownF (bs : Bs) (e : Int) : Bs × Bs × Int :=
 match rawF 1 bs e with
 | (x1, b1, e1) => match rawF 2 b1 e1 with
  | (x2, b2, e2) => if valB x1 = 255 then rawF (valB x2 : Nat) b2 e2 else rawF (valB x1 : Nat) b1 e1
def valueF (s : Sc) (bs : Bs) (e : Int) : Bs × Bs × Int :=
 if s.len = 65535 then ownF bs (mustE e (rightS s)) else rawF s.len bs (mustE e (rightS s))
set_option maxHeartbeats 8000000 in
theorem fValue_ok (s : Sc) (bs : Bs) (e : Int) (hbs : bs.length ≤ 1000000000) : DCall P 124 [.ptr 0 0, sv s] (rH bs e) (.sl (bcl (valueF s bs e).1)) (rH (valueF s bs e).2.1 (valueF s bs e).2.2) := by
 have q0 := fRight_ok s
 unfold valueF
 generalize rightS s = b at *
 have m1 := rMust_ok bs e b
 generalize mustE e b = e0 at *
 by_cases hl : s.len = 65535
 ·rw [if_pos hl]
  have q1 := rNum_ok bs e0 1 hbs
  have l1 := raw_rest 1 bs e0
  have v1 := raw_val 1 256 bs e0 rfl
  rw [show ((szN 1 : Nat) : Int) = 1 from rfl] at q1
  rw [show (((1 : Nat) : Nat) : Int) = 1 from rfl] at v1
  unfold ownF
  generalize rawF 1 bs e0 = z1 at *
  obtain ⟨x1, b1, e1⟩ := z1
  dsimp only at q1 l1 v1 ⊢
  have q2 := rNum_ok b1 e1 2 (by omega)
  have l2 := raw_rest 2 b1 e1
  have v2 := raw_val 2 65536 b1 e1 rfl
  rw [show ((szN 2 : Nat) : Int) = 2 from rfl] at q2
  rw [show (((2 : Nat) : Nat) : Int) = 2 from rfl] at v2
  generalize rawF 2 b1 e1 = z2 at *
  obtain ⟨x2, b2, e2⟩ := z2
  dsimp only at q2 l2 v2 ⊢
  have q3 := fun n : Int => rRaw_ok b1 e1 n (by omega)
  have q4 := fun n : Int => rRaw_ok b2 e2 n (by omega)
  generalize valB x1 = n1 at *
  generalize valB x2 = n2 at *
  have w1 : IntKind.i64.wrap (n1 : Int) = n1 := wrap_i64 (by omega) (by omega)
  have w2 : IntKind.i64.wrap (n2 : Int) = n2 := wrap_i64 (by omega) (by omega)
  refine DCall.of_awp tok mixed fn124 (Nat.le_of_ble_eq_true rfl) ?_
  (conv => whnf); (repeat' ((first | (with_reducible refine Box.mk ?_) | ((with_reducible show ACall _ _ _ _ _); refine ACall.of_pure (by assumption) (by rfl) ?_) | fail) <;> conv => whnf))
  ·refine aW [0] m1 rfl rfl rfl ?_
   (conv => whnf); (repeat' ((with_reducible first | refine Box.mk ?_ | refine And.intro (fun _ => ?_) (fun _ => ?_) | fail) <;> conv => whnf))
   ·refine aW [0] q1 rfl rfl rfl ?_
    (conv => whnf); (repeat' ((with_reducible first | refine Box.mk ?_ | refine And.intro (fun _ => ?_) (fun _ => ?_) | fail) <;> conv => whnf))
    ·rename_i h2
     rw [w1] at h2
     rw [if_pos (by omega)]
     refine aW [0] q2 rfl rfl rfl ?_
     (conv => whnf); repeat' ((with_reducible refine Box.mk ?_) <;> conv => whnf)
     rw [w2]
     refine aW [0] (q4 n2) rfl rfl rfl ?_
     (conv => whnf); repeat' ((with_reducible refine Box.mk ?_) <;> conv => whnf)
     exact weak_ren_to [(0, true)] rfl rfl rfl ⟨rfl, trivial⟩
    ·rename_i h2
     rw [w1] at h2
     rw [if_neg (by omega), w1]
     refine aW [0] (q3 n1) rfl rfl rfl ?_
     (conv => whnf); repeat' ((with_reducible refine Box.mk ?_) <;> conv => whnf)
     exact weak_ren_to [(0, true)] rfl rfl rfl ⟨rfl, trivial⟩
   ·exfalso; omega
 ·rw [if_neg hl]
  have q3 := rRaw_ok bs e0 s.len hbs
  refine DCall.of_awp tok mixed fn124 (Nat.le_of_ble_eq_true rfl) ?_
  (conv => whnf); (repeat' ((first | (with_reducible refine Box.mk ?_) | ((with_reducible show ACall _ _ _ _ _); refine ACall.of_pure (by assumption) (by rfl) ?_) | fail) <;> conv => whnf))
  refine aW [0] m1 rfl rfl rfl ?_
  (conv => whnf); (repeat' ((with_reducible first | refine Box.mk ?_ | refine And.intro (fun _ => ?_) (fun _ => ?_) | fail) <;> conv => whnf))
  ·exfalso; omega
  ·refine aW [0] q3 rfl rfl rfl ?_
   (conv => whnf); repeat' ((with_reducible refine Box.mk ?_) <;> conv => whnf)
   exact weak_ren_to [(0, true)] rfl rfl rfl ⟨rfl, trivial⟩
theorem raw_bad {n : Int} {bs : Bs} {e : Int} (he : e ≠ 0) : rawF n bs e = ([], bs, e) := by
 unfold rawF
 have : mustE e (decide (0 ≤ n)) = e := by unfold mustE; rw [if_neg (fun h => he h.1)]
 rw [this, if_pos he]
set_option maxHeartbeats 8000000 in
theorem xfValue_ok (s : Sc) (pre bs : Bs) (e : Int) (hbs : (pre ++ bs).length ≤ 1000000000) : ∃ pre', pre' ++ (valueF s bs e).2.1 = pre ++ bs ∧ DCall P 56 [.ptr 0 0, sv s] (xH pre bs e) (.sl (bcl (valueF s bs e).1)) (xH pre' (valueF s bs e).2.1 (valueF s bs e).2.2) := by
 have q0 := xfRight_ok s
 have hover : 65535 < s.len → mustE e (rightS s) ≠ 0 := fun h => by
  have : rightS s = false := decide_eq_false (fun hc => by have := hc.2.2.2; omega)
  rw [this]; unfold mustE; split
  ·decide
  ·rename_i h2; intro h3; exact h2 ⟨h3, rfl⟩
 unfold valueF
 generalize rightS s = b at *
 have m1 := xMust_ok pre bs e b
 generalize mustE e b = e0 at *
 by_cases hl : s.len < 65535
 ·rw [if_neg (by omega)]
  have q3 := xRaw_ok pre bs e0 s.len hbs
  have l3 := raw_app s.len bs e0
  generalize rawF s.len bs e0 = z1 at *
  obtain ⟨x1, b1, e1⟩ := z1
  dsimp only at q3 l3 ⊢
  refine ⟨pre ++ x1, by rw [List.append_assoc, l3], ?_⟩
  refine DCall.of_awp tok mixed fn56 (Nat.le_of_ble_eq_true rfl) ?_
  (conv => whnf); (repeat' ((first | (with_reducible refine Box.mk ?_) | ((with_reducible show ACall _ _ _ _ _); refine ACall.of_pure (by assumption) (by rfl) ?_) | fail) <;> conv => whnf))
  refine aW [0] m1 rfl rfl rfl ?_
  (conv => whnf); (repeat' ((with_reducible first | refine Box.mk ?_ | refine And.intro (fun _ => ?_) (fun _ => ?_) | fail) <;> conv => whnf))
  ·refine aW [0] q3 rfl rfl rfl ?_
   (conv => whnf); repeat' ((with_reducible refine Box.mk ?_) <;> conv => whnf)
   exact weak_ren_to [(0, true)] rfl rfl rfl ⟨rfl, trivial⟩
  ·exfalso; omega
 ·have q1 := xrNum_ok pre bs e0 1 hbs
  have l1 := raw_app 1 bs e0
  have v1 := raw_val 1 256 bs e0 rfl
  rw [show ((szN 1 : Nat) : Int) = 1 from rfl] at q1
  rw [show (((1 : Nat) : Nat) : Int) = 1 from rfl] at v1
  by_cases h6 : s.len = 65535
  ·rw [if_pos h6]
   unfold ownF
   generalize rawF 1 bs e0 = z1 at *
   obtain ⟨x1, b1, e1⟩ := z1
   dsimp only at q1 l1 v1 ⊢
   have q2 := xrNum_ok (pre ++ x1) b1 e1 2 (by rw [List.append_assoc, l1]; exact hbs)
   have l2 := raw_app 2 b1 e1
   have v2 := raw_val 2 65536 b1 e1 rfl
   rw [show ((szN 2 : Nat) : Int) = 2 from rfl] at q2
   rw [show (((2 : Nat) : Nat) : Int) = 2 from rfl] at v2
   generalize rawF 2 b1 e1 = z2 at *
   obtain ⟨x2, b2, e2⟩ := z2
   dsimp only at q2 l2 v2 ⊢
   have q3 := fun n : Int => xRaw_ok (pre ++ x1) b1 e1 n (by rw [List.append_assoc, l1]; exact hbs)
   have q4 := fun n : Int => xRaw_ok (pre ++ x1 ++ x2) b2 e2 n (by rw [List.append_assoc, l2, List.append_assoc, l1]; exact hbs)
   generalize valB x1 = n1 at *
   generalize valB x2 = n2 at *
   have w1 : IntKind.i64.wrap (n1 : Int) = n1 := wrap_i64 (by omega) (by omega)
   have w2 : IntKind.i64.wrap (n2 : Int) = n2 := wrap_i64 (by omega) (by omega)
   by_cases h255 : n1 = 255
   ·rw [if_pos h255]
    have q4 := q4 n2
    have l4 := raw_app n2 b2 e2
    generalize rawF (n2 : Nat) b2 e2 = z4 at *
    obtain ⟨x4, b4, e4⟩ := z4
    dsimp only at q4 l4 ⊢
    refine ⟨pre ++ x1 ++ x2 ++ x4, by rw [List.append_assoc, l4, List.append_assoc, l2, List.append_assoc, l1], ?_⟩
    refine DCall.of_awp tok mixed fn56 (Nat.le_of_ble_eq_true rfl) ?_
    (conv => whnf); (repeat' ((first | (with_reducible refine Box.mk ?_) | ((with_reducible show ACall _ _ _ _ _); refine ACall.of_pure (by assumption) (by rfl) ?_) | fail) <;> conv => whnf))
    refine aW [0] m1 rfl rfl rfl ?_
    (conv => whnf); (repeat' ((with_reducible first | refine Box.mk ?_ | refine And.intro (fun _ => ?_) (fun _ => ?_) | fail) <;> conv => whnf))
    all_goals try (exfalso; omega)
    refine aW [0] q1 rfl rfl rfl ?_
    (conv => whnf); (repeat' ((with_reducible first | refine Box.mk ?_ | refine And.intro (fun _ => ?_) (fun _ => ?_) | fail) <;> conv => whnf))
    all_goals try (exfalso; omega)
    refine aW [0] q2 rfl rfl rfl ?_
    (conv => whnf); repeat' ((with_reducible refine Box.mk ?_) <;> conv => whnf)
    rw [w2]
    refine aW [0] q4 rfl rfl rfl ?_
    (conv => whnf); repeat' ((with_reducible refine Box.mk ?_) <;> conv => whnf)
    exact weak_ren_to [(0, true)] rfl rfl rfl ⟨rfl, trivial⟩
   ·rw [if_neg h255]
    have q3 := q3 n1
    have l4 := raw_app n1 b1 e1
    generalize rawF (n1 : Nat) b1 e1 = z4 at *
    obtain ⟨x4, b4, e4⟩ := z4
    dsimp only at q3 l4 ⊢
    refine ⟨pre ++ x1 ++ x4, by rw [List.append_assoc, l4, List.append_assoc, l1], ?_⟩
    refine DCall.of_awp tok mixed fn56 (Nat.le_of_ble_eq_true rfl) ?_
    (conv => whnf); (repeat' ((first | (with_reducible refine Box.mk ?_) | ((with_reducible show ACall _ _ _ _ _); refine ACall.of_pure (by assumption) (by rfl) ?_) | fail) <;> conv => whnf))
    refine aW [0] m1 rfl rfl rfl ?_
    (conv => whnf); (repeat' ((with_reducible first | refine Box.mk ?_ | refine And.intro (fun _ => ?_) (fun _ => ?_) | fail) <;> conv => whnf))
    all_goals try (exfalso; omega)
    refine aW [0] q1 rfl rfl rfl ?_
    (conv => whnf); (repeat' ((with_reducible first | refine Box.mk ?_ | refine And.intro (fun _ => ?_) (fun _ => ?_) | fail) <;> conv => whnf))
    all_goals try (exfalso; omega)
    rw [w1]
    refine aW [0] q3 rfl rfl rfl ?_
    (conv => whnf); repeat' ((with_reducible refine Box.mk ?_) <;> conv => whnf)
    exact weak_ren_to [(0, true)] rfl rfl rfl ⟨rfl, trivial⟩
  ·rw [if_neg h6]
   have hne := hover (by omega)
   have q3 := xRaw_ok pre bs e0 0 hbs
   rw [raw_bad hne] at q1 q3
   rw [raw_bad hne]
   dsimp only at q1 q3 ⊢
   rw [List.append_nil] at q1 q3
   refine ⟨pre, rfl, ?_⟩
   refine DCall.of_awp tok mixed fn56 (Nat.le_of_ble_eq_true rfl) ?_
   (conv => whnf); (repeat' ((first | (with_reducible refine Box.mk ?_) | ((with_reducible show ACall _ _ _ _ _); refine ACall.of_pure (by assumption) (by rfl) ?_) | fail) <;> conv => whnf))
   refine aW [0] m1 rfl rfl rfl ?_
   (conv => whnf); (repeat' ((with_reducible first | refine Box.mk ?_ | refine And.intro (fun _ => ?_) (fun _ => ?_) | fail) <;> conv => whnf))
   all_goals try (exfalso; omega)
   refine aW [0] q1 rfl rfl rfl ?_
   (conv => whnf); (repeat' ((with_reducible first | refine Box.mk ?_ | refine And.intro (fun _ => ?_) (fun _ => ?_) | fail) <;> conv => whnf))
   all_goals try (rename_i hbad; exact absurd hbad (by decide))
   refine aW [0] q3 rfl rfl rfl ?_
   (conv => whnf); repeat' ((with_reducible refine Box.mk ?_) <;> conv => whnf)
   exact weak_ren_to [(0, true)] rfl rfl rfl ⟨rfl, trivial⟩
def sizeS (s : Sc) : Int := if ¬ RightS s then 0 else if s.len = 65535 then 1 else s.len
def sizesF : List Sc → Int
 | [] => 0
 | s :: r => sizeS s + sizesF r
theorem sizeS_le (s : Sc) : 0 ≤ sizeS s ∧ sizeS s ≤ 65534 := by
 unfold sizeS RightS
 (repeat' split) <;> omega
theorem sizes_snoc (l : List Sc) (s : Sc) : sizesF (l ++ [s]) = sizesF l + sizeS s := by
 induction l with
 | nil => simp [sizesF]
 | cons a r ih => simp only [List.cons_append, sizesF, ih]; omega
theorem sizes_le (l : List Sc) : 0 ≤ sizesF l ∧ sizesF l ≤ l.length * 65534 := by
 induction l with
 | nil => exact ⟨Int.le_refl _, Int.le_refl _⟩
 | cons a r ih =>
  have := sizeS_le a
  simp only [sizesF, List.length_cons]; omega
def scl (l : List Sc) : List (List AV) := l.map scc
theorem scl_len (l : List Sc) : (scl l).length = l.length := by simp [scl]
theorem scl_get {l : List Sc} {i : Nat} {s : Sc} (h : l[i]? = some s) : (scl l)[(i : Int).toNat]? = some (scc s) := by
 rw [Int.toNat_natCast, scl, List.getElem?_map, h]; rfl
theorem sizes_take {l : List Sc} {i : Nat} {s : Sc} (h : l[i]? = some s) : sizesF (l.take (i + 1)) = sizesF (l.take i) + sizeS s := by
 rw [List.take_add_one, h]; exact sizes_snoc _ _
set_option maxHeartbeats 4000000 in
theorem fSize_ok (l : List Sc) (hl : l.length ≤ 100000000000) : PCall P 103 [.sl (scl l)] (.int .i64 (sizesF l)) := by
 have hll := scl_len l
 refine PCall.of_awp tok mixed fn103 (Nat.le_of_ble_eq_true rfl) ?_
 (conv => whnf); repeat' ((with_reducible refine Box.mk ?_) <;> conv => whnf)
 refine aloop (fun i : Nat => i ≤ l.length) (fun i => ⟨envL [(3, .int .i64 (sizesF (l.take i))), (6, .sl (scl l)), (7, .int .i64 (scl l).length), (8, .int .i64 i)], []⟩) (fun i => l.length - i) 0 (Nat.zero_le _) (weak_to ⟨rfl, rfl, rfl, rfl, trivial⟩ rfl) ?_
 intro i hi
 by_cases hil : i < l.length
 ·have hg0 : l[i]? = some l[i] := List.getElem?_eq_getElem hil
  have hg := scl_get hg0
  have hst := sizes_take hg0
  have hle := sizes_le (l.take i)
  have htl : (l.take i).length ≤ l.length := by rw [List.length_take]; omega
  have hs := sizeS_le l[i]
  generalize l[i] = s at *
  have q := fRight_ok s
  unfold sizeS at hst hs
  rcases right_cases s with ⟨hR, hb⟩ | ⟨hR, hb⟩
  ·rw [hb] at q
   rw [if_neg (fun h => h hR)] at hst hs
   (conv => whnf); (repeat' ((with_reducible first | refine Box.mk ?_ | refine And.intro (fun _ => ?_) (fun _ => ?_) | fail) <;> conv => whnf))
   all_goals try (exfalso; omega)
   refine ⟨by omega, _, hg, rfl, ?_⟩
   (conv => whnf); (repeat' ((first | (with_reducible first | refine Box.mk ?_ | refine And.intro (fun _ => ?_) (fun _ => ?_) | fail) | ((with_reducible show ACall _ _ _ _ _); refine ACall.of_pure (by assumption) (by rfl) ?_) | fail) <;> conv => whnf))
   ·rename_i h5
    rw [if_pos h5] at hst
    exact ⟨i + 1, hil, by show l.length - (i + 1) < l.length - i; omega, weak_ren_to [] rfl rfl rfl ⟨congrArg (AV.int .i64) (by rw [wrap_i64 (by omega) (by omega)]; exact hst.symm), rfl, rfl, wrap_nat (m := 1) (by omega), trivial⟩⟩
   ·rename_i h5
    rw [if_neg h5] at hst hs
    exact ⟨i + 1, hil, by show l.length - (i + 1) < l.length - i; omega, weak_ren_to [] rfl rfl rfl ⟨congrArg (AV.int .i64) (by rw [wrap_i64 (by omega) (by omega)]; exact hst.symm), rfl, rfl, wrap_nat (m := 1) (by omega), trivial⟩⟩
  ·rw [hb] at q
   rw [if_pos hR, Int.add_zero] at hst
   (conv => whnf); (repeat' ((with_reducible first | refine Box.mk ?_ | refine And.intro (fun _ => ?_) (fun _ => ?_) | fail) <;> conv => whnf))
   all_goals try (exfalso; omega)
   refine ⟨by omega, _, hg, rfl, ?_⟩
   (conv => whnf); (repeat' ((first | (with_reducible refine Box.mk ?_) | ((with_reducible show ACall _ _ _ _ _); refine ACall.of_pure (by assumption) (by rfl) ?_) | fail) <;> conv => whnf))
   exact ⟨i + 1, hil, by show l.length - (i + 1) < l.length - i; omega, weak_ren_to [] rfl rfl rfl ⟨congrArg (AV.int .i64) hst.symm, rfl, rfl, wrap_nat (m := 1) (by omega), trivial⟩⟩
 ·have : i = l.length := by omega
  (conv => whnf); (repeat' ((with_reducible first | refine Box.mk ?_ | refine And.intro (fun _ => ?_) (fun _ => ?_) | fail) <;> conv => whnf))
  all_goals try (exfalso; omega)
  exact res1_eq (congrArg (AV.int .i64) (by show sizesF (l.take i) = _; rw [List.take_of_length_le (by omega)]))
end Go.Proofs.YtnajpmepcffnaaaGreatDoor
end

section
/- field: a value, written. -/
namespace Go.Proofs.YtnajpmepcffnaaaGreatDoor
open Go.Ve

def padB (v : Bs) (k : Nat) : Bs := v.take k ++ List.replicate (k - v.length) 0
theorem pad_len (v : Bs) (k : Nat) : (padB v k).length = k := by
 unfold padB
 rw [List.length_append, List.length_take, List.length_replicate]; omega
def putB (s : Sc) (v : Bs) : Bs :=
 if ¬ RightS s then [] else if s.len = 65535 then (if (v.take 65535).length < 255 then numB (v.take 65535).length 1 ++ v.take 65535 else numB 255 1 ++ numB (v.take 65535).length 2 ++ v.take 65535)
 else padB v s.len.toNat
theorem putB_len (s : Sc) (v : Bs) : (putB s v).length ≤ 65540 := by
 have h : (v.take 65535).length ≤ 65535 := by rw [List.length_take]; omega
 unfold putB RightS
 split
 ·exact Nat.zero_le _
 ·split
  ·split
   ·rw [List.length_append, numB_len]; omega
   ·rw [List.length_append, List.length_append, numB_len, numB_len]; omega
  ·rw [pad_len]; omega
theorem zeros_bcl (k : Nat) : List.replicate k [AV.int .u8 0] = bcl (List.replicate k 0) := by
 unfold bcl
 rw [List.map_replicate]; rfl
theorem cut_bcl (v : Bs) (k : Nat) : List.drop 0 (List.take k (bcl v)) = bcl (v.take k) := by
 rw [List.drop_zero]; exact (List.map_take ..).symm
set_option maxHeartbeats 8000000 in
theorem fPutR (cs : Bs) (hcs : cs.length ≤ 900000000) (s : Sc) (v : Bs) (hv : v.length ≤ 1000000000) : DCall P 61 [.ptr 0 0, sv s, .sl (bcl v)] (wR cs) (mkRes []) (wQ (cs ++ putB s v)) := by
 have q0 := fRight_ok s
 have hbl := bcl_len v
 rcases right_cases s with ⟨hR, hb⟩ | ⟨hR, hb⟩
 ·rw [hb] at q0
  unfold putB
  rw [if_neg (fun h => h hR)]
  unfold RightS at hR
  by_cases h6 : s.len = 65535
  ·rw [if_pos h6]
   have ht : List.drop 0 (List.take (min (((bcl v).length : Nat) : Int) 65535).toNat (bcl v)) = bcl (v.take 65535) := by
    rw [cut_bcl]
    congr 1
    rcases Nat.le_total v.length 65535 with h | h
    ·rw [List.take_of_length_le (by omega), List.take_of_length_le h]
    ·congr 1; omega
   have hl2 : (v.take 65535).length ≤ 65535 := by rw [List.length_take]; omega
   have hbl2 := bcl_len (v.take 65535)
   generalize v.take 65535 = u at *
   have w1 : IntKind.u64.wrap ((u.length : Nat) : Int) = ((u.length : Nat) : Int) := wrap_u64 (by omega) (by omega)
   have n1 := numB_len u.length 1
   have n2 := numB_len 255 1
   have n3 := numB_len u.length 2
   have a1 := wNumR cs (by omega) u.length 1
   have a2 := wRawR (cs ++ numB u.length 1) (by rw [List.length_append]; omega) u (by omega)
   have b1 := wNumR cs (by omega) 255 1
   have b2 := wNumR (cs ++ numB 255 1) (by rw [List.length_append]; omega) u.length 2
   have b3 := wRawR (cs ++ numB 255 1 ++ numB u.length 2) (by rw [List.length_append, List.length_append]; omega) u (by omega)
   rw [show szN 1 = 1 from rfl] at a1 b1
   rw [show szN 2 = 2 from rfl] at b2
   refine DCall.of_awp tok mixed fn61 (Nat.le_of_ble_eq_true rfl) ?_
   (conv => whnf); (repeat' ((first | (with_reducible first | refine Box.mk ?_ | refine And.intro (fun _ => ?_) (fun _ => ?_) | fail) | ((with_reducible show ACall _ _ _ _ _); refine ACall.of_pure (by assumption) (by rfl) ?_) | ((with_reducible show _ ∧ _ ∧ _); refine ⟨by omega, by omega, ?_⟩) | fail) <;> conv => whnf))
   all_goals try (exfalso; omega)
   refine ⟨bcl_all _, ?_⟩
   rw [ht]
   (conv => whnf); (repeat' ((with_reducible first | refine Box.mk ?_ | refine And.intro (fun _ => ?_) (fun _ => ?_) | fail) <;> conv => whnf))
   ·rename_i h5
    rw [if_pos (by omega), ← List.append_assoc, hbl2, w1]
    refine aW [0, 1] a1 rfl rfl rfl ?_
    (conv => whnf); repeat' ((with_reducible refine Box.mk ?_) <;> conv => whnf)
    refine aW [0, 3] a2 rfl rfl rfl ?_
    (conv => whnf); repeat' ((with_reducible refine Box.mk ?_) <;> conv => whnf)
    exact weak_ren_to [(0, true), (1, false), (4, true)] rfl rfl rfl ⟨rfl, trivial⟩
   ·rename_i h5
    rw [if_neg (by omega), ← List.append_assoc, ← List.append_assoc]
    refine aW [0, 1] b1 rfl rfl rfl ?_
    (conv => whnf); repeat' ((with_reducible refine Box.mk ?_) <;> conv => whnf)
    rw [hbl2, w1]
    refine aW [0, 3] b2 rfl rfl rfl ?_
    (conv => whnf); repeat' ((with_reducible refine Box.mk ?_) <;> conv => whnf)
    refine aW [0, 4] b3 rfl rfl rfl ?_
    (conv => whnf); repeat' ((with_reducible refine Box.mk ?_) <;> conv => whnf)
    exact weak_ren_to [(0, true), (1, false), (5, true)] rfl rfl rfl ⟨rfl, trivial⟩
  ·rw [if_neg h6]
   obtain ⟨n, hn⟩ := nat_of (show 0 ≤ s.len by omega)
   have ht : List.drop 0 (List.take (min (((bcl v).length : Nat) : Int) s.len).toNat (bcl v)) = bcl (v.take n) := by
    rw [cut_bcl]
    congr 1
    rcases Nat.le_total v.length n with h | h
    ·rw [List.take_of_length_le (by omega), List.take_of_length_le h]
    ·congr 1; omega
   have hz : IntKind.i64.wrap (s.len - min (((bcl v).length : Nat) : Int) s.len) = ((n - v.length : Nat) : Int) := by rw [wrap_i64 (by omega) (by omega)]; omega
   have a1 := wRawR cs (by omega) (v.take n) (by rw [List.length_take]; omega)
   have a2 := wRawR (cs ++ v.take n) (by rw [List.length_append, List.length_take]; omega) (List.replicate (n - v.length) 0) (by rw [List.length_replicate]; omega)
   rw [hn, Int.toNat_natCast]
   unfold padB
   rw [← List.append_assoc]
   refine DCall.of_awp tok mixed fn61 (Nat.le_of_ble_eq_true rfl) ?_
   (conv => whnf); (repeat' ((first | (with_reducible first | refine Box.mk ?_ | refine And.intro (fun _ => ?_) (fun _ => ?_) | fail) | ((with_reducible show ACall _ _ _ _ _); refine ACall.of_pure (by assumption) (by rfl) ?_) | ((with_reducible show _ ∧ _ ∧ _); refine ⟨by omega, by omega, ?_⟩) | fail) <;> conv => whnf))
   all_goals try (exfalso; omega)
   refine ⟨[(2004, []), (2010, []), (3006, [4])], by kernel_rfl, ?_⟩
   (conv => whnf); (repeat' ((first | (with_reducible refine Box.mk ?_) | ((with_reducible show _ ∧ _ ∧ _); refine ⟨by omega, by omega, ?_⟩) | fail) <;> conv => whnf))
   refine ⟨bcl_all _, ?_⟩
   rw [ht]
   (conv => whnf); repeat' ((with_reducible refine Box.mk ?_) <;> conv => whnf)
   refine aDw [0, 1] a1 rfl rfl rfl ?_
   (conv => whnf); repeat' ((with_reducible refine Box.mk ?_) <;> conv => whnf)
   (refine And.intro ?_ ?_); (focus ((conv => whnf); (repeat' first | exact trivial | ((refine And.intro ?_ ?_); (focus ((conv => whnf); (first | exact ⟨rfl, rfl⟩ | exact ⟨by decide, by decide, rfl, rfl⟩ | exact ⟨by omega, by omega, rfl, rfl⟩ | exact ⟨by (simp only [List.length_drop, List.length_take]; omega), rfl, rfl⟩ | exact ⟨_, rfl, rfl, rfl⟩ | exact ⟨by omega, _, by assumption, rfl, rfl, rfl⟩ | ((refine ACall.of_pure (by assumption) (by rfl) ?_); (refine And.intro ?_ ?_ <;> rfl))))); (conv => whnf)))))
   (conv => whnf); (repeat' ((first | (with_reducible refine Box.mk ?_) | ((with_reducible show _ ∧ _ ∧ _); refine ⟨by omega, by omega, ?_⟩) | fail) <;> conv => whnf))
   rw [hz]
   refine ⟨by show ((n - v.length : Nat) : Int) * ((1 : Nat) : Int) ≤ _; omega, by omega, ?_⟩
   (conv => whnf); repeat' ((with_reducible refine Box.mk ?_) <;> conv => whnf)
   rw [Int.toNat_natCast, zeros_bcl]
   refine aDw [0, 3] a2 rfl rfl rfl ?_
   (conv => whnf); repeat' ((with_reducible refine Box.mk ?_) <;> conv => whnf)
   exact weak_ren_to [(0, true), (1, false), (4, true)] rfl rfl rfl ⟨rfl, trivial⟩
 ·rw [hb] at q0
  have e : putB s v = [] := by unfold putB; rw [if_pos hR]
  rw [e, List.append_nil]
  refine DCall.of_awp tok mixed fn61 (Nat.le_of_ble_eq_true rfl) ?_
  (conv => whnf); (repeat' ((first | (with_reducible refine Box.mk ?_) | ((with_reducible show ACall _ _ _ _ _); refine ACall.of_pure (by assumption) (by rfl) ?_) | fail) <;> conv => whnf))
  exact weak_ren_to [(0, true), (1, false), (1, true)] rfl rfl rfl ⟨rfl, trivial⟩
set_option maxHeartbeats 4000000 in
theorem xfSize_ok (l : List Sc) (hl : l.length ≤ 100000000000) : PCall P 55 [.sl (scl l)] (.int .i64 (sizesF l)) := by
 have hll := scl_len l
 refine PCall.of_awp tok mixed fn55 (Nat.le_of_ble_eq_true rfl) ?_
 (conv => whnf); repeat' ((with_reducible refine Box.mk ?_) <;> conv => whnf)
 refine aloop (fun i : Nat => i ≤ l.length) (fun i => ⟨envL [(0, .sl (scl l)), (3, .int .i64 (sizesF (l.take i))), (4, .int .i64 i)], []⟩) (fun i => l.length - i) 0 (Nat.zero_le _) (weak_to ⟨rfl, rfl, rfl, trivial⟩ rfl) ?_
 intro i hi
 by_cases hil : i < l.length
 ·have hg0 : l[i]? = some l[i] := List.getElem?_eq_getElem hil
  have hg := scl_get hg0
  have hst := sizes_take hg0
  have hle := sizes_le (l.take i)
  have htl : (l.take i).length ≤ l.length := by rw [List.length_take]; omega
  have hs := sizeS_le l[i]
  generalize l[i] = s at *
  have q := xfRight_ok s
  unfold sizeS at hst hs
  rcases right_cases s with ⟨hR, hb⟩ | ⟨hR, hb⟩
  ·rw [hb] at q
   rw [if_neg (fun h => h hR)] at hst hs
   (conv => whnf); (repeat' ((with_reducible first | refine Box.mk ?_ | refine And.intro (fun _ => ?_) (fun _ => ?_) | fail) <;> conv => whnf))
   all_goals try (exfalso; omega)
   refine ⟨by omega, _, hg, rfl, ?_⟩
   (conv => whnf); (repeat' ((first | (with_reducible refine Box.mk ?_) | ((with_reducible show ACall _ _ _ _ _); refine ACall.of_pure (by assumption) (by rfl) ?_) | fail) <;> conv => whnf))
   refine ⟨by omega, _, hg, rfl, ?_⟩
   (conv => whnf); (repeat' ((with_reducible first | refine Box.mk ?_ | refine And.intro (fun _ => ?_) (fun _ => ?_) | fail) <;> conv => whnf))
   ·rename_i h5
    rw [if_pos h5] at hst
    exact ⟨i + 1, hil, by show l.length - (i + 1) < l.length - i; omega, weak_ren_to [] rfl rfl rfl ⟨rfl, congrArg (AV.int .i64) (by rw [wrap_i64 (by omega) (by omega)]; exact hst.symm), wrap_nat (m := 1) (by omega), trivial⟩⟩
   ·rename_i h5
    rw [if_neg h5] at hst hs
    refine ⟨by omega, _, hg, rfl, ?_⟩
    (conv => whnf); (repeat' ((first | (with_reducible refine Box.mk ?_) | ((with_reducible show ACall _ _ _ _ _); refine ACall.of_pure (by assumption) (by rfl) ?_) | fail) <;> conv => whnf))
    refine ⟨by omega, _, hg, rfl, ?_⟩
    (conv => whnf); repeat' ((with_reducible refine Box.mk ?_) <;> conv => whnf)
    exact ⟨i + 1, hil, by show l.length - (i + 1) < l.length - i; omega, weak_ren_to [] rfl rfl rfl ⟨rfl, congrArg (AV.int .i64) (by rw [wrap_i64 (by omega) (by omega)]; exact hst.symm), wrap_nat (m := 1) (by omega), trivial⟩⟩
  ·rw [hb] at q
   rw [if_pos hR, Int.add_zero] at hst
   (conv => whnf); (repeat' ((with_reducible first | refine Box.mk ?_ | refine And.intro (fun _ => ?_) (fun _ => ?_) | fail) <;> conv => whnf))
   all_goals try (exfalso; omega)
   refine ⟨by omega, _, hg, rfl, ?_⟩
   (conv => whnf); (repeat' ((first | (with_reducible refine Box.mk ?_) | ((with_reducible show ACall _ _ _ _ _); refine ACall.of_pure (by assumption) (by rfl) ?_) | fail) <;> conv => whnf))
   refine ⟨by omega, _, hg, rfl, ?_⟩
   (conv => whnf); (repeat' ((first | (with_reducible refine Box.mk ?_) | ((with_reducible show ACall _ _ _ _ _); refine ACall.of_pure (by assumption) (by rfl) ?_) | fail) <;> conv => whnf))
   exact ⟨i + 1, hil, by show l.length - (i + 1) < l.length - i; omega, weak_ren_to [] rfl rfl rfl ⟨rfl, congrArg (AV.int .i64) hst.symm, wrap_nat (m := 1) (by omega), trivial⟩⟩
 ·have : i = l.length := by omega
  (conv => whnf); (repeat' ((with_reducible first | refine Box.mk ?_ | refine And.intro (fun _ => ?_) (fun _ => ?_) | fail) <;> conv => whnf))
  all_goals try (exfalso; omega)
  exact res1_eq (congrArg (AV.int .i64) (by show sizesF (l.take i) = _; rw [List.take_of_length_le (by omega)]))
end Go.Proofs.YtnajpmepcffnaaaGreatDoor
end

section
/- What the library's functions do, told as the walks need it. -/
namespace Go.Proofs.YtnajpmepcffnaaaGreatDoor
open Go.Ve

def splitDot : Bs → List Bs
 | [] => [[]]
 | c :: s => if c = 46 then [] :: splitDot s else match splitDot s with
  | [] => [[c]]
  | x :: xs => (c :: x) :: xs
theorem splitDot_ne : ∀ s, splitDot s ≠ []
 | [] => by simp [splitDot]
 | c :: s => by
  simp only [splitDot]
  split
  ·simp
  ·split <;> simp
theorem splitDot_none : ∀ {s : Bs}, s.count 46 = 0 → splitDot s = [s]
 | [], _ => rfl
 | c :: s, h => by
  have hc : c ≠ 46 := fun e => by subst e; simp at h
  have hs : s.count 46 = 0 := by simpa [List.count_cons, hc] using h
  simp [splitDot, hc, splitDot_none hs]
theorem splitDot_hit : ∀ {s : Bs} {i : Nat}, Lib.index s [46] = i → splitDot s = s.take i :: splitDot (s.drop (i + 1)) ∧ (s.drop (i + 1)).count 46 < s.count 46
 | [], i, h => by simp [Lib.index] at h
 | c :: s, i, h => by
  unfold Lib.index at h
  by_cases hc : c = 46
  ·subst hc
   simp [List.isPrefixOf] at h
   have : i = 0 := by omega
   subst this
   simp [splitDot]
  ·have hp : List.isPrefixOf [46] (c :: s) = false := by simp [List.isPrefixOf]; exact fun e => hc e.symm
   rw [hp] at h
   simp only [Bool.false_eq_true, if_false] at h
   split at h
   ·omega
   ·rename_i hn
    have h1 : Lib.index s [46] = ((i - 1 : Nat) : Int) := by
     have : -1 ≤ Lib.index s [46] := by
      rcases Lib.index_spec s [46] with ⟨e, _⟩ | ⟨k, e, _⟩ <;> omega
     have : Lib.index s [46] ≠ -1 := fun e => hn (by rw [e]; rfl)
     omega
    have hi : 1 ≤ i := by
     have : -1 ≤ Lib.index s [46] := by
      rcases Lib.index_spec s [46] with ⟨e, _⟩ | ⟨k, e, _⟩ <;> omega
     have : Lib.index s [46] ≠ -1 := fun e => hn (by rw [e]; rfl)
     omega
    obtain ⟨j, rfl⟩ : ∃ j, i = j + 1 := ⟨i - 1, by omega⟩
    simp only [Nat.add_sub_cancel] at h1
    obtain ⟨k1, k2⟩ := splitDot_hit h1
    refine ⟨?_, ?_⟩
    ·simp [splitDot, hc, k1]
    ·simpa [List.count_cons, hc] using k2
theorem splitK_dot : ∀ (k : Nat) (s : Bs), s.count 46 ≤ k → Lib.splitK [46] 0 k s = splitDot s
 | 0, s, h => by rw [splitDot_none (by omega)]; rfl
 | k + 1, s, h => by
  unfold Lib.splitK
  rcases Lib.index_spec s [46] with ⟨e, _⟩ | ⟨i, e, _⟩
  ·rw [if_pos (by rw [e]; rfl), splitDot_none]
   rw [← Lib.count_one, Lib.count_miss e]
  ·rw [if_neg (by rw [e]; simp), e]
   obtain ⟨k1, k2⟩ := splitDot_hit e
   rw [k1]
   simp only [Int.toNat_natCast, Nat.add_zero, List.length_singleton]
   rw [splitK_dot k _ (by omega)]

def strs (l : List Bs) : List (List AV) := l.map fun x => [.str x]
theorem strs_get (l : List Bs) (i : Nat) : (strs l)[i]? = (l[i]?).map fun x => [.str x] := by simp [strs]
theorem strs_len (l : List Bs) : (strs l).length = l.length := by simp [strs]

theorem lib_Split (s : Bs) (h : s.length < 4294967281) : PCall P 133 [.str s, .str [46]] (.sl (strs (splitDot s))) := by
 unfold PCall
 refine ⟨fn133.callable, fun M0 w vs hM hG hv => ?_⟩
 obtain ⟨m, hm⟩ := hG _ rfl
 obtain ⟨hl, hv⟩ := hv
 obtain ⟨v0, v1, rfl⟩ : ∃ v0 v1, vs = [v0, v1] := by
  match vs, hl with
  | [a, b], _ => exact ⟨a, b, rfl⟩
 have e0 := (hv 0 _ rfl).str_inv
 have e1 := (hv 1 _ rfl).str_inv
 simp at e0 e1
 subst e0 e1
 have hs : (⟨s.toArray⟩ : ByteArray).size < 4294967281 := by rw [bs_size]; exact h
 refine (Tryz.strings_Split ⟨s.toArray⟩ ⟨#[46]⟩ m w hs hm.2 (by decide)).mono ?_
 rintro e w' ⟨rfl, rfl⟩
 have hk : (Lib.splitB ⟨#[46]⟩ 0 (Lib.countB ⟨s.toArray⟩ ⟨#[46]⟩) ⟨s.toArray⟩).map (·.data.toList) = splitDot s := by
  rw [Lib.splitB_data]
  exact splitK_dot _ _ (by show _ ≤ Lib.count s [46]; rw [Lib.count_one]; exact Nat.le_refl _)
 generalize hx : Lib.splitB ⟨#[46]⟩ 0 (Lib.countB ⟨s.toArray⟩ ⟨#[46]⟩) ⟨s.toArray⟩ = xs at hk ⊢
 have hlen : xs.length = Lib.countB ⟨s.toArray⟩ ⟨#[46]⟩ + 1 := by rw [← hx]; exact Lib.splitB_all _ (by decide) 0 _ _ rfl
 have hlen' : xs.length = (splitDot s).length := by rw [← hk]; simp
 have hcnt : Lib.countB ⟨s.toArray⟩ ⟨#[46]⟩ ≤ s.length + 1 := Lib.count_le _ _
 refine ⟨_, rfl, (Below.refl _ w).alloc (Nat.le_refl _) _, ?_⟩
 have e : Lib.countB ⟨s.toArray⟩ ⟨#[46]⟩ + 1 = (strs (splitDot s)).length := by rw [strs_len, ← hlen', hlen]
 rw [e]
 refine .sl _ _ _ _ 1 (fun i _ => ((xs.map Value.string).toArray).getD i undef) (Nat.le_refl _) (by rw [← e]; omega) (fun c hc => ?_) (fun i j c x hc hx' => ?_) (fun i j hi hj => ?_)
 ·obtain ⟨x, _, rfl⟩ := List.mem_map.1 hc
  exact ⟨rfl, rfl⟩
 ·rw [strs_get, Option.map_eq_some_iff] at hc
  obtain ⟨y, hy, rfl⟩ := hc
  have hj : j = 0 := by
   rcases Nat.eq_zero_or_pos j with h | h
   ·exact h
   ·rw [List.getElem?_eq_none (by simp; omega)] at hx'; cases hx'
  subst hj
  simp at hx'
  subst hx'
  have hy2 : (xs.map (·.data.toList))[i]? = some y := by rw [hk]; exact hy
  rw [List.getElem?_map, Option.map_eq_some_iff] at hy2
  obtain ⟨b, hb, rfl⟩ := hy2
  have : ((xs.map Value.string).toArray).getD i undef = .string b := by simp [hb]
  rw [this]
  exact .str _ _
 ·have hj0 : j = 0 := by omega
  subst hj0
  have hi' : i < xs.length := by rw [strs_len, ← hlen'] at hi; exact hi
  refine ⟨fun hx => ?_, ?_⟩
  ·rw [Addr.add_lit] at hx
   have := hM _ hx
   exact absurd this (Nat.lt_irrefl _)
  ·rw [Addr.add_lit]
   have := getD_cell (heap_alloc w (.cells (xs.map Value.string).toArray 9)) (j := i) (by simpa using hi')
   simpa using this

end Go.Proofs.YtnajpmepcffnaaaGreatDoor
end

section
/- label: what its functions compute. -/
namespace Go.Proofs.YtnajpmepcffnaaaGreatDoor
open Go.Ve

def okByte (c : Int) : Prop := (97 ≤ c ∧ c ≤ 122) ∨ (48 ≤ c ∧ c ≤ 57) ∨ c = 95
instance (c : Int) : Decidable (okByte c) := by unfold okByte; exact inferInstance
theorem isByte_ok (c : Int) : PCall P 145 [.int .u8 c] (.bool (decide (okByte c))) := by
 refine PCall.of_awp tok mixed fn145 (Nat.le_of_ble_eq_true rfl) ?_
 conv => whnf
 repeat' ((with_reducible first | refine Box.mk ?_ | refine And.intro (fun _ => ?_) (fun _ => ?_) | fail) <;> conv => whnf)
 all_goals (show AV.bool _ = AV.bool _; congr 1)
 all_goals first | exact (decide_eq_true (by unfold okByte; omega)).symm | exact (decide_eq_false (by unfold okByte; omega)).symm

def isLabel (s : Bs) : Bool := s.all (fun c => decide (okByte c.toNat)) && decide (1 ≤ s.length ∧ s.length ≤ 16)
theorem isLabel_ok (s : Bs) (h : s.length ≤ 9223372036854775807) : PCall P 135 [.str s] (.bool (isLabel s)) := by
 refine PCall.of_awp tok mixed fn135 (Nat.le_of_ble_eq_true rfl) ?_
 conv => whnf
 repeat' ((with_reducible refine Box.mk ?_) <;> conv => whnf)
 refine ⟨h, ?_⟩
 conv => whnf
 repeat' ((with_reducible refine Box.mk ?_) <;> conv => whnf)
 refine aloop (fun i => i ≤ s.length ∧ ∀ j (c : UInt8), j < i → s[j]? = some c → okByte c.toNat) (fun i : Nat => ⟨envL [(0, .str s), (6, .sl (s.map byteCell)), (7, .int .i64 s.length), (8, .int .i64 i)], []⟩)
  (fun i => s.length - i) 0 ⟨Nat.zero_le _, fun j c h => by omega⟩ (weak_to ⟨rfl, rfl, by show AV.int _ _ = _; simp, rfl, trivial⟩ rfl) ?_
 rintro i ⟨hi, hok⟩
 conv => whnf
 repeat' ((with_reducible first | refine Box.mk ?_ | refine And.intro (fun _ => ?_) (fun _ => ?_) | fail) <;> conv => whnf)
 ·rename_i hlt
  have hlt' : i < s.length := by omega
  refine ⟨by omega, byteCell s[i], by simp [hlt'], rfl, ?_⟩
  conv => whnf
  repeat' ((with_reducible refine Box.mk ?_) <;> conv => whnf)
  refine ACall.of_pure (isByte_ok _) rfl ?_
  cases hb : decide (okByte (s[i].toNat : Int))
  ·(conv => whnf); repeat' ((with_reducible refine Box.mk ?_) <;> conv => whnf)
   refine bool_false ?_
   have : ¬ (∀ c ∈ s, okByte c.toNat) := fun h => of_decide_eq_false hb (h _ (List.getElem_mem hlt'))
   simp [isLabel, this]
  ·(conv => whnf); repeat' ((with_reducible refine Box.mk ?_) <;> conv => whnf)
   refine ⟨i + 1, ⟨hlt', fun j c hj hc => ?_⟩, by omega, weak_to ⟨rfl, rfl, rfl, wrap_nat (m := 1) (by omega), trivial⟩ rfl⟩
   by_cases hji : j = i
   ·subst hji
    rw [List.getElem?_eq_getElem hlt'] at hc
    cases hc
    exact of_decide_eq_true hb
   ·exact hok j c (by omega) hc
 ·have hall : ∀ c ∈ s, okByte c.toNat := fun c hc => by
   obtain ⟨j, hj⟩ := List.getElem?_of_mem hc
   exact hok j c (by have := (List.getElem?_eq_some_iff.1 hj).1; omega) hj
  exact bool_true (by simp [isLabel]; exact ⟨hall, by omega⟩)
 ·exact bool_false (by simp [isLabel]; omega)
 ·exact bool_false (by simp [isLabel]; omega)

theorem no_ok (s : Bs) (h : s.length ≤ 9223372036854775807) : PCall P 134 [.str s] (.bool (!isLabel s)) := by
 refine PCall.of_awp tok mixed fn134 (Nat.le_of_ble_eq_true rfl) ?_
 conv => whnf
 repeat' ((with_reducible refine Box.mk ?_) <;> conv => whnf)
 refine ACall.of_pure (isLabel_ok s h) rfl ?_
 conv => whnf
 repeat' ((with_reducible refine Box.mk ?_) <;> conv => whnf)
 rfl
def idxf (q : Bs → Bool) : Nat → List Bs → Int
 | _, [] => -1
 | k, x :: xs => if q x then (k : Int) else idxf q (k + 1) xs
theorem idxf_hit {q : Bs → Bool} : ∀ {l : List Bs} {k i : Nat} {x : Bs}, l[i]? = some x → q x = true → (∀ j y, j < i → l[j]? = some y → q y = false) → idxf q k l = ((k + i : Nat) : Int)
 | [], k, i, x, h, _, _ => by simp at h
 | y :: l, k, 0, x, h, hq, _ => by simp at h; subst h; simp [idxf, hq]
 | y :: l, k, i + 1, x, h, hq, hn => by
  have h0 := hn 0 y (by omega) rfl
  rw [idxf, if_neg (by simp [h0]), idxf_hit (k := k + 1) (i := i) (by simpa using h) hq (fun j z hj hz => hn (j + 1) z (by omega) (by simpa using hz))]
  congr 1; omega
theorem idxf_miss {q : Bs → Bool} : ∀ {l : List Bs} {k : Nat}, (∀ y ∈ l, q y = false) → idxf q k l = -1
 | [], _, _ => rfl
 | y :: l, k, h => by rw [idxf, if_neg (by simp [h y List.mem_cons_self]), idxf_miss fun z hz => h z (List.mem_cons_of_mem _ hz)]
theorem idxf_any {q : Bs → Bool} : ∀ {l : List Bs} {k : Nat}, decide (0 ≤ idxf q k l) = l.any q
 | [], _ => rfl
 | y :: l, k => by
  rw [idxf, List.any_cons]
  cases hq : q y with
  | true => simp
  | false => simpa using idxf_any (l := l) (k := k + 1)

theorem indexFunc_ok {f : FuncId} {q : Bs → Bool} (l : List Bs) (hf : ∀ s ∈ l, PCall P f [.str s] (.bool (q s))) (hl : l.length ≤ 9223372036854775807) :
  PCall P 146 [.sl (strs l), .fn f []] (.int .i64 (idxf q 0 l)) := by
 refine PCall.of_awp tok mixed fn146 (Nat.le_of_ble_eq_true rfl) ?_
 conv => whnf
 repeat' ((with_reducible refine Box.mk ?_) <;> conv => whnf)
 refine aloop (fun i => i ≤ l.length ∧ ∀ j x, j < i → l[j]? = some x → q x = false) (fun i : Nat => ⟨envL [(0, .sl (strs l)), (1, .fn f []), (7, .int .i64 l.length), (8, .int .i64 i)], []⟩)
  (fun i => l.length - i) 0 ⟨Nat.zero_le _, fun j c h => by omega⟩ (weak_to ⟨rfl, rfl, by show AV.int _ _ = _; rw [strs_len], rfl, trivial⟩ rfl) ?_
 rintro i ⟨hi, hok⟩
 conv => whnf
 repeat' ((with_reducible first | refine Box.mk ?_ | refine And.intro (fun _ => ?_) (fun _ => ?_) | fail) <;> conv => whnf)
 ·rename_i hlt
  have hlt' : i < l.length := by omega
  refine ⟨by omega, [.str l[i]], ?_, rfl, ?_⟩
  ·show (strs l)[i]? = _
   rw [strs_get, List.getElem?_eq_getElem hlt']; rfl
  conv => whnf
  repeat' ((with_reducible refine Box.mk ?_) <;> conv => whnf)
  refine ACall.of_pure (hf _ (List.getElem_mem hlt')) rfl ?_
  cases hb : q l[i]
  ·(conv => whnf); repeat' ((with_reducible refine Box.mk ?_) <;> conv => whnf)
   refine ⟨i + 1, ⟨hlt', fun j c hj hc => ?_⟩, by omega, weak_to ⟨rfl, rfl, rfl, wrap_nat (m := 1) (by omega), trivial⟩ rfl⟩
   by_cases hji : j = i
   ·subst hji
    rw [List.getElem?_eq_getElem hlt'] at hc
    cases hc
    exact hb
   ·exact hok j c (by omega) hc
  ·(conv => whnf); repeat' ((with_reducible refine Box.mk ?_) <;> conv => whnf)
   show AV.int .i64 _ = AV.int .i64 _
   rw [idxf_hit (List.getElem?_eq_getElem hlt') hb hok, Nat.zero_add]
 ·show AV.int .i64 _ = AV.int .i64 _
  rw [idxf_miss]
  intro y hy
  obtain ⟨j, hj⟩ := List.getElem?_of_mem hy
  exact hok j y (by have := (List.getElem?_eq_some_iff.1 hj).1; omega) hj

theorem containsFunc_ok {f : FuncId} {q : Bs → Bool} (l : List Bs) (hf : ∀ s ∈ l, PCall P f [.str s] (.bool (q s))) (hl : l.length ≤ 9223372036854775807) :
  PCall P 136 [.sl (strs l), .fn f []] (.bool (l.any q)) := by
 refine PCall.of_awp tok mixed fn136 (Nat.le_of_ble_eq_true rfl) ?_
 conv => whnf
 repeat' ((with_reducible refine Box.mk ?_) <;> conv => whnf)
 refine ACall.of_pure (indexFunc_ok l hf hl) rfl ?_
 conv => whnf
 repeat' ((with_reducible first | refine Box.mk ?_ | refine And.intro (fun _ => ?_) (fun _ => ?_) | fail) <;> conv => whnf)
 ·exact bool_true (by rw [← idxf_any (k := 0)]; exact decide_eq_true (by assumption))
 ·exact bool_false (by rw [← idxf_any (k := 0)]; exact decide_eq_false (by assumption))

def okPath (p : Bs) : Bool := p.isEmpty || (decide ((splitDot p).length ≤ 8) && (splitDot p).all isLabel)
def labs (p : Bs) : List Bs := bif !p.isEmpty && okPath p then splitDot p else []
def pathV (p : Bs) : AV := bif !p.isEmpty && okPath p then .sl (strs (splitDot p)) else .nils
theorem path_cases (p : Bs) : (pathV p = .nils ∧ labs p = []) ∨ (pathV p = .sl (strs (labs p)) ∧ labs p = splitDot p ∧ p ≠ [] ∧ okPath p = true) := by
 unfold pathV labs
 cases h : !p.isEmpty && okPath p with
 | false => exact .inl ⟨rfl, rfl⟩
 | true =>
  rw [Bool.and_eq_true] at h
  exact .inr ⟨rfl, rfl, fun e => by subst e; simp at h, h.2⟩

theorem splitDot_len : ∀ (s : Bs), (splitDot s).length ≤ s.length + 1 ∧ ∀ x ∈ splitDot s, x.length ≤ s.length
 | [] => by simp [splitDot]
 | c :: s => by
  obtain ⟨h1, h2⟩ := splitDot_len s
  simp only [splitDot]
  split
  ·refine ⟨by simp; omega, fun x hx => ?_⟩
   rcases List.mem_cons.1 hx with rfl | hx
   ·simp
   ·have := h2 x hx; simp; omega
  ·split
   ·simp
   ·rename_i x xs e
    rw [e] at h1 h2
    refine ⟨by simp at h1 ⊢; omega, fun y hy => ?_⟩
    rcases List.mem_cons.1 hy with rfl | hy
    ·have := h2 x List.mem_cons_self; simp; omega
    ·have := h2 y (List.mem_cons_of_mem _ hy); simp; omega

theorem split_ok (p : Bs) (h : p.length < 4294967281) : PCall P 120 [.str p] (.tup [pathV p, .bool (okPath p)]) := by
 obtain ⟨hlen, hx⟩ := splitDot_len p
 refine PCall.of_awp tok mixed fn120 (Nat.le_of_ble_eq_true rfl) ?_
 conv => whnf
 repeat' ((with_reducible first | refine Box.mk ?_ | refine And.intro (fun _ => ?_) (fun _ => ?_) | fail) <;> conv => whnf)
 ·rename_i e
  have e : p = [] := e
  subst e
  rfl
 ·rename_i e
  have e : p ≠ [] := e
  have hp : p.isEmpty = false := by cases p with | nil => exact absurd rfl e | cons => rfl
  refine ACall.of_pure (lib_Split p h) rfl ?_
  conv => whnf
  repeat' ((with_reducible first | refine Box.mk ?_ | refine And.intro (fun _ => ?_) (fun _ => ?_) | fail) <;> conv => whnf)
  ·rename_i h8
   have h8 : (8 : Int) < ((strs (splitDot p)).length : Int) := h8
   rw [strs_len] at h8
   have : okPath p = false := by simp [okPath, hp]; intro; omega
   show AV.tup _ = AV.tup _
   simp [pathV, this]
  ·rename_i h8
   have h8 : ¬ (8 : Int) < ((strs (splitDot p)).length : Int) := h8
   rw [strs_len] at h8
   refine ACall.of_pure (containsFunc_ok (splitDot p) (fun s hs => no_ok s (by have := hx s hs; omega)) (by omega)) rfl ?_
   cases hb : (splitDot p).any fun s => !isLabel s
   ·have : okPath p = true := by
     have : ∀ x ∈ splitDot p, isLabel x = true := by simpa using hb
     simp [okPath, hp]
     exact ⟨by omega, this⟩
    (conv => whnf); repeat' ((with_reducible refine Box.mk ?_) <;> conv => whnf)
    show AV.tup _ = AV.tup _
    simp [pathV, this, hp]
   ·have : okPath p = false := by
     have : ∃ x ∈ splitDot p, isLabel x = false := by simpa using hb
     simp [okPath, hp]
     exact fun _ => this
    (conv => whnf); repeat' ((with_reducible refine Box.mk ?_) <;> conv => whnf)
    show AV.tup _ = AV.tup _
    simp [pathV, this]

theorem right_ok (p : Bs) (h : p.length < 4294967281) : PCall P 100 [.str p] (.bool (okPath p)) := by
 refine PCall.of_awp tok mixed fn100 (Nat.le_of_ble_eq_true rfl) ?_
 conv => whnf
 repeat' ((with_reducible refine Box.mk ?_) <;> conv => whnf)
 refine ACall.of_pure (split_ok p h) rfl ?_
 rcases path_cases p with ⟨e, _⟩ | ⟨e, _⟩ <;> rw [e]
 all_goals ((conv => whnf); repeat' ((with_reducible refine Box.mk ?_) <;> conv => whnf))
 all_goals rfl

theorem len_ok (p : Bs) (h : p.length < 4294967281) : PCall P 121 [.str p] (.int .i64 (labs p).length) := by
 refine PCall.of_awp tok mixed fn121 (Nat.le_of_ble_eq_true rfl) ?_
 conv => whnf
 repeat' ((with_reducible refine Box.mk ?_) <;> conv => whnf)
 refine ACall.of_pure (split_ok p h) rfl ?_
 rcases path_cases p with ⟨e, e2⟩ | ⟨e, _⟩ <;> rw [e]
 ·(conv => whnf); repeat' ((with_reducible refine Box.mk ?_) <;> conv => whnf)
  rw [e2]; rfl
 ·(conv => whnf); repeat' ((with_reducible refine Box.mk ?_) <;> conv => whnf)
  show AV.int .i64 _ = AV.int .i64 _
  rw [strs_len]
end Go.Proofs.YtnajpmepcffnaaaGreatDoor
end

section
/- label, and the document's answer for it: what they compute. -/
namespace Go.Proofs.YtnajpmepcffnaaaGreatDoor
open Go.Ve

def joinD : List Bs → Bs
 | [] => []
 | [x] => x
 | x :: y :: r => x ++ 46 :: joinD (y :: r)
theorem joinD_split : ∀ (s : Bs), joinD (splitDot s) = s
 | [] => rfl
 | c :: s => by
  have ih := joinD_split s
  have hne := splitDot_ne s
  simp only [splitDot]
  cases hs : splitDot s with
  | nil => exact absurd hs hne
  | cons x xs =>
   rw [hs] at ih
   split
   ·rename_i e
    subst e
    simp [joinD, ih]
   ·cases xs with
    | nil => simp only [joinD] at ih ⊢; rw [ih]
    | cons y ys => simp only [joinD] at ih ⊢; rw [← ih]; rfl
theorem splitDot_cut : ∀ {s : Bs} {k : Nat}, k ≤ s.length → (∀ (j : Nat) (c : UInt8), j < k → s[j]? = some c → c ≠ 46) →
  (k = s.length → splitDot s = [s]) ∧ (s[k]? = some 46 → splitDot s = s.take k :: splitDot (s.drop (k + 1)))
 | [], k, hk, _ => by
  refine ⟨fun _ => rfl, fun h => by simp at h⟩
 | c :: s, 0, _, _ => by
  refine ⟨fun h => by simp at h, fun h => ?_⟩
  simp at h
  subst h
  simp [splitDot]
 | c :: s, k + 1, hk, hn => by
  have hc : c ≠ 46 := hn 0 c (by omega) rfl
  obtain ⟨h1, h2⟩ := splitDot_cut (s := s) (k := k) (by simpa using hk) (fun j x hj hx => hn (j + 1) x (by omega) (by simpa using hx))
  refine ⟨fun h => ?_, fun h => ?_⟩
  ·simp [splitDot, hc, h1 (by simpa using h)]
  ·simp [splitDot, hc, h2 (by simpa using h)]

theorem labs_len (p : Bs) : (labs p).length ≤ 8 ∧ ∀ x ∈ labs p, x.length ≤ p.length := by
 rcases path_cases p with ⟨_, e⟩ | ⟨_, e, hne, hok⟩
 ·simp [e]
 ·rw [e]
  have hp : p.isEmpty = false := by cases p with | nil => exact absurd rfl hne | cons => rfl
  simp [okPath, hp] at hok
  exact ⟨hok.1, (splitDot_len p).2⟩

theorem refIsLabel_ok (s : Bs) (h : s.length ≤ 9223372036854775807) : PCall P 105 [.str s] (.bool (isLabel s)) := by
  refine PCall.of_awp tok mixed fn105 (Nat.le_of_ble_eq_true rfl) ?_
  conv => whnf
  repeat' ((with_reducible refine Box.mk ?_) <;> conv => whnf)
  refine aloop (fun i => i ≤ s.length ∧ ∀ j (c : UInt8), j < i → s[j]? = some c → okByte c.toNat) (fun i : Nat => ⟨envL [(0, .str s), (3, .int .i64 i)], []⟩)
    (fun i => s.length - i) 0 ⟨Nat.zero_le _, fun j c h => by omega⟩ (weak_to ⟨rfl, rfl, trivial⟩ rfl) ?_
  rintro i ⟨hi, hok⟩
  conv => whnf
  repeat' ((with_reducible first | refine Box.mk ?_ | refine And.intro (fun _ => ?_) (fun _ => ?_) | fail) <;> conv => whnf)
  · rename_i hlt
    have hlt' : i < s.length := by omega
    refine ⟨by omega, s[i], List.getElem?_eq_getElem hlt', ?_⟩
    conv => whnf
    repeat' ((with_reducible first | refine Box.mk ?_ | refine And.intro (fun _ => ?_) (fun _ => ?_) | fail) <;> conv => whnf)
    all_goals first
      | (have hb : okByte (s[i].toNat : Int) := by unfold okByte; omega
         refine ⟨i + 1, ⟨hlt', fun j c hj hc => ?_⟩, by omega, weak_to ⟨rfl, wrap_nat (m := 1) (by omega), trivial⟩ rfl⟩
         by_cases hji : j = i
         · subst hji
           rw [List.getElem?_eq_getElem hlt'] at hc
           cases hc
           exact hb
         · exact hok j c (by omega) hc)
      | (have hb : ¬ okByte (s[i].toNat : Int) := by unfold okByte; omega
         refine bool_false ?_
         have : ¬ (∀ c ∈ s, okByte c.toNat) := fun h => hb (h _ (List.getElem_mem hlt'))
         simp [isLabel, this])
  · have hall : ∀ c ∈ s, okByte c.toNat := fun c hc => by
      obtain ⟨j, hj⟩ := List.getElem?_of_mem hc
      exact hok j c (by have := (List.getElem?_eq_some_iff.1 hj).1; omega) hj
    exact bool_true (by simp [isLabel]; exact ⟨hall, by omega⟩)
  · exact bool_false (by simp [isLabel]; omega)
  · exact bool_false (by simp [isLabel]; omega)

end Go.Proofs.YtnajpmepcffnaaaGreatDoor
end

section
/- label, and the document's answer for it: the splitting by hand. -/
namespace Go.Proofs.YtnajpmepcffnaaaGreatDoor
open Go.Ve

theorem split_step {p : Bs} {f i : Nat} (hfi : f ≤ i) (hi : i ≤ p.length) (hn : ∀ (j : Nat) (c : UInt8), f ≤ j → j < i → p[j]? = some c → c ≠ 46) :
  (p[i]? = some 46 → splitDot (p.drop f) = (p.take i).drop f :: splitDot (p.drop (i + 1))) ∧ (i = p.length → splitDot (p.drop f) = [(p.take i).drop f]) := by
 have hc := splitDot_cut (s := p.drop f) (k := i - f) (by simp; omega) (fun j c hj hx => hn (f + j) c (by omega) (by omega) (by simpa [List.getElem?_drop] using hx))
 have e : (p.drop f).take (i - f) = (p.take i).drop f := by rw [List.drop_take]
 refine ⟨fun h => ?_, fun h => ?_⟩
 ·rw [hc.2 (by rw [List.getElem?_drop, Nat.add_sub_cancel' hfi]; exact h), e, List.drop_drop]
  congr 3; omega
 ·rw [hc.1 (by simp; omega)]
  have : (p.take i).drop f = p.drop f := by rw [List.take_of_length_le (by omega)]
  rw [this]

theorem okPath_false {p : Bs} (hp : p ≠ []) (h : (∃ x ∈ splitDot p, isLabel x = false) ∨ 8 < (splitDot p).length) : okPath p = false ∧ pathV p = .nils := by
 have hp' : p.isEmpty = false := by cases p with | nil => exact absurd rfl hp | cons => rfl
 have : okPath p = false := by
  simp only [okPath, hp', Bool.false_or, Bool.and_eq_false_iff, decide_eq_false_iff_not, List.all_eq_false]
  rcases h with ⟨x, h1, h2⟩ | h
  ·exact .inr ⟨x, h1, by simp [h2]⟩
  ·exact .inl (by omega)
 exact ⟨this, by simp [pathV, this]⟩
theorem okPath_true {p : Bs} (hp : p ≠ []) (h : ∀ x ∈ splitDot p, isLabel x = true) (h' : (splitDot p).length ≤ 8) : okPath p = true ∧ pathV p = .sl (strs (splitDot p)) := by
 have hp' : p.isEmpty = false := by cases p with | nil => exact absurd rfl hp | cons => rfl
 have : okPath p = true := by
  simp only [okPath, hp', Bool.false_or, Bool.and_eq_true, decide_eq_true_eq, List.all_eq_true]
  exact ⟨h', h⟩
 exact ⟨this, by simp [pathV, this, hp']⟩

def lv : List Bs → AV
 | [] => .nils
 | _ :: _ => .own 0
def lh : List Bs → Hp
 | [] => []
 | x :: l => [.row 9 1 (strs (x :: l))]

structure SInv (p : Bs) (i f : Nat) (l : List Bs) : Prop where
 bd : i ≤ p.length + 1
 len : l.length ≤ 8
 lab : ∀ x ∈ l, isLabel x = true
 mid : i ≤ p.length → f ≤ i ∧ (∀ (j : Nat) (c : UInt8), f ≤ j → j < i → p[j]? = some c → c ≠ 46) ∧ splitDot p = l ++ splitDot (p.drop f)
 fin : i = p.length + 1 → splitDot p = l

theorem SInv.go {p : Bs} {i f : Nat} {l : List Bs} (h : SInv p i f l) (hi : i < p.length) (hc : p[i] ≠ 46) : SInv p (i + 1) f l := by
 obtain ⟨h1, h2, h3⟩ := h.mid (by omega)
 refine ⟨by omega, h.len, h.lab, fun _ => ⟨by omega, fun j c hj hj' hx => ?_, h3⟩, fun e => by omega⟩
 by_cases hji : j = i
 ·subst hji
  rw [List.getElem?_eq_getElem hi] at hx
  rw [← Option.some.inj hx]; exact hc
 ·exact h2 j c hj (by omega) hx
theorem SInv.piece {p : Bs} {i f : Nat} {l : List Bs} (h : SInv p i f l) (hi : i ≤ p.length) (hc : ∀ h : i < p.length, p[i] = 46) : f ≤ i ∧ ∃ r, splitDot p = l ++ (p.take i).drop f :: r := by
 obtain ⟨h1, h2, h3⟩ := h.mid hi
 obtain ⟨k1, k2⟩ := split_step h1 hi h2
 refine ⟨h1, ?_⟩
 by_cases hlt : i < p.length
 ·exact ⟨_, by rw [h3, k1 (by rw [List.getElem?_eq_getElem hlt, hc hlt])]⟩
 ·exact ⟨[], by rw [h3, k2 (by omega)]⟩
theorem SInv.next {p : Bs} {i f : Nat} {l : List Bs} (h : SInv p i f l) (hi : i ≤ p.length) (hc : ∀ h : i < p.length, p[i] = 46) (hl : isLabel ((p.take i).drop f) = true) (h8 : l.length < 8) : SInv p (i + 1) (i + 1) (l ++ [(p.take i).drop f]) := by
 obtain ⟨h1, h2, h3⟩ := h.mid hi
 obtain ⟨k1, k2⟩ := split_step h1 hi h2
 refine ⟨by omega, by simp; omega, fun x hx => ?_, fun hlt => ⟨Nat.le_refl _, fun j c hj hj' => by omega, ?_⟩, fun e => ?_⟩
 ·rcases List.mem_append.1 hx with hx | hx
  ·exact h.lab x hx
  ·rw [List.mem_singleton.1 hx]; exact hl
 ·rw [h3, k1 (by rw [List.getElem?_eq_getElem (by omega), hc (by omega)])]; simp
 ·rw [h3, k2 (by omega)]

theorem refSplit_ok (p : Bs) (h : p.length < 4294967281) : PCall P 86 [.str p] (.tup [pathV p, .bool (okPath p)]) := by
 refine PCall.of_awp tok mixed fn86 (Nat.le_of_ble_eq_true rfl) ?_
 conv => whnf
 repeat' ((with_reducible refine Box.mk ?_) <;> conv => whnf)
 refine aloop (fun x : Nat × Nat × List Bs => SInv p x.1 x.2.1 x.2.2) (fun x => match x with | (i, f, l) => ⟨envL [(0, .str p), (4, lv l), (5, .int .i64 f), (6, .int .i64 i)], lh l⟩)
  (fun x => p.length + 1 - x.1) (0, 0, []) ⟨by simp, by simp, by simp, fun _ => ⟨Nat.le_refl _, fun j c _ hj => by simp at hj, rfl⟩, fun e => by simp at e⟩ (weak_to ⟨rfl, rfl, rfl, rfl, trivial⟩ rfl) ?_
 rintro ⟨i, f, l⟩ (hI : SInv p i f l)
 have hi1 := hI.bd
 have h8 := hI.len
 rcases l with _ | ⟨x, l⟩
 ·(conv => whnf); (repeat' ((with_reducible first | refine Box.mk ?_ | refine And.intro (fun _ => ?_) (fun _ => ?_) | fail) <;> conv => whnf))
  ·rename_i h1 h2 h3
   have hlt : i < p.length := by omega
   refine ⟨by omega, p[i], List.getElem?_eq_getElem hlt, ?_⟩
   conv => whnf
   repeat' ((with_reducible first | refine Box.mk ?_ | refine And.intro (fun _ => ?_) (fun _ => ?_) | fail) <;> conv => whnf)
   ·rename_i h4
    have hc : ∀ h : i < p.length, p[i] = 46 := fun _ => by
     apply UInt8.toNat_inj.1
     exact_mod_cast h4
    obtain ⟨hf, r, hr⟩ := hI.piece (by omega) hc
    have hne : p ≠ [] := by intro e; subst e; simp at *
    refine ⟨by omega, by omega, by omega, by show (f : Int) ≤ (i : Int); omega, ?_⟩
    conv => whnf
    repeat' ((with_reducible refine Box.mk ?_) <;> conv => whnf)
    have hpl : ((p.take i).drop f).length ≤ p.length := by simp; omega
    refine ACall.of_pure (refIsLabel_ok ((p.take i).drop f) (by omega)) rfl ?_
    cases hb : isLabel ((p.take i).drop f)
    ·(conv => whnf); repeat' ((with_reducible refine Box.mk ?_) <;> conv => whnf)
     obtain ⟨b1, b2⟩ := okPath_false hne (.inl ⟨_, by rw [hr]; simp, hb⟩)
     refine res_eq ?_
     rw [b1, b2]; rfl
    ·(conv => whnf); (repeat' ((with_reducible first | refine Box.mk ?_ | refine And.intro (fun _ => ?_) (fun _ => ?_) | fail) <;> conv => whnf))
     all_goals first
      | (exact absurd ‹(8 : Int) ≤ 0› (by decide))
      | (rename_i h9; have h9 : (8 : Int) ≤ ((strs (x :: l)).length : Int) := h9; rw [strs_len] at h9; obtain ⟨b1, b2⟩ := okPath_false hne (.inr (by rw [hr]; simp at h9 ⊢; omega)); refine res_eq ?_; rw [b1, b2]; rfl)
      | skip
     refine ⟨by omega, by omega, by omega, by show (f : Int) ≤ (i : Int); omega, ?_⟩
     conv => whnf
     repeat' ((with_reducible refine Box.mk ?_) <;> conv => whnf)
     refine ⟨fun c hc => by rw [List.mem_singleton.1 hc]; exact ⟨rfl, rfl⟩, fun e => absurd e (by simp), fun _ => ⟨Nat.le_of_ble_eq_true rfl, Nat.le_of_ble_eq_true rfl, ?_⟩⟩
     conv => whnf
     repeat' ((with_reducible refine Box.mk ?_) <;> conv => whnf)
     refine ⟨(i + 1, i + 1, [] ++ [(p.take i).drop f]), hI.next (by omega) hc hb (by simp), by show p.length + 1 - (i + 1) < p.length + 1 - i; omega, weak_ren_to [(1, true)] rfl rfl rfl ⟨rfl, rfl, wrap_nat (m := 1) (by omega), wrap_nat (m := 1) (by omega), trivial⟩⟩
   ·rename_i h4
    have hc : p[i] ≠ 46 := fun e => h4 (by rw [e]; rfl)
    exact ⟨(i + 1, f, []), hI.go hlt hc, by show p.length + 1 - (i + 1) < p.length + 1 - i; omega, weak_to ⟨rfl, rfl, rfl, wrap_nat (m := 1) (by omega), trivial⟩ rfl⟩
  ·rename_i h1 h2 h3
   have hc : ∀ h : i < p.length, p[i] = 46 := fun h => by omega
   obtain ⟨hf, r, hr⟩ := hI.piece (by omega) hc
   have hne : p ≠ [] := by intro e; subst e; simp at *
   refine ⟨by omega, by omega, by omega, by show (f : Int) ≤ (i : Int); omega, ?_⟩
   conv => whnf
   repeat' ((with_reducible refine Box.mk ?_) <;> conv => whnf)
   have hpl : ((p.take i).drop f).length ≤ p.length := by simp; omega
   refine ACall.of_pure (refIsLabel_ok ((p.take i).drop f) (by omega)) rfl ?_
   cases hb : isLabel ((p.take i).drop f)
   ·(conv => whnf); repeat' ((with_reducible refine Box.mk ?_) <;> conv => whnf)
    obtain ⟨b1, b2⟩ := okPath_false hne (.inl ⟨_, by rw [hr]; simp, hb⟩)
    refine res_eq ?_
    rw [b1, b2]; rfl
   ·(conv => whnf); (repeat' ((with_reducible first | refine Box.mk ?_ | refine And.intro (fun _ => ?_) (fun _ => ?_) | fail) <;> conv => whnf))
    all_goals first
     | (exact absurd ‹(8 : Int) ≤ 0› (by decide))
     | (rename_i h9; have h9 : (8 : Int) ≤ ((strs (x :: l)).length : Int) := h9; rw [strs_len] at h9; obtain ⟨b1, b2⟩ := okPath_false hne (.inr (by rw [hr]; simp at h9 ⊢; omega)); refine res_eq ?_; rw [b1, b2]; rfl)
     | skip
    refine ⟨by omega, by omega, by omega, by show (f : Int) ≤ (i : Int); omega, ?_⟩
    conv => whnf
    repeat' ((with_reducible refine Box.mk ?_) <;> conv => whnf)
    refine ⟨fun c hc => by rw [List.mem_singleton.1 hc]; exact ⟨rfl, rfl⟩, fun e => absurd e (by simp), fun _ => ⟨Nat.le_of_ble_eq_true rfl, Nat.le_of_ble_eq_true rfl, ?_⟩⟩
    conv => whnf
    repeat' ((with_reducible refine Box.mk ?_) <;> conv => whnf)
    refine ⟨(i + 1, i + 1, [] ++ [(p.take i).drop f]), hI.next (by omega) hc hb (by simp), by show p.length + 1 - (i + 1) < p.length + 1 - i; omega, weak_ren_to [(1, true)] rfl rfl rfl ⟨rfl, rfl, wrap_nat (m := 1) (by omega), wrap_nat (m := 1) (by omega), trivial⟩⟩
  ·rename_i h1 h2
   have hp : p = [] := List.length_eq_zero_iff.1 (by omega)
   subst hp
   have h3 := (hI.mid (by simpa using h1)).2.2
   rfl
  ·rename_i h1
   have h2 := hI.fin (by omega)
   have hne : p ≠ [] := by
    intro e
    subst e
    have h3 := hI.lab [] (by rw [← h2]; simp [splitDot])
    simp [isLabel] at h3
   exact absurd h2 (splitDot_ne p)
 ·(conv => whnf); (repeat' ((with_reducible first | refine Box.mk ?_ | refine And.intro (fun _ => ?_) (fun _ => ?_) | fail) <;> conv => whnf))
  ·rename_i h1 h2 h3
   have hlt : i < p.length := by omega
   refine ⟨by omega, p[i], List.getElem?_eq_getElem hlt, ?_⟩
   conv => whnf
   repeat' ((with_reducible first | refine Box.mk ?_ | refine And.intro (fun _ => ?_) (fun _ => ?_) | fail) <;> conv => whnf)
   ·rename_i h4
    have hc : ∀ h : i < p.length, p[i] = 46 := fun _ => by
     apply UInt8.toNat_inj.1
     exact_mod_cast h4
    obtain ⟨hf, r, hr⟩ := hI.piece (by omega) hc
    have hne : p ≠ [] := by intro e; subst e; simp at *
    refine ⟨by omega, by omega, by omega, by show (f : Int) ≤ (i : Int); omega, ?_⟩
    conv => whnf
    repeat' ((with_reducible refine Box.mk ?_) <;> conv => whnf)
    have hpl : ((p.take i).drop f).length ≤ p.length := by simp; omega
    refine ACall.of_pure (refIsLabel_ok ((p.take i).drop f) (by omega)) rfl ?_
    cases hb : isLabel ((p.take i).drop f)
    ·(conv => whnf); repeat' ((with_reducible refine Box.mk ?_) <;> conv => whnf)
     obtain ⟨b1, b2⟩ := okPath_false hne (.inl ⟨_, by rw [hr]; simp, hb⟩)
     refine res_eq ?_
     rw [b1, b2]; rfl
    ·(conv => whnf); (repeat' ((with_reducible first | refine Box.mk ?_ | refine And.intro (fun _ => ?_) (fun _ => ?_) | fail) <;> conv => whnf))
     all_goals first
      | (exact absurd ‹(8 : Int) ≤ 0› (by decide))
      | (rename_i h9; have h9 : (8 : Int) ≤ ((strs (x :: l)).length : Int) := h9; rw [strs_len] at h9; obtain ⟨b1, b2⟩ := okPath_false hne (.inr (by rw [hr]; simp at h9 ⊢; omega)); refine res_eq ?_; rw [b1, b2]; rfl)
      | skip
     refine ⟨by omega, by omega, by omega, by show (f : Int) ≤ (i : Int); omega, ?_⟩
     conv => whnf
     repeat' ((with_reducible refine Box.mk ?_) <;> conv => whnf)
     have h10 : (x :: l).length < 8 := by
      rename_i h9
      have h9 : ¬ (8 : Int) ≤ ((strs (x :: l)).length : Int) := h9
      rw [strs_len] at h9
      omega
     refine ⟨fun c hc => by rw [List.mem_singleton.1 hc]; exact ⟨rfl, rfl⟩, by show ((strs (x :: l)).length + 1) * 16 ≤ _; rw [strs_len]; omega, by show (strs (x :: l)).length + 1 ≤ _; rw [strs_len]; omega, ?_⟩
     conv => whnf
     repeat' ((with_reducible refine Box.mk ?_) <;> conv => whnf)
     refine ⟨(i + 1, i + 1, (x :: l) ++ [(p.take i).drop f]), hI.next (by omega) hc hb h10, by show p.length + 1 - (i + 1) < p.length + 1 - i; omega, weak_ren_to [(2, true)] rfl rfl ?_ ⟨rfl, rfl, wrap_nat (m := 1) (by omega), wrap_nat (m := 1) (by omega), trivial⟩⟩
     show [Ob.row 9 1 (strs (x :: l) ++ [[.str ((p.take i).drop f)]])] = [Ob.row 9 1 (strs (x :: (l ++ [(p.take i).drop f])))]
     simp [strs]
   ·rename_i h4
    have hc : p[i] ≠ 46 := fun e => h4 (by rw [e]; rfl)
    exact ⟨(i + 1, f, x :: l), hI.go hlt hc, by show p.length + 1 - (i + 1) < p.length + 1 - i; omega, weak_to ⟨rfl, rfl, rfl, wrap_nat (m := 1) (by omega), trivial⟩ rfl⟩
  ·rename_i h1 h2 h3
   have hc : ∀ h : i < p.length, p[i] = 46 := fun h => by omega
   obtain ⟨hf, r, hr⟩ := hI.piece (by omega) hc
   have hne : p ≠ [] := by intro e; subst e; simp at *
   refine ⟨by omega, by omega, by omega, by show (f : Int) ≤ (i : Int); omega, ?_⟩
   conv => whnf
   repeat' ((with_reducible refine Box.mk ?_) <;> conv => whnf)
   have hpl : ((p.take i).drop f).length ≤ p.length := by simp; omega
   refine ACall.of_pure (refIsLabel_ok ((p.take i).drop f) (by omega)) rfl ?_
   cases hb : isLabel ((p.take i).drop f)
   ·(conv => whnf); repeat' ((with_reducible refine Box.mk ?_) <;> conv => whnf)
    obtain ⟨b1, b2⟩ := okPath_false hne (.inl ⟨_, by rw [hr]; simp, hb⟩)
    refine res_eq ?_
    rw [b1, b2]; rfl
   ·(conv => whnf); (repeat' ((with_reducible first | refine Box.mk ?_ | refine And.intro (fun _ => ?_) (fun _ => ?_) | fail) <;> conv => whnf))
    all_goals first
     | (exact absurd ‹(8 : Int) ≤ 0› (by decide))
     | (rename_i h9; have h9 : (8 : Int) ≤ ((strs (x :: l)).length : Int) := h9; rw [strs_len] at h9; obtain ⟨b1, b2⟩ := okPath_false hne (.inr (by rw [hr]; simp at h9 ⊢; omega)); refine res_eq ?_; rw [b1, b2]; rfl)
     | skip
    refine ⟨by omega, by omega, by omega, by show (f : Int) ≤ (i : Int); omega, ?_⟩
    conv => whnf
    repeat' ((with_reducible refine Box.mk ?_) <;> conv => whnf)
    have h10 : (x :: l).length < 8 := by
     rename_i h9
     have h9 : ¬ (8 : Int) ≤ ((strs (x :: l)).length : Int) := h9
     rw [strs_len] at h9
     omega
    refine ⟨fun c hc => by rw [List.mem_singleton.1 hc]; exact ⟨rfl, rfl⟩, by show ((strs (x :: l)).length + 1) * 16 ≤ _; rw [strs_len]; omega, by show (strs (x :: l)).length + 1 ≤ _; rw [strs_len]; omega, ?_⟩
    conv => whnf
    repeat' ((with_reducible refine Box.mk ?_) <;> conv => whnf)
    refine ⟨(i + 1, i + 1, (x :: l) ++ [(p.take i).drop f]), hI.next (by omega) hc hb h10, by show p.length + 1 - (i + 1) < p.length + 1 - i; omega, weak_ren_to [(2, true)] rfl rfl ?_ ⟨rfl, rfl, wrap_nat (m := 1) (by omega), wrap_nat (m := 1) (by omega), trivial⟩⟩
    show [Ob.row 9 1 (strs (x :: l) ++ [[.str ((p.take i).drop f)]])] = [Ob.row 9 1 (strs (x :: (l ++ [(p.take i).drop f])))]
    simp [strs]
  ·rename_i h1 h2
   have hp : p = [] := List.length_eq_zero_iff.1 (by omega)
   subst hp
   have h3 := (hI.mid (by simpa using h1)).2.2
   exact absurd (congrArg List.length h3) (by simp [splitDot])
  ·rename_i h1
   have h2 := hI.fin (by omega)
   have hne : p ≠ [] := by
    intro e
    subst e
    have h3 := hI.lab [] (by rw [← h2]; simp [splitDot])
    simp [isLabel] at h3
   obtain ⟨b1, b2⟩ := okPath_true hne (by rw [h2]; exact hI.lab) (by rw [h2]; exact h8)
   refine res_eq ?_
   rw [b1, b2, h2]; rfl
end Go.Proofs.YtnajpmepcffnaaaGreatDoor
end

section
/- label, the document's answer: tops, what is alike; the statements' own helpers. -/
namespace Go.Proofs.YtnajpmepcffnaaaGreatDoor
open Go.Ve

end Go.Proofs.YtnajpmepcffnaaaGreatDoor
end

section
/- label: the statements' walk. -/
namespace Go.Proofs.YtnajpmepcffnaaaGreatDoor
open Go.Ve

theorem pEq {f : FuncId} {args : List AV} {r r' : AV} (h : PCall P f args r) (e : r = r') : PCall P f args r' := e ▸ h

end Go.Proofs.YtnajpmepcffnaaaGreatDoor
end

section
/- key: what its functions compute. -/
namespace Go.Proofs.YtnajpmepcffnaaaGreatDoor
open Go.Ve

structure Ky where
 kind : Int
 len : Int
 n : Nat
 path : Bs
 deriving DecidableEq
def kv (k : Ky) : AV := .agg [.int .i64 k.kind, .int .i64 k.len, .int .u64 ((k.n / H64 : Nat) : Int), .int .u64 ((k.n % H64 : Nat) : Int), .str k.path]
def widthK (kind : Int) : Int := if kind = 1 then 32 else if kind = 2 then 128 else if kind = 3 then 8 else 0
def ofBitsK (kind n : Int) (N : Nat) : Ky := ⟨kind, n, topN N (min n 128).toNat, []⟩
theorem ofBits_ok (kind n : Int) (N : Nat) (hN : N < 2 ^ 128) : PCall P 98 [.int .i64 kind, .int .i64 n, wv N] (kv (ofBitsK kind n N)) := by
 refine PCall.of_awp tok mixed fn98 (Nat.le_of_ble_eq_true rfl) ?_
 conv => whnf
 repeat' ((with_reducible refine Box.mk ?_) <;> conv => whnf)
 refine ACall.of_pure (top_ok' N hN n) rfl ?_
 conv => whnf
 repeat' ((with_reducible refine Box.mk ?_) <;> conv => whnf)
 rfl
def ofPathK (p : Bs) : Ky := ⟨3, (labs p).length, 0, p⟩
theorem ofPath_ok (p : Bs) (h : p.length < 4294967281) : PCall P 101 [.str p] (kv (ofPathK p)) := by
 refine PCall.of_awp tok mixed fn101 (Nat.le_of_ble_eq_true rfl) ?_
 conv => whnf
 repeat' ((with_reducible refine Box.mk ?_) <;> conv => whnf)
 refine ACall.of_pure (len_ok p h) rfl ?_
 conv => whnf
 repeat' ((with_reducible refine Box.mk ?_) <;> conv => whnf)
 show AV.agg [_, _, _, _, _] = AV.agg [_, _, _, _, _]
 simp [ofPathK]

def rightK (k : Ky) : Bool :=
 if k.kind = 1 ∨ k.kind = 2 then decide (0 ≤ k.len ∧ k.len ≤ widthK k.kind ∧ k.n = topN k.n (min k.len 128).toNat ∧ k.path = []) else
 if k.kind = 3 then okPath k.path && decide (k.len = ((labs k.path).length : Int) ∧ k.n = 0) else false

end Go.Proofs.YtnajpmepcffnaaaGreatDoor
end

section
/- key: what its functions compute, further. -/
namespace Go.Proofs.YtnajpmepcffnaaaGreatDoor
open Go.Ve

def zeroK : Ky := ⟨0, 0, 0, []⟩
theorem six_ok (N : Nat) (hN : N < 2 ^ 128) : PCall P 148 [wv N] (kv ⟨2, 128, N, []⟩) := by
 have e : ofBitsK 2 128 N = ⟨2, 128, N, []⟩ := by
  have h0 : topN N (min (128 : Int) 128).toNat = N := by
   show N / 2 ^ (128 - 128) * 2 ^ (128 - 128) = N
   simp
  unfold ofBitsK
  rw [h0]
 refine PCall.of_awp tok mixed fn148 (Nat.le_of_ble_eq_true rfl) ?_
 conv => whnf
 repeat' ((with_reducible refine Box.mk ?_) <;> conv => whnf)
 refine ACall.of_pure (ofBits_ok 2 128 N hN) rfl ?_
 conv => whnf
 repeat' ((with_reducible refine Box.mk ?_) <;> conv => whnf)
 rw [← e]; rfl

theorem four_ok (a : Nat) (ha : a < 4294967296) : PCall P 147 [.int .u32 (a : Int)] (kv ⟨1, 32, a * 2 ^ 96, []⟩) := by
 have hw : IntKind.u64.wrap (a : Int) = (a : Int) := wrap_u64 (by omega) (by omega)
 have hl : leftN a 96 = a * 2 ^ 96 := by
  have : a * 2 ^ 96 < 2 ^ 128 := by
   have := Nat.mul_lt_mul_of_pos_right ha (Nat.two_pow_pos 96)
   simpa using this
  unfold leftN
  rw [if_neg (by decide), if_neg (by decide)]
  exact Nat.mod_eq_of_lt this
 have hlt : a * 2 ^ 96 < 2 ^ 128 := by rw [← hl]; exact leftN_lt (by omega) _
 have e : ofBitsK 1 32 (a * 2 ^ 96) = ⟨1, 32, a * 2 ^ 96, []⟩ := by
  have h0 : topN (a * 2 ^ 96) (min (32 : Int) 128).toNat = a * 2 ^ 96 := by
   show a * 2 ^ 96 / 2 ^ 96 * 2 ^ 96 = a * 2 ^ 96
   rw [Nat.mul_div_cancel _ (Nat.two_pow_pos 96)]
  unfold ofBitsK
  rw [h0]
 have c1 := of_ok a (Nat.lt_trans ha (by decide))
 have c2 := pEq (left_ok a 96) (congrArg wv hl)
 have c3 := ofBits_ok 1 32 (a * 2 ^ 96) hlt
 rw [e] at c3
 refine PCall.of_awp tok mixed fn147 (Nat.le_of_ble_eq_true rfl) ?_
 conv => whnf
 repeat' ((with_reducible refine Box.mk ?_) <;> conv => whnf)
 refine ACall.of_pure (args := [.int .u64 (IntKind.u64.wrap (a : Int))]) (by rw [hw]; exact c1) rfl ?_
 conv => whnf
 repeat' ((with_reducible refine Box.mk ?_) <;> conv => whnf)
 refine ACall.of_pure c2 rfl ?_
 conv => whnf
 repeat' ((with_reducible refine Box.mk ?_) <;> conv => whnf)
 refine ACall.of_pure c3 rfl ?_
 conv => whnf
 repeat' ((with_reducible refine Box.mk ?_) <;> conv => whnf)
 rfl

def cutK (k : Ky) (n : Int) : Ky := if k.kind = 3 then ofPathK (joinD ((labs k.path).take (min (max n 0) k.len).toNat)) else ofBitsK k.kind (min (max n 0) k.len) k.n
def cutU (k : Ky) (n : Int) : Ky := bif rightK k then cutK k n else zeroK
theorem path_ok (p : Bs) (hp : p.length < 4294967281) : PCall P 150 [.str p] (.tup [kv (bif okPath p then ofPathK p else zeroK), .int .i64 (bif okPath p then 0 else 3)]) := by
 refine PCall.of_awp tok mixed fn150 (Nat.le_of_ble_eq_true rfl) ?_
 conv => whnf
 repeat' ((with_reducible refine Box.mk ?_) <;> conv => whnf)
 refine ACall.of_pure (right_ok p hp) rfl ?_
 cases hb : okPath p
 ·(conv => whnf); repeat' ((with_reducible refine Box.mk ?_) <;> conv => whnf)
  show AV.tup [AV.agg [_, _, _, _, _], _] = AV.tup [AV.agg [_, _, _, _, _], _]
  simp [zeroK]
 ·(conv => whnf); repeat' ((with_reducible refine Box.mk ?_) <;> conv => whnf)
  refine ACall.of_pure (ofPath_ok p hp) rfl ?_
  (conv => whnf); repeat' ((with_reducible refine Box.mk ?_) <;> conv => whnf)
  rfl
end Go.Proofs.YtnajpmepcffnaaaGreatDoor
end

section
/- field: values as numbers, addresses and paths. -/
namespace Go.Proofs.YtnajpmepcffnaaaGreatDoor
open Go.Ve

def trimN (s : Bs) : Nat → Nat
 | 0 => 0
 | k + 1 => if s[k]? = some 0 then trimN s k else k + 1
def trimZ (s : Bs) : Bs := s.take (trimN s s.length)
theorem trimByte_ok (s : Bs) (h : s.length ≤ 9223372036854775807) : PCall P 155 [.str s, .int .u8 0] (.str (trimZ s)) := by
 refine PCall.of_awp tok mixed fn155 (Nat.le_of_ble_eq_true rfl) ?_
 (conv => whnf); repeat' ((with_reducible refine Box.mk ?_) <;> conv => whnf)
 refine aloop (fun k : Nat => k ≤ s.length ∧ trimN s k = trimN s s.length) (fun k => ⟨envL [(0, .str (s.take k)), (1, .int .u8 0)], []⟩) (fun k => k) s.length ⟨Nat.le_refl _, rfl⟩ (weak_to ⟨congrArg AV.str (List.take_of_length_le (Nat.le_refl _)).symm, rfl, trivial⟩ rfl) ?_
 rintro k ⟨hk, ht⟩
 have hk : k ≤ s.length := hk
 have ht : trimN s k = trimN s s.length := ht
 have hl : (s.take k).length = k := by rw [List.length_take]; omega
 cases k with
 | zero =>
  (conv => whnf); (repeat' ((with_reducible first | refine Box.mk ?_ | refine And.intro (fun _ => ?_) (fun _ => ?_) | fail) <;> conv => whnf))
  all_goals try (exfalso; omega)
  refine res1_eq (congrArg AV.str ?_)
  show s.take 0 = _
  unfold trimZ
  rw [← ht]; rfl
 | succ j =>
  have hw : IntKind.i64.wrap ((((s.take (j + 1)).length : Nat) : Int) - 1) = ((j : Nat) : Int) := by rw [hl, wrap_i64 (by omega) (by omega)]; omega
  have hg0 : s[j]? = some s[j] := List.getElem?_eq_getElem (by omega)
  have hg : (s.take (j + 1))[((j : Nat) : Int).toNat]? = some s[j] := by rw [Int.toNat_natCast, List.getElem?_take, if_pos (by omega)]; exact hg0
  have hcut : List.drop 0 (List.take ((j : Nat) : Int).toNat (s.take (j + 1))) = s.take j := by
   rw [List.drop_zero, Int.toNat_natCast, List.take_take]; congr 1; omega
  have hb : ((s[j].toNat : Int) = 0) ↔ s[j] = 0 := by
   constructor
   ·intro h; exact UInt8.toNat_inj.1 (by simpa using h)
   ·intro h; rw [h]; rfl
  generalize s[j] = c at *
  (conv => whnf); (repeat' ((with_reducible first | refine Box.mk ?_ | refine And.intro (fun _ => ?_) (fun _ => ?_) | fail) <;> conv => whnf))
  all_goals try (exfalso; omega)
  rw [hw]
  refine ⟨by omega, _, hg, ?_⟩
  (conv => whnf); (repeat' ((first | (with_reducible first | refine Box.mk ?_ | refine And.intro (fun _ => ?_) (fun _ => ?_) | fail) | ((with_reducible show _ ∧ _ ∧ _); refine ⟨by omega, by omega, ?_⟩) | fail) <;> conv => whnf))
  ·rename_i h0
   have hc := hb.1 h0
   refine ⟨j, ⟨by omega, ?_⟩, by show j < j + 1; omega, weak_to ⟨congrArg AV.str (by rw [hw]; exact hcut), rfl, trivial⟩ rfl⟩
   rw [← ht]
   show trimN s j = if s[j]? = some 0 then trimN s j else j + 1
   rw [if_pos (by rw [hg0, hc])]
  ·rename_i h0
   refine res1_eq (congrArg AV.str ?_)
   show s.take (j + 1) = _
   unfold trimZ
   rw [← ht]
   show _ = s.take (if s[j]? = some 0 then trimN s j else j + 1)
   rw [if_neg (fun h => h0 (hb.2 (by rw [hg0] at h; exact Option.some.inj h)))]
theorem trimRight_ok (s : Bs) (h : s.length ≤ 9223372036854775807) : PCall P 149 [.str s, .str [0]] (.str (trimZ s)) := by
 have q := trimByte_ok s h
 refine PCall.of_awp tok mixed fn149 (Nat.le_of_ble_eq_true rfl) ?_
 (conv => whnf); (repeat' ((with_reducible first | refine Box.mk ?_ | refine And.intro (fun _ => ?_) (fun _ => ?_) | fail) <;> conv => whnf))
 ·rename_i h0
  rw [h0]; rfl
 all_goals first
  | (rename_i hbad; exact absurd hbad (by decide))
  | skip
 all_goals try (rename_i hbad _; exact absurd hbad (by decide))
 all_goals try (exfalso; rename_i hbad; exact hbad rfl)
 refine ⟨by decide, _, rfl, ?_⟩
 (conv => whnf); (repeat' ((with_reducible first | refine Box.mk ?_ | refine And.intro (fun _ => ?_) (fun _ => ?_) | fail) <;> conv => whnf))
 ·refine ⟨by decide, _, rfl, ?_⟩
  (conv => whnf); (repeat' ((first | (with_reducible refine Box.mk ?_) | ((with_reducible show ACall _ _ _ _ _); refine ACall.of_pure (by assumption) (by rfl) ?_) | fail) <;> conv => whnf))
  rfl
 ·rename_i hbad
  exact absurd (by decide) hbad
theorem fNumber_ok (x : Bs) (hx : x.length ≤ 8) : PCall P 139 [.sl (bcl x)] (.int .u64 (valB x : Nat)) := by
 have hbl := bcl_len x
 refine PCall.of_awp tok mixed fn139 (Nat.le_of_ble_eq_true rfl) ?_
 (conv => whnf); repeat' ((with_reducible refine Box.mk ?_) <;> conv => whnf)
 refine aloop (fun i : Nat => i ≤ x.length) (fun i => ⟨envL [(3, .int .u64 (valB (x.take i) : Nat)), (6, .sl (bcl x)), (7, .int .i64 (bcl x).length), (8, .int .i64 i)], []⟩) (fun i => x.length - i) 0 (Nat.zero_le _) (weak_to ⟨rfl, rfl, rfl, rfl, trivial⟩ rfl) ?_
 intro i hi
 have hi : i ≤ x.length := hi
 by_cases hil : i < x.length
 ·have hg := List.getElem?_eq_getElem hil
  have hv := valB_take hg
  have hlt : valB (x.take i) * 256 + (x[i]).toNat < H64 := by rw [← hv]; exact valB_lt8 (by rw [List.length_take]; omega)
  have hc := bcl_get hg
  generalize x[i] = c at *
  (conv => whnf); (repeat' ((with_reducible first | refine Box.mk ?_ | refine And.intro (fun _ => ?_) (fun _ => ?_) | fail) <;> conv => whnf))
  all_goals try (exfalso; omega)
  refine ⟨by omega, _, hc, rfl, ?_⟩
  (conv => whnf); repeat' ((with_reducible refine Box.mk ?_) <;> conv => whnf)
  refine ⟨by decide, ?_⟩
  (conv => whnf); repeat' ((with_reducible refine Box.mk ?_) <;> conv => whnf)
  refine ⟨i + 1, hil, by show x.length - (i + 1) < x.length - i; omega, weak_to ⟨congrArg (AV.int .u64) ?_, rfl, rfl, wrap_nat (m := 1) (by omega), trivial⟩ rfl⟩
  rw [hv, wrap64_u8]
  exact shl_or c hlt
 ·(conv => whnf); (repeat' ((with_reducible first | refine Box.mk ?_ | refine And.intro (fun _ => ?_) (fun _ => ?_) | fail) <;> conv => whnf))
  all_goals try (exfalso; omega)
  exact res1_eq (congrArg (AV.int .u64) (by show ((valB (x.take i) : Nat) : Int) = _; rw [List.take_of_length_le (by omega)]))
def cel (b : Bs) : List AV := b.map fun c => .int .u8 (c.toNat : Int)
theorem val_step (x : Bs) (i : Nat) (c : UInt8) (hg : x[i]? = some c) (hi : i < 8) : bits .or .u64 (IntKind.u64.wrap (((valB (x.take i) : Nat) : Int) * 2 ^ (min (8 : Int).toNat IntKind.u64.bits))) (IntKind.u64.wrap (c.toNat : Int)) = ((valB (x.take (i + 1)) : Nat) : Int) := by
 have hv := valB_take hg
 have hlt : valB (x.take i) * 256 + c.toNat < H64 := by rw [← hv]; exact valB_lt8 (by rw [List.length_take]; omega)
 rw [hv, wrap64_u8]
 exact shl_or c hlt
set_option maxHeartbeats 4000000 in
theorem fNumberA (c0 c1 c2 c3 c4 c5 c6 c7 c8 c9 c10 c11 c12 c13 c14 c15 : UInt8) : DCall P 139 [.asl 0 0 8] [.box 212 (cel [c0, c1, c2, c3, c4, c5, c6, c7, c8, c9, c10, c11, c12, c13, c14, c15])] (.int .u64 (valB [c0, c1, c2, c3, c4, c5, c6, c7] : Nat)) [.box 212 (cel [c0, c1, c2, c3, c4, c5, c6, c7, c8, c9, c10, c11, c12, c13, c14, c15])] := by
 refine DCall.of_awp tok mixed fn139 (Nat.le_of_ble_eq_true rfl) ?_
 (conv => whnf); repeat' ((with_reducible refine Box.mk ?_) <;> conv => whnf)
 refine aloop (fun i : Nat => i ≤ 8) (fun i => ⟨envL [(3, .int .u64 (valB (([c0, c1, c2, c3, c4, c5, c6, c7] : Bs).take i) : Nat)), (6, .asl 0 0 8), (7, .int .i64 8), (8, .int .i64 i)], [.box 212 (cel [c0, c1, c2, c3, c4, c5, c6, c7, c8, c9, c10, c11, c12, c13, c14, c15])]⟩) (fun i => 8 - i) 0 (Nat.zero_le _) (weak_to ⟨rfl, rfl, rfl, rfl, trivial⟩ rfl) ?_
 intro i hi
 have hcase : i = 0 ∨ i = 1 ∨ i = 2 ∨ i = 3 ∨ i = 4 ∨ i = 5 ∨ i = 6 ∨ i = 7 ∨ i = 8 := by have hi : i ≤ 8 := hi; omega
 rcases hcase with rfl | rfl | rfl | rfl | rfl | rfl | rfl | rfl | rfl
 ·have hs := val_step [c0, c1, c2, c3, c4, c5, c6, c7] 0 c0 rfl (by decide)
  (conv => whnf); (repeat' ((first | (with_reducible first | refine Box.mk ?_ | refine And.intro (fun _ => ?_) (fun _ => ?_) | fail) | ((with_reducible show _ ∧ _ ∧ _); refine ⟨by omega, by omega, ?_⟩) | fail) <;> conv => whnf))
  all_goals try (exfalso; omega)
  refine ⟨by decide, ?_⟩
  (conv => whnf); repeat' ((with_reducible refine Box.mk ?_) <;> conv => whnf)
  exact ⟨1, by show 1 ≤ 8; decide, by show 8 - 1 < 8 - 0; decide, weak_to ⟨congrArg (AV.int .u64) hs, rfl, rfl, wrap_nat (m := 1) (by decide), trivial⟩ rfl⟩
 ·have hs := val_step [c0, c1, c2, c3, c4, c5, c6, c7] 1 c1 rfl (by decide)
  (conv => whnf); (repeat' ((first | (with_reducible first | refine Box.mk ?_ | refine And.intro (fun _ => ?_) (fun _ => ?_) | fail) | ((with_reducible show _ ∧ _ ∧ _); refine ⟨by omega, by omega, ?_⟩) | fail) <;> conv => whnf))
  all_goals try (exfalso; omega)
  refine ⟨by decide, ?_⟩
  (conv => whnf); repeat' ((with_reducible refine Box.mk ?_) <;> conv => whnf)
  exact ⟨2, by show 2 ≤ 8; decide, by show 8 - 2 < 8 - 1; decide, weak_to ⟨congrArg (AV.int .u64) hs, rfl, rfl, wrap_nat (m := 1) (by decide), trivial⟩ rfl⟩
 ·have hs := val_step [c0, c1, c2, c3, c4, c5, c6, c7] 2 c2 rfl (by decide)
  (conv => whnf); (repeat' ((first | (with_reducible first | refine Box.mk ?_ | refine And.intro (fun _ => ?_) (fun _ => ?_) | fail) | ((with_reducible show _ ∧ _ ∧ _); refine ⟨by omega, by omega, ?_⟩) | fail) <;> conv => whnf))
  all_goals try (exfalso; omega)
  refine ⟨by decide, ?_⟩
  (conv => whnf); repeat' ((with_reducible refine Box.mk ?_) <;> conv => whnf)
  exact ⟨3, by show 3 ≤ 8; decide, by show 8 - 3 < 8 - 2; decide, weak_to ⟨congrArg (AV.int .u64) hs, rfl, rfl, wrap_nat (m := 1) (by decide), trivial⟩ rfl⟩
 ·have hs := val_step [c0, c1, c2, c3, c4, c5, c6, c7] 3 c3 rfl (by decide)
  (conv => whnf); (repeat' ((first | (with_reducible first | refine Box.mk ?_ | refine And.intro (fun _ => ?_) (fun _ => ?_) | fail) | ((with_reducible show _ ∧ _ ∧ _); refine ⟨by omega, by omega, ?_⟩) | fail) <;> conv => whnf))
  all_goals try (exfalso; omega)
  refine ⟨by decide, ?_⟩
  (conv => whnf); repeat' ((with_reducible refine Box.mk ?_) <;> conv => whnf)
  exact ⟨4, by show 4 ≤ 8; decide, by show 8 - 4 < 8 - 3; decide, weak_to ⟨congrArg (AV.int .u64) hs, rfl, rfl, wrap_nat (m := 1) (by decide), trivial⟩ rfl⟩
 ·have hs := val_step [c0, c1, c2, c3, c4, c5, c6, c7] 4 c4 rfl (by decide)
  (conv => whnf); (repeat' ((first | (with_reducible first | refine Box.mk ?_ | refine And.intro (fun _ => ?_) (fun _ => ?_) | fail) | ((with_reducible show _ ∧ _ ∧ _); refine ⟨by omega, by omega, ?_⟩) | fail) <;> conv => whnf))
  all_goals try (exfalso; omega)
  refine ⟨by decide, ?_⟩
  (conv => whnf); repeat' ((with_reducible refine Box.mk ?_) <;> conv => whnf)
  exact ⟨5, by show 5 ≤ 8; decide, by show 8 - 5 < 8 - 4; decide, weak_to ⟨congrArg (AV.int .u64) hs, rfl, rfl, wrap_nat (m := 1) (by decide), trivial⟩ rfl⟩
 ·have hs := val_step [c0, c1, c2, c3, c4, c5, c6, c7] 5 c5 rfl (by decide)
  (conv => whnf); (repeat' ((first | (with_reducible first | refine Box.mk ?_ | refine And.intro (fun _ => ?_) (fun _ => ?_) | fail) | ((with_reducible show _ ∧ _ ∧ _); refine ⟨by omega, by omega, ?_⟩) | fail) <;> conv => whnf))
  all_goals try (exfalso; omega)
  refine ⟨by decide, ?_⟩
  (conv => whnf); repeat' ((with_reducible refine Box.mk ?_) <;> conv => whnf)
  exact ⟨6, by show 6 ≤ 8; decide, by show 8 - 6 < 8 - 5; decide, weak_to ⟨congrArg (AV.int .u64) hs, rfl, rfl, wrap_nat (m := 1) (by decide), trivial⟩ rfl⟩
 ·have hs := val_step [c0, c1, c2, c3, c4, c5, c6, c7] 6 c6 rfl (by decide)
  (conv => whnf); (repeat' ((first | (with_reducible first | refine Box.mk ?_ | refine And.intro (fun _ => ?_) (fun _ => ?_) | fail) | ((with_reducible show _ ∧ _ ∧ _); refine ⟨by omega, by omega, ?_⟩) | fail) <;> conv => whnf))
  all_goals try (exfalso; omega)
  refine ⟨by decide, ?_⟩
  (conv => whnf); repeat' ((with_reducible refine Box.mk ?_) <;> conv => whnf)
  exact ⟨7, by show 7 ≤ 8; decide, by show 8 - 7 < 8 - 6; decide, weak_to ⟨congrArg (AV.int .u64) hs, rfl, rfl, wrap_nat (m := 1) (by decide), trivial⟩ rfl⟩
 ·have hs := val_step [c0, c1, c2, c3, c4, c5, c6, c7] 7 c7 rfl (by decide)
  (conv => whnf); (repeat' ((first | (with_reducible first | refine Box.mk ?_ | refine And.intro (fun _ => ?_) (fun _ => ?_) | fail) | ((with_reducible show _ ∧ _ ∧ _); refine ⟨by omega, by omega, ?_⟩) | fail) <;> conv => whnf))
  all_goals try (exfalso; omega)
  refine ⟨by decide, ?_⟩
  (conv => whnf); repeat' ((with_reducible refine Box.mk ?_) <;> conv => whnf)
  exact ⟨8, by show 8 ≤ 8; decide, by show 8 - 8 < 8 - 7; decide, weak_to ⟨congrArg (AV.int .u64) hs, rfl, rfl, wrap_nat (m := 1) (by decide), trivial⟩ rfl⟩
 ·(conv => whnf); (repeat' ((first | (with_reducible first | refine Box.mk ?_ | refine And.intro (fun _ => ?_) (fun _ => ?_) | fail) | ((with_reducible show _ ∧ _ ∧ _); refine ⟨by omega, by omega, ?_⟩) | fail) <;> conv => whnf))
  all_goals try (exfalso; omega)
  exact weak_to ⟨rfl, trivial⟩ rfl
set_option maxHeartbeats 4000000 in
theorem fNumberB (c0 c1 c2 c3 c4 c5 c6 c7 c8 c9 c10 c11 c12 c13 c14 c15 : UInt8) : DCall P 139 [.asl 0 8 8] [.box 212 (cel [c0, c1, c2, c3, c4, c5, c6, c7, c8, c9, c10, c11, c12, c13, c14, c15])] (.int .u64 (valB [c8, c9, c10, c11, c12, c13, c14, c15] : Nat)) [.box 212 (cel [c0, c1, c2, c3, c4, c5, c6, c7, c8, c9, c10, c11, c12, c13, c14, c15])] := by
 refine DCall.of_awp tok mixed fn139 (Nat.le_of_ble_eq_true rfl) ?_
 (conv => whnf); repeat' ((with_reducible refine Box.mk ?_) <;> conv => whnf)
 refine aloop (fun i : Nat => i ≤ 8) (fun i => ⟨envL [(3, .int .u64 (valB (([c8, c9, c10, c11, c12, c13, c14, c15] : Bs).take i) : Nat)), (6, .asl 0 8 8), (7, .int .i64 8), (8, .int .i64 i)], [.box 212 (cel [c0, c1, c2, c3, c4, c5, c6, c7, c8, c9, c10, c11, c12, c13, c14, c15])]⟩) (fun i => 8 - i) 0 (Nat.zero_le _) (weak_to ⟨rfl, rfl, rfl, rfl, trivial⟩ rfl) ?_
 intro i hi
 have hcase : i = 0 ∨ i = 1 ∨ i = 2 ∨ i = 3 ∨ i = 4 ∨ i = 5 ∨ i = 6 ∨ i = 7 ∨ i = 8 := by have hi : i ≤ 8 := hi; omega
 rcases hcase with rfl | rfl | rfl | rfl | rfl | rfl | rfl | rfl | rfl
 ·have hs := val_step [c8, c9, c10, c11, c12, c13, c14, c15] 0 c8 rfl (by decide)
  (conv => whnf); (repeat' ((first | (with_reducible first | refine Box.mk ?_ | refine And.intro (fun _ => ?_) (fun _ => ?_) | fail) | ((with_reducible show _ ∧ _ ∧ _); refine ⟨by omega, by omega, ?_⟩) | fail) <;> conv => whnf))
  all_goals try (exfalso; omega)
  refine ⟨by decide, ?_⟩
  (conv => whnf); repeat' ((with_reducible refine Box.mk ?_) <;> conv => whnf)
  exact ⟨1, by show 1 ≤ 8; decide, by show 8 - 1 < 8 - 0; decide, weak_to ⟨congrArg (AV.int .u64) hs, rfl, rfl, wrap_nat (m := 1) (by decide), trivial⟩ rfl⟩
 ·have hs := val_step [c8, c9, c10, c11, c12, c13, c14, c15] 1 c9 rfl (by decide)
  (conv => whnf); (repeat' ((first | (with_reducible first | refine Box.mk ?_ | refine And.intro (fun _ => ?_) (fun _ => ?_) | fail) | ((with_reducible show _ ∧ _ ∧ _); refine ⟨by omega, by omega, ?_⟩) | fail) <;> conv => whnf))
  all_goals try (exfalso; omega)
  refine ⟨by decide, ?_⟩
  (conv => whnf); repeat' ((with_reducible refine Box.mk ?_) <;> conv => whnf)
  exact ⟨2, by show 2 ≤ 8; decide, by show 8 - 2 < 8 - 1; decide, weak_to ⟨congrArg (AV.int .u64) hs, rfl, rfl, wrap_nat (m := 1) (by decide), trivial⟩ rfl⟩
 ·have hs := val_step [c8, c9, c10, c11, c12, c13, c14, c15] 2 c10 rfl (by decide)
  (conv => whnf); (repeat' ((first | (with_reducible first | refine Box.mk ?_ | refine And.intro (fun _ => ?_) (fun _ => ?_) | fail) | ((with_reducible show _ ∧ _ ∧ _); refine ⟨by omega, by omega, ?_⟩) | fail) <;> conv => whnf))
  all_goals try (exfalso; omega)
  refine ⟨by decide, ?_⟩
  (conv => whnf); repeat' ((with_reducible refine Box.mk ?_) <;> conv => whnf)
  exact ⟨3, by show 3 ≤ 8; decide, by show 8 - 3 < 8 - 2; decide, weak_to ⟨congrArg (AV.int .u64) hs, rfl, rfl, wrap_nat (m := 1) (by decide), trivial⟩ rfl⟩
 ·have hs := val_step [c8, c9, c10, c11, c12, c13, c14, c15] 3 c11 rfl (by decide)
  (conv => whnf); (repeat' ((first | (with_reducible first | refine Box.mk ?_ | refine And.intro (fun _ => ?_) (fun _ => ?_) | fail) | ((with_reducible show _ ∧ _ ∧ _); refine ⟨by omega, by omega, ?_⟩) | fail) <;> conv => whnf))
  all_goals try (exfalso; omega)
  refine ⟨by decide, ?_⟩
  (conv => whnf); repeat' ((with_reducible refine Box.mk ?_) <;> conv => whnf)
  exact ⟨4, by show 4 ≤ 8; decide, by show 8 - 4 < 8 - 3; decide, weak_to ⟨congrArg (AV.int .u64) hs, rfl, rfl, wrap_nat (m := 1) (by decide), trivial⟩ rfl⟩
 ·have hs := val_step [c8, c9, c10, c11, c12, c13, c14, c15] 4 c12 rfl (by decide)
  (conv => whnf); (repeat' ((first | (with_reducible first | refine Box.mk ?_ | refine And.intro (fun _ => ?_) (fun _ => ?_) | fail) | ((with_reducible show _ ∧ _ ∧ _); refine ⟨by omega, by omega, ?_⟩) | fail) <;> conv => whnf))
  all_goals try (exfalso; omega)
  refine ⟨by decide, ?_⟩
  (conv => whnf); repeat' ((with_reducible refine Box.mk ?_) <;> conv => whnf)
  exact ⟨5, by show 5 ≤ 8; decide, by show 8 - 5 < 8 - 4; decide, weak_to ⟨congrArg (AV.int .u64) hs, rfl, rfl, wrap_nat (m := 1) (by decide), trivial⟩ rfl⟩
 ·have hs := val_step [c8, c9, c10, c11, c12, c13, c14, c15] 5 c13 rfl (by decide)
  (conv => whnf); (repeat' ((first | (with_reducible first | refine Box.mk ?_ | refine And.intro (fun _ => ?_) (fun _ => ?_) | fail) | ((with_reducible show _ ∧ _ ∧ _); refine ⟨by omega, by omega, ?_⟩) | fail) <;> conv => whnf))
  all_goals try (exfalso; omega)
  refine ⟨by decide, ?_⟩
  (conv => whnf); repeat' ((with_reducible refine Box.mk ?_) <;> conv => whnf)
  exact ⟨6, by show 6 ≤ 8; decide, by show 8 - 6 < 8 - 5; decide, weak_to ⟨congrArg (AV.int .u64) hs, rfl, rfl, wrap_nat (m := 1) (by decide), trivial⟩ rfl⟩
 ·have hs := val_step [c8, c9, c10, c11, c12, c13, c14, c15] 6 c14 rfl (by decide)
  (conv => whnf); (repeat' ((first | (with_reducible first | refine Box.mk ?_ | refine And.intro (fun _ => ?_) (fun _ => ?_) | fail) | ((with_reducible show _ ∧ _ ∧ _); refine ⟨by omega, by omega, ?_⟩) | fail) <;> conv => whnf))
  all_goals try (exfalso; omega)
  refine ⟨by decide, ?_⟩
  (conv => whnf); repeat' ((with_reducible refine Box.mk ?_) <;> conv => whnf)
  exact ⟨7, by show 7 ≤ 8; decide, by show 8 - 7 < 8 - 6; decide, weak_to ⟨congrArg (AV.int .u64) hs, rfl, rfl, wrap_nat (m := 1) (by decide), trivial⟩ rfl⟩
 ·have hs := val_step [c8, c9, c10, c11, c12, c13, c14, c15] 7 c15 rfl (by decide)
  (conv => whnf); (repeat' ((first | (with_reducible first | refine Box.mk ?_ | refine And.intro (fun _ => ?_) (fun _ => ?_) | fail) | ((with_reducible show _ ∧ _ ∧ _); refine ⟨by omega, by omega, ?_⟩) | fail) <;> conv => whnf))
  all_goals try (exfalso; omega)
  refine ⟨by decide, ?_⟩
  (conv => whnf); repeat' ((with_reducible refine Box.mk ?_) <;> conv => whnf)
  exact ⟨8, by show 8 ≤ 8; decide, by show 8 - 8 < 8 - 7; decide, weak_to ⟨congrArg (AV.int .u64) hs, rfl, rfl, wrap_nat (m := 1) (by decide), trivial⟩ rfl⟩
 ·(conv => whnf); (repeat' ((first | (with_reducible first | refine Box.mk ?_ | refine And.intro (fun _ => ?_) (fun _ => ?_) | fail) | ((with_reducible show _ ∧ _ ∧ _); refine ⟨by omega, by omega, ?_⟩) | fail) <;> conv => whnf))
  all_goals try (exfalso; omega)
  exact weak_to ⟨rfl, trivial⟩ rfl
end Go.Proofs.YtnajpmepcffnaaaGreatDoor
end

section
/- field: addresses and paths of values. -/
namespace Go.Proofs.YtnajpmepcffnaaaGreatDoor
open Go.Ve

def fourK (b : Bs) : Ky := ⟨1, 32, valB b * 2 ^ 96, []⟩
def sixK (b : Bs) : Ky := ⟨2, 128, valB b, []⟩
def addrK (b : Bs) : Ky := if b.length = 4 then fourK b else sixK b
theorem fAddr4 (b : Bs) (hb : b.length = 4) : PCall P 140 [.sl (bcl b)] (kv (fourK b)) := by
 have hbl := bcl_len b
 have q1 := fNumber_ok b (by omega)
 have hv : valB b < 4294967296 := by have := valB_lt b; rw [hb] at this; exact this
 have q2 := four_ok (valB b) hv
 have hw := wrap_u32 (n := (valB b : Nat)) (by omega) (by omega)
 unfold fourK
 generalize valB b = n at *
 refine PCall.of_awp tok mixed fn140 (Nat.le_of_ble_eq_true rfl) ?_
 (conv => whnf); (repeat' ((first | (with_reducible first | refine Box.mk ?_ | refine And.intro (fun _ => ?_) (fun _ => ?_) | fail) | ((with_reducible show ACall _ _ _ _ _); refine ACall.of_pure (by assumption) (by rfl) ?_) | fail) <;> conv => whnf))
 ·rw [hw]
  refine ACall.of_pure q2 rfl ?_
  (conv => whnf); repeat' ((with_reducible refine Box.mk ?_) <;> conv => whnf)
  rfl
 ·exfalso; omega
theorem halves {hi lo : Nat} (h1 : hi < H64) (h2 : lo < H64) : hi * H64 + lo < 2 ^ 128 ∧ (hi * H64 + lo) / H64 = hi ∧ (hi * H64 + lo) % H64 = lo := by
 have hpos : 0 < H64 := Nat.lt_of_le_of_lt (Nat.zero_le _) h1
 refine ⟨?_, ?_, ?_⟩
 ·rw [← hh]
  calc hi * H64 + lo < hi * H64 + H64 := Nat.add_lt_add_left h2 _
   _ = (hi + 1) * H64 := by rw [Nat.add_mul, Nat.one_mul]
   _ ≤ H64 * H64 := Nat.mul_le_mul_right _ h1
 ·rw [Nat.add_comm, Nat.add_mul_div_right _ _ hpos, Nat.div_eq_of_lt h2, Nat.zero_add]
 ·rw [Nat.add_comm, Nat.add_mul_mod_self_right, Nat.mod_eq_of_lt h2]
theorem val16 (a b : Bs) (ha : a.length = 8) (hb : b.length = 8) : valB (a ++ b) < 2 ^ 128 ∧ valB (a ++ b) / H64 = valB a ∧ valB (a ++ b) % H64 = valB b := by
 have h := valB_app a b
 rw [hb, show (256 : Nat) ^ 8 = H64 by rw [h64, show (256 : Nat) = 2 ^ 8 from rfl, ← Nat.pow_mul]] at h
 rw [h]
 exact halves (valB_lt8 (by omega)) (valB_lt8 (by omega))
theorem list16 {b : Bs} (h : b.length = 16) : ∃ c0 c1 c2 c3 c4 c5 c6 c7 c8 c9 c10 c11 c12 c13 c14 c15, b = [c0, c1, c2, c3, c4, c5, c6, c7, c8, c9, c10, c11, c12, c13, c14, c15] := by
 match b, h with
 | [c0, c1, c2, c3, c4, c5, c6, c7, c8, c9, c10, c11, c12, c13, c14, c15], _ => exact ⟨c0, c1, c2, c3, c4, c5, c6, c7, c8, c9, c10, c11, c12, c13, c14, c15, rfl⟩
set_option maxHeartbeats 4000000 in
theorem fAddr6 (b : Bs) (hb : b.length = 16) : PCall P 140 [.sl (bcl b)] (kv (sixK b)) := by
 obtain ⟨c0, c1, c2, c3, c4, c5, c6, c7, c8, c9, c10, c11, c12, c13, c14, c15, rfl⟩ := list16 hb
 have q1 := fNumberA c0 c1 c2 c3 c4 c5 c6 c7 c8 c9 c10 c11 c12 c13 c14 c15
 have q2 := fNumberB c0 c1 c2 c3 c4 c5 c6 c7 c8 c9 c10 c11 c12 c13 c14 c15
 have hv : valB [c0, c1, c2, c3, c4, c5, c6, c7, c8, c9, c10, c11, c12, c13, c14, c15] < 2 ^ 128 ∧ valB [c0, c1, c2, c3, c4, c5, c6, c7, c8, c9, c10, c11, c12, c13, c14, c15] / H64 = valB [c0, c1, c2, c3, c4, c5, c6, c7] ∧ valB [c0, c1, c2, c3, c4, c5, c6, c7, c8, c9, c10, c11, c12, c13, c14, c15] % H64 = valB [c8, c9, c10, c11, c12, c13, c14, c15] := val16 [c0, c1, c2, c3, c4, c5, c6, c7] [c8, c9, c10, c11, c12, c13, c14, c15] rfl rfl
 obtain ⟨h1, h2, h3⟩ := hv
 unfold sixK
 generalize valB [c0, c1, c2, c3, c4, c5, c6, c7, c8, c9, c10, c11, c12, c13, c14, c15] = N at *
 generalize valB [c0, c1, c2, c3, c4, c5, c6, c7] = hi at *
 generalize valB [c8, c9, c10, c11, c12, c13, c14, c15] = lo at *
 have q3 := six_ok N h1
 unfold wv at q3
 rw [h2, h3] at q3
 refine PCall.of_awp tok mixed fn140 (Nat.le_of_ble_eq_true rfl) ?_
 (conv => whnf); (repeat' ((with_reducible first | refine Box.mk ?_ | refine And.intro (fun _ => ?_) (fun _ => ?_) | fail) <;> conv => whnf))
 all_goals try (rename_i hbad; exact absurd hbad (show ¬ ((16 : Int) = 4) by decide))
 refine ⟨bcl_cells _, ?_⟩
 (conv => whnf); repeat' ((with_reducible refine Box.mk ?_) <;> conv => whnf)
 refine ⟨[], by kernel_rfl, ?_⟩
 (conv => whnf); (repeat' ((first | (with_reducible refine Box.mk ?_) | ((with_reducible show _ ∧ _ ∧ _); refine ⟨by omega, by omega, ?_⟩) | fail) <;> conv => whnf))
 refine aDr [1] q1 rfl rfl rfl rfl ?_
 (conv => whnf); (repeat' ((first | (with_reducible refine Box.mk ?_) | ((with_reducible show _ ∧ _ ∧ _); refine ⟨by omega, by omega, ?_⟩) | fail) <;> conv => whnf))
 refine aDr [1] q2 rfl rfl rfl rfl ?_
 (conv => whnf); (repeat' ((first | (with_reducible refine Box.mk ?_) | ((with_reducible show Exists _); refine ⟨_, ACall.of_pure (by assumption) (by rfl) ⟨rfl, rfl⟩, ?_⟩) | fail) <;> conv => whnf))
 rfl
def pathT (s : Sc) (b : Bs) : Bs := if s.len = 65535 then b else trimZ b
theorem pathT_len (s : Sc) (b : Bs) : (pathT s b).length ≤ b.length := by
 unfold pathT trimZ
 split
 ·exact Nat.le_refl _
 ·rw [List.length_take]; omega
theorem fPath_ok (s : Sc) (b : Bs) (hb : b.length < 4294967281) : PCall P 141 [sv s, .sl (bcl b)] (.tup [kv (bif okPath (pathT s b) then ofPathK (pathT s b) else zeroK), .int .i64 (bif okPath (pathT s b) then 0 else 3)]) := by
 have q1 := trimRight_ok b (by omega)
 have q2 := path_ok (pathT s b) (Nat.lt_of_le_of_lt (pathT_len s b) hb)
 have hT : ∀ h : s.len = 65535, pathT s b = b := fun h => by unfold pathT; rw [if_pos h]
 have hF : ∀ h : ¬ s.len = 65535, pathT s b = trimZ b := fun h => by unfold pathT; rw [if_neg h]
 generalize hk : (bif okPath (pathT s b) then ofPathK (pathT s b) else zeroK) = k at *
 generalize (bif okPath (pathT s b) then (0 : Int) else 3) = e at *
 by_cases h6 : s.len = 65535
 ·rw [hT h6] at q2
  refine PCall.of_awp tok mixed fn141 (Nat.le_of_ble_eq_true rfl) ?_
  (conv => whnf); repeat' ((with_reducible refine Box.mk ?_) <;> conv => whnf)
  refine ⟨_, rfl, ?_⟩
  (conv => whnf); (repeat' ((first | (with_reducible first | refine Box.mk ?_ | refine And.intro (fun _ => ?_) (fun _ => ?_) | fail) | ((with_reducible show ACall _ _ _ _ _); refine ACall.of_pure (by assumption) (by rfl) ?_) | fail) <;> conv => whnf))
  all_goals try contradiction
  rfl
 ·rw [hF h6] at q2
  refine PCall.of_awp tok mixed fn141 (Nat.le_of_ble_eq_true rfl) ?_
  (conv => whnf); repeat' ((with_reducible refine Box.mk ?_) <;> conv => whnf)
  refine ⟨_, rfl, ?_⟩
  (conv => whnf); (repeat' ((first | (with_reducible first | refine Box.mk ?_ | refine And.intro (fun _ => ?_) (fun _ => ?_) | fail) | ((with_reducible show ACall _ _ _ _ _); refine ACall.of_pure (by assumption) (by rfl) ?_) | fail) <;> conv => whnf))
  all_goals try contradiction
  rfl
end Go.Proofs.YtnajpmepcffnaaaGreatDoor
end

section
/- field: what a value says of a flow. -/
namespace Go.Proofs.YtnajpmepcffnaaaGreatDoor
open Go.Ve

structure Rc where
 a0 : Ky
 a1 : Ky
 p0 : Ky
 p1 : Ky
 pk : Nat
 by_ : Nat
 deriving DecidableEq
def rcc (r : Rc) : List AV :=
 [.int .i64 r.a0.kind, .int .i64 r.a0.len, .int .u64 ((r.a0.n / H64 : Nat) : Int), .int .u64 ((r.a0.n % H64 : Nat) : Int), .str r.a0.path,
  .int .i64 r.a1.kind, .int .i64 r.a1.len, .int .u64 ((r.a1.n / H64 : Nat) : Int), .int .u64 ((r.a1.n % H64 : Nat) : Int), .str r.a1.path,
  .int .i64 r.p0.kind, .int .i64 r.p0.len, .int .u64 ((r.p0.n / H64 : Nat) : Int), .int .u64 ((r.p0.n % H64 : Nat) : Int), .str r.p0.path,
  .int .i64 r.p1.kind, .int .i64 r.p1.len, .int .u64 ((r.p1.n / H64 : Nat) : Int), .int .u64 ((r.p1.n % H64 : Nat) : Int), .str r.p1.path,
  .int .u64 (r.pk : Int), .int .u64 (r.by_ : Int)]
def rcv (r : Rc) : AV := .agg (rcc r)
def zeroR : Rc := ⟨zeroK, zeroK, zeroK, zeroK, 0, 0⟩
def setE (s : Sc) (b : Bs) : Int :=
 if saysS s = -1 ∨ (s.len ≠ 65535 ∧ (b.length : Int) ≠ s.len) then 14 else if (saysS s = 7 ∨ saysS s = 8) ∧ okPath (pathT s b) = false then 3 else 0
def updR (s : Sc) (b : Bs) (r : Rc) : Rc :=
 if saysS s = 1 then { r with by_ := valB b } else if saysS s = 2 then { r with pk := valB b } else
 if saysS s = 3 ∨ saysS s = 5 then { r with a0 := addrK b } else if saysS s = 4 ∨ saysS s = 6 then { r with a1 := addrK b } else
 if saysS s = 7 then { r with p0 := ofPathK (pathT s b) } else if saysS s = 8 then { r with p1 := ofPathK (pathT s b) } else r
def setR (s : Sc) (b : Bs) (r : Rc) : Rc := if setE s b = 0 then updR s b r else zeroR
theorem says_cases (s : Sc) : saysS s = -1 ∨ saysS s = 0 ∨ (RightS s ∧ ((saysS s = 1 ∧ 1 ≤ s.len ∧ s.len ≤ 8) ∨ (saysS s = 2 ∧ 1 ≤ s.len ∧ s.len ≤ 8) ∨ (saysS s = 3 ∧ s.len = 4) ∨ (saysS s = 4 ∧ s.len = 4) ∨ (saysS s = 5 ∧ s.len = 16) ∨ (saysS s = 6 ∧ s.len = 16) ∨ saysS s = 7 ∨ saysS s = 8)) := by
 unfold saysS inL usualS
 by_cases hR : RightS s
 ·rw [if_neg (fun h => h hR)]
  have hR2 := hR
  unfold RightS at hR2
  by_cases h0 : s.ent = 0
  ·rw [if_pos h0]
   split
   ·dsimp only; split <;> simp_all <;> omega
   ·split
    ·dsimp only; split <;> simp_all <;> omega
    ·split
     ·dsimp only; split <;> simp_all <;> omega
     ·split
      ·dsimp only; split <;> simp_all <;> omega
      ·split
       ·dsimp only; split <;> simp_all <;> omega
       ·split
        ·dsimp only; split <;> simp_all <;> omega
        ·dsimp only; split <;> simp_all
  ·rw [if_neg h0]
   split
   ·exact .inr (.inr ⟨hR, by simp⟩)
   ·split
    ·exact .inr (.inr ⟨hR, by simp⟩)
    ·exact .inr (.inl rfl)
 ·rw [if_pos hR]; exact .inl rfl
set_option maxHeartbeats 8000000 in
theorem fSet_ok (s : Sc) (b : Bs) (r : Rc) (hb : b.length < 4294967281) : PCall P 125 [rcv r, sv s, .sl (bcl b)] (.tup [rcv (setR s b r), .int .i64 (setE s b)]) := by
 have q1 := fSays_ok s
 have hbl := bcl_len b
 rcases says_cases s with h | h | ⟨hR, h | h | h | h | h | h | h | h⟩
 ·have e1 : setE s b = 14 := by unfold setE; rw [if_pos (.inl h)]
  have e2 : setR s b r = zeroR := by unfold setR; rw [e1, if_neg (by decide)]
  rw [e1, e2]
  rw [h] at q1
  refine PCall.of_awp tok mixed fn125 (Nat.le_of_ble_eq_true rfl) ?_
  (conv => whnf); (repeat' ((first | (with_reducible first | refine Box.mk ?_ | refine And.intro (fun _ => ?_) (fun _ => ?_) | fail) | ((with_reducible show ACall _ _ _ _ _); refine ACall.of_pure (by assumption) (by rfl) ?_) | fail) <;> conv => whnf))
  all_goals try contradiction
  rfl
 ·rw [h] at q1
  by_cases hm : s.len ≠ 65535 ∧ (b.length : Int) ≠ s.len
  ·have hm1 := hm.1
   have hm2 := hm.2
   have e1 : setE s b = 14 := by unfold setE; rw [if_pos (.inr hm)]
   have e2 : setR s b r = zeroR := by unfold setR; rw [e1, if_neg (by decide)]
   rw [e1, e2]
   refine PCall.of_awp tok mixed fn125 (Nat.le_of_ble_eq_true rfl) ?_
   (conv => whnf); (repeat' ((first | (with_reducible first | refine Box.mk ?_ | refine And.intro (fun _ => ?_) (fun _ => ?_) | fail) | ((with_reducible show ACall _ _ _ _ _); refine ACall.of_pure (by assumption) (by rfl) ?_) | fail) <;> conv => whnf))
   all_goals try (exfalso; omega)
   all_goals rfl
  ·have hn : ¬ (saysS s = -1 ∨ (s.len ≠ 65535 ∧ (b.length : Int) ≠ s.len)) := fun hc => by
    rcases hc with hc | hc
    ·rw [h] at hc; cases hc
    ·exact hm hc
   have e1 : setE s b = 0 := by unfold setE; rw [if_neg hn, if_neg (by rw [h]; rintro ⟨hc | hc, _⟩ <;> cases hc)]
   have e2 : setR s b r = r := by unfold setR updR; rw [e1, if_pos rfl, h]; rfl
   rw [e1, e2]
   refine PCall.of_awp tok mixed fn125 (Nat.le_of_ble_eq_true rfl) ?_
   (conv => whnf); (repeat' ((first | (with_reducible first | refine Box.mk ?_ | refine And.intro (fun _ => ?_) (fun _ => ?_) | fail) | ((with_reducible show ACall _ _ _ _ _); refine ACall.of_pure (by assumption) (by rfl) ?_) | fail) <;> conv => whnf))
   all_goals try (exfalso; omega)
   all_goals rfl
 ·obtain ⟨h, hl1, hl2⟩ := h
  rw [h] at q1
  by_cases hm : s.len ≠ 65535 ∧ (b.length : Int) ≠ s.len
  ·have hm1 := hm.1
   have hm2 := hm.2
   have e1 : setE s b = 14 := by unfold setE; rw [if_pos (.inr hm)]
   have e2 : setR s b r = zeroR := by unfold setR; rw [e1, if_neg (by decide)]
   rw [e1, e2]
   refine PCall.of_awp tok mixed fn125 (Nat.le_of_ble_eq_true rfl) ?_
   (conv => whnf); (repeat' ((first | (with_reducible first | refine Box.mk ?_ | refine And.intro (fun _ => ?_) (fun _ => ?_) | fail) | ((with_reducible show ACall _ _ _ _ _); refine ACall.of_pure (by assumption) (by rfl) ?_) | fail) <;> conv => whnf))
   all_goals try (exfalso; omega)
   all_goals rfl
  ·have hn : ¬ (saysS s = -1 ∨ (s.len ≠ 65535 ∧ (b.length : Int) ≠ s.len)) := fun hc => by
    rcases hc with hc | hc
    ·rw [h] at hc; cases hc
    ·exact hm hc
   have e1 : setE s b = 0 := by unfold setE; rw [if_neg hn, if_neg (by rw [h]; rintro ⟨hc | hc, _⟩ <;> cases hc)]
   have e2 : setR s b r = { r with by_ := valB b } := by unfold setR updR; rw [e1, if_pos rfl, h]; rfl
   rw [e1, e2]
   have q2 := fNumber_ok b (by omega)
   generalize valB b = n at *
   refine PCall.of_awp tok mixed fn125 (Nat.le_of_ble_eq_true rfl) ?_
   (conv => whnf); (repeat' ((first | (with_reducible first | refine Box.mk ?_ | refine And.intro (fun _ => ?_) (fun _ => ?_) | fail) | ((with_reducible show ACall _ _ _ _ _); refine ACall.of_pure (by assumption) (by rfl) ?_) | fail) <;> conv => whnf))
   all_goals try (exfalso; omega)
   all_goals rfl
 ·obtain ⟨h, hl1, hl2⟩ := h
  rw [h] at q1
  by_cases hm : s.len ≠ 65535 ∧ (b.length : Int) ≠ s.len
  ·have hm1 := hm.1
   have hm2 := hm.2
   have e1 : setE s b = 14 := by unfold setE; rw [if_pos (.inr hm)]
   have e2 : setR s b r = zeroR := by unfold setR; rw [e1, if_neg (by decide)]
   rw [e1, e2]
   refine PCall.of_awp tok mixed fn125 (Nat.le_of_ble_eq_true rfl) ?_
   (conv => whnf); (repeat' ((first | (with_reducible first | refine Box.mk ?_ | refine And.intro (fun _ => ?_) (fun _ => ?_) | fail) | ((with_reducible show ACall _ _ _ _ _); refine ACall.of_pure (by assumption) (by rfl) ?_) | fail) <;> conv => whnf))
   all_goals try (exfalso; omega)
   all_goals rfl
  ·have hn : ¬ (saysS s = -1 ∨ (s.len ≠ 65535 ∧ (b.length : Int) ≠ s.len)) := fun hc => by
    rcases hc with hc | hc
    ·rw [h] at hc; cases hc
    ·exact hm hc
   have e1 : setE s b = 0 := by unfold setE; rw [if_neg hn, if_neg (by rw [h]; rintro ⟨hc | hc, _⟩ <;> cases hc)]
   have e2 : setR s b r = { r with pk := valB b } := by unfold setR updR; rw [e1, if_pos rfl, h]; rfl
   rw [e1, e2]
   have q2 := fNumber_ok b (by omega)
   generalize valB b = n at *
   refine PCall.of_awp tok mixed fn125 (Nat.le_of_ble_eq_true rfl) ?_
   (conv => whnf); (repeat' ((first | (with_reducible first | refine Box.mk ?_ | refine And.intro (fun _ => ?_) (fun _ => ?_) | fail) | ((with_reducible show ACall _ _ _ _ _); refine ACall.of_pure (by assumption) (by rfl) ?_) | fail) <;> conv => whnf))
   all_goals try (exfalso; omega)
   all_goals rfl
 ·obtain ⟨h, hl⟩ := h
  rw [h] at q1
  by_cases hm : s.len ≠ 65535 ∧ (b.length : Int) ≠ s.len
  ·have hm1 := hm.1
   have hm2 := hm.2
   have e1 : setE s b = 14 := by unfold setE; rw [if_pos (.inr hm)]
   have e2 : setR s b r = zeroR := by unfold setR; rw [e1, if_neg (by decide)]
   rw [e1, e2]
   refine PCall.of_awp tok mixed fn125 (Nat.le_of_ble_eq_true rfl) ?_
   (conv => whnf); (repeat' ((first | (with_reducible first | refine Box.mk ?_ | refine And.intro (fun _ => ?_) (fun _ => ?_) | fail) | ((with_reducible show ACall _ _ _ _ _); refine ACall.of_pure (by assumption) (by rfl) ?_) | fail) <;> conv => whnf))
   all_goals try (exfalso; omega)
   all_goals rfl
  ·have hn : ¬ (saysS s = -1 ∨ (s.len ≠ 65535 ∧ (b.length : Int) ≠ s.len)) := fun hc => by
    rcases hc with hc | hc
    ·rw [h] at hc; cases hc
    ·exact hm hc
   have e1 : setE s b = 0 := by unfold setE; rw [if_neg hn, if_neg (by rw [h]; rintro ⟨hc | hc, _⟩ <;> cases hc)]
   have e2 : setR s b r = { r with a0 := addrK b } := by unfold setR updR; rw [e1, if_pos rfl, h]; rfl
   rw [e1, e2]
   have q2 : PCall P 140 [.sl (bcl b)] (kv (addrK b)) := by unfold addrK; rw [if_pos (by omega)]; exact fAddr4 b (by omega)
   generalize addrK b = k at *
   refine PCall.of_awp tok mixed fn125 (Nat.le_of_ble_eq_true rfl) ?_
   (conv => whnf); (repeat' ((first | (with_reducible first | refine Box.mk ?_ | refine And.intro (fun _ => ?_) (fun _ => ?_) | fail) | ((with_reducible show ACall _ _ _ _ _); refine ACall.of_pure (by assumption) (by rfl) ?_) | ((with_reducible show _ ∧ _ ∧ _); refine ⟨by omega, by omega, ?_⟩) | fail) <;> conv => whnf))
   all_goals try (exfalso; omega)
   all_goals rfl
 ·obtain ⟨h, hl⟩ := h
  rw [h] at q1
  by_cases hm : s.len ≠ 65535 ∧ (b.length : Int) ≠ s.len
  ·have hm1 := hm.1
   have hm2 := hm.2
   have e1 : setE s b = 14 := by unfold setE; rw [if_pos (.inr hm)]
   have e2 : setR s b r = zeroR := by unfold setR; rw [e1, if_neg (by decide)]
   rw [e1, e2]
   refine PCall.of_awp tok mixed fn125 (Nat.le_of_ble_eq_true rfl) ?_
   (conv => whnf); (repeat' ((first | (with_reducible first | refine Box.mk ?_ | refine And.intro (fun _ => ?_) (fun _ => ?_) | fail) | ((with_reducible show ACall _ _ _ _ _); refine ACall.of_pure (by assumption) (by rfl) ?_) | fail) <;> conv => whnf))
   all_goals try (exfalso; omega)
   all_goals rfl
  ·have hn : ¬ (saysS s = -1 ∨ (s.len ≠ 65535 ∧ (b.length : Int) ≠ s.len)) := fun hc => by
    rcases hc with hc | hc
    ·rw [h] at hc; cases hc
    ·exact hm hc
   have e1 : setE s b = 0 := by unfold setE; rw [if_neg hn, if_neg (by rw [h]; rintro ⟨hc | hc, _⟩ <;> cases hc)]
   have e2 : setR s b r = { r with a1 := addrK b } := by unfold setR updR; rw [e1, if_pos rfl, h]; rfl
   rw [e1, e2]
   have q2 : PCall P 140 [.sl (bcl b)] (kv (addrK b)) := by unfold addrK; rw [if_pos (by omega)]; exact fAddr4 b (by omega)
   generalize addrK b = k at *
   refine PCall.of_awp tok mixed fn125 (Nat.le_of_ble_eq_true rfl) ?_
   (conv => whnf); (repeat' ((first | (with_reducible first | refine Box.mk ?_ | refine And.intro (fun _ => ?_) (fun _ => ?_) | fail) | ((with_reducible show ACall _ _ _ _ _); refine ACall.of_pure (by assumption) (by rfl) ?_) | ((with_reducible show _ ∧ _ ∧ _); refine ⟨by omega, by omega, ?_⟩) | fail) <;> conv => whnf))
   all_goals try (exfalso; omega)
   all_goals rfl
 ·obtain ⟨h, hl⟩ := h
  rw [h] at q1
  by_cases hm : s.len ≠ 65535 ∧ (b.length : Int) ≠ s.len
  ·have hm1 := hm.1
   have hm2 := hm.2
   have e1 : setE s b = 14 := by unfold setE; rw [if_pos (.inr hm)]
   have e2 : setR s b r = zeroR := by unfold setR; rw [e1, if_neg (by decide)]
   rw [e1, e2]
   refine PCall.of_awp tok mixed fn125 (Nat.le_of_ble_eq_true rfl) ?_
   (conv => whnf); (repeat' ((first | (with_reducible first | refine Box.mk ?_ | refine And.intro (fun _ => ?_) (fun _ => ?_) | fail) | ((with_reducible show ACall _ _ _ _ _); refine ACall.of_pure (by assumption) (by rfl) ?_) | fail) <;> conv => whnf))
   all_goals try (exfalso; omega)
   all_goals rfl
  ·have hn : ¬ (saysS s = -1 ∨ (s.len ≠ 65535 ∧ (b.length : Int) ≠ s.len)) := fun hc => by
    rcases hc with hc | hc
    ·rw [h] at hc; cases hc
    ·exact hm hc
   have e1 : setE s b = 0 := by unfold setE; rw [if_neg hn, if_neg (by rw [h]; rintro ⟨hc | hc, _⟩ <;> cases hc)]
   have e2 : setR s b r = { r with a0 := addrK b } := by unfold setR updR; rw [e1, if_pos rfl, h]; rfl
   rw [e1, e2]
   have q2 : PCall P 140 [.sl (bcl b)] (kv (addrK b)) := by unfold addrK; rw [if_neg (by omega)]; exact fAddr6 b (by omega)
   generalize addrK b = k at *
   refine PCall.of_awp tok mixed fn125 (Nat.le_of_ble_eq_true rfl) ?_
   (conv => whnf); (repeat' ((first | (with_reducible first | refine Box.mk ?_ | refine And.intro (fun _ => ?_) (fun _ => ?_) | fail) | ((with_reducible show ACall _ _ _ _ _); refine ACall.of_pure (by assumption) (by rfl) ?_) | ((with_reducible show _ ∧ _ ∧ _); refine ⟨by omega, by omega, ?_⟩) | fail) <;> conv => whnf))
   all_goals try (exfalso; omega)
   all_goals rfl
 ·obtain ⟨h, hl⟩ := h
  rw [h] at q1
  by_cases hm : s.len ≠ 65535 ∧ (b.length : Int) ≠ s.len
  ·have hm1 := hm.1
   have hm2 := hm.2
   have e1 : setE s b = 14 := by unfold setE; rw [if_pos (.inr hm)]
   have e2 : setR s b r = zeroR := by unfold setR; rw [e1, if_neg (by decide)]
   rw [e1, e2]
   refine PCall.of_awp tok mixed fn125 (Nat.le_of_ble_eq_true rfl) ?_
   (conv => whnf); (repeat' ((first | (with_reducible first | refine Box.mk ?_ | refine And.intro (fun _ => ?_) (fun _ => ?_) | fail) | ((with_reducible show ACall _ _ _ _ _); refine ACall.of_pure (by assumption) (by rfl) ?_) | fail) <;> conv => whnf))
   all_goals try (exfalso; omega)
   all_goals rfl
  ·have hn : ¬ (saysS s = -1 ∨ (s.len ≠ 65535 ∧ (b.length : Int) ≠ s.len)) := fun hc => by
    rcases hc with hc | hc
    ·rw [h] at hc; cases hc
    ·exact hm hc
   have e1 : setE s b = 0 := by unfold setE; rw [if_neg hn, if_neg (by rw [h]; rintro ⟨hc | hc, _⟩ <;> cases hc)]
   have e2 : setR s b r = { r with a1 := addrK b } := by unfold setR updR; rw [e1, if_pos rfl, h]; rfl
   rw [e1, e2]
   have q2 : PCall P 140 [.sl (bcl b)] (kv (addrK b)) := by unfold addrK; rw [if_neg (by omega)]; exact fAddr6 b (by omega)
   generalize addrK b = k at *
   refine PCall.of_awp tok mixed fn125 (Nat.le_of_ble_eq_true rfl) ?_
   (conv => whnf); (repeat' ((first | (with_reducible first | refine Box.mk ?_ | refine And.intro (fun _ => ?_) (fun _ => ?_) | fail) | ((with_reducible show ACall _ _ _ _ _); refine ACall.of_pure (by assumption) (by rfl) ?_) | ((with_reducible show _ ∧ _ ∧ _); refine ⟨by omega, by omega, ?_⟩) | fail) <;> conv => whnf))
   all_goals try (exfalso; omega)
   all_goals rfl
 ·rw [h] at q1
  by_cases hm : s.len ≠ 65535 ∧ (b.length : Int) ≠ s.len
  ·have hm1 := hm.1
   have hm2 := hm.2
   have e1 : setE s b = 14 := by unfold setE; rw [if_pos (.inr hm)]
   have e2 : setR s b r = zeroR := by unfold setR; rw [e1, if_neg (by decide)]
   rw [e1, e2]
   refine PCall.of_awp tok mixed fn125 (Nat.le_of_ble_eq_true rfl) ?_
   (conv => whnf); (repeat' ((first | (with_reducible first | refine Box.mk ?_ | refine And.intro (fun _ => ?_) (fun _ => ?_) | fail) | ((with_reducible show ACall _ _ _ _ _); refine ACall.of_pure (by assumption) (by rfl) ?_) | fail) <;> conv => whnf))
   all_goals try (exfalso; omega)
   all_goals rfl
  ·have hn : ¬ (saysS s = -1 ∨ (s.len ≠ 65535 ∧ (b.length : Int) ≠ s.len)) := fun hc => by
    rcases hc with hc | hc
    ·rw [h] at hc; cases hc
    ·exact hm hc
   have q2 := fPath_ok s b hb
   cases hok : okPath (pathT s b) with
   | false =>
    have e1 : setE s b = 3 := by unfold setE; rw [if_neg hn, if_pos ⟨.inl h, hok⟩]
    have e2 : setR s b r = zeroR := by unfold setR; rw [e1, if_neg (by decide)]
    rw [hok] at q2
    rw [e1, e2]
    replace q2 := pEq q2 (show _ = AV.tup [kv zeroK, .int .i64 3] from rfl)
    refine PCall.of_awp tok mixed fn125 (Nat.le_of_ble_eq_true rfl) ?_
    (conv => whnf); (repeat' ((first | (with_reducible first | refine Box.mk ?_ | refine And.intro (fun _ => ?_) (fun _ => ?_) | fail) | ((with_reducible show ACall _ _ _ _ _); refine ACall.of_pure (by assumption) (by rfl) ?_) | ((with_reducible show _ ∧ _ ∧ _); refine ⟨by omega, by omega, ?_⟩) | fail) <;> conv => whnf))
    all_goals try (exfalso; omega)
    all_goals rfl
   | true =>
    have e1 : setE s b = 0 := by unfold setE; rw [if_neg hn, if_neg (fun hc => by rw [hok] at hc; cases hc.2)]
    have e2 : setR s b r = { r with p0 := ofPathK (pathT s b) } := by unfold setR updR; rw [e1, if_pos rfl, h]; rfl
    rw [hok] at q2
    rw [e1, e2]
    replace q2 := pEq q2 (show _ = AV.tup [kv (ofPathK (pathT s b)), .int .i64 0] from rfl)
    generalize ofPathK (pathT s b) = k at *
    refine PCall.of_awp tok mixed fn125 (Nat.le_of_ble_eq_true rfl) ?_
    (conv => whnf); (repeat' ((first | (with_reducible first | refine Box.mk ?_ | refine And.intro (fun _ => ?_) (fun _ => ?_) | fail) | ((with_reducible show ACall _ _ _ _ _); refine ACall.of_pure (by assumption) (by rfl) ?_) | ((with_reducible show _ ∧ _ ∧ _); refine ⟨by omega, by omega, ?_⟩) | fail) <;> conv => whnf))
    all_goals try (exfalso; omega)
    all_goals rfl
 ·rw [h] at q1
  by_cases hm : s.len ≠ 65535 ∧ (b.length : Int) ≠ s.len
  ·have hm1 := hm.1
   have hm2 := hm.2
   have e1 : setE s b = 14 := by unfold setE; rw [if_pos (.inr hm)]
   have e2 : setR s b r = zeroR := by unfold setR; rw [e1, if_neg (by decide)]
   rw [e1, e2]
   refine PCall.of_awp tok mixed fn125 (Nat.le_of_ble_eq_true rfl) ?_
   (conv => whnf); (repeat' ((first | (with_reducible first | refine Box.mk ?_ | refine And.intro (fun _ => ?_) (fun _ => ?_) | fail) | ((with_reducible show ACall _ _ _ _ _); refine ACall.of_pure (by assumption) (by rfl) ?_) | fail) <;> conv => whnf))
   all_goals try (exfalso; omega)
   all_goals rfl
  ·have hn : ¬ (saysS s = -1 ∨ (s.len ≠ 65535 ∧ (b.length : Int) ≠ s.len)) := fun hc => by
    rcases hc with hc | hc
    ·rw [h] at hc; cases hc
    ·exact hm hc
   have q2 := fPath_ok s b hb
   cases hok : okPath (pathT s b) with
   | false =>
    have e1 : setE s b = 3 := by unfold setE; rw [if_neg hn, if_pos ⟨.inr h, hok⟩]
    have e2 : setR s b r = zeroR := by unfold setR; rw [e1, if_neg (by decide)]
    rw [hok] at q2
    rw [e1, e2]
    replace q2 := pEq q2 (show _ = AV.tup [kv zeroK, .int .i64 3] from rfl)
    refine PCall.of_awp tok mixed fn125 (Nat.le_of_ble_eq_true rfl) ?_
    (conv => whnf); (repeat' ((first | (with_reducible first | refine Box.mk ?_ | refine And.intro (fun _ => ?_) (fun _ => ?_) | fail) | ((with_reducible show ACall _ _ _ _ _); refine ACall.of_pure (by assumption) (by rfl) ?_) | ((with_reducible show _ ∧ _ ∧ _); refine ⟨by omega, by omega, ?_⟩) | fail) <;> conv => whnf))
    all_goals try (exfalso; omega)
    all_goals rfl
   | true =>
    have e1 : setE s b = 0 := by unfold setE; rw [if_neg hn, if_neg (fun hc => by rw [hok] at hc; cases hc.2)]
    have e2 : setR s b r = { r with p1 := ofPathK (pathT s b) } := by unfold setR updR; rw [e1, if_pos rfl, h]; rfl
    rw [hok] at q2
    rw [e1, e2]
    replace q2 := pEq q2 (show _ = AV.tup [kv (ofPathK (pathT s b)), .int .i64 0] from rfl)
    generalize ofPathK (pathT s b) = k at *
    refine PCall.of_awp tok mixed fn125 (Nat.le_of_ble_eq_true rfl) ?_
    (conv => whnf); (repeat' ((first | (with_reducible first | refine Box.mk ?_ | refine And.intro (fun _ => ?_) (fun _ => ?_) | fail) | ((with_reducible show ACall _ _ _ _ _); refine ACall.of_pure (by assumption) (by rfl) ?_) | ((with_reducible show _ ∧ _ ∧ _); refine ⟨by omega, by omega, ?_⟩) | fail) <;> conv => whnf))
    all_goals try (exfalso; omega)
    all_goals rfl
end Go.Proofs.YtnajpmepcffnaaaGreatDoor
end

section
/- field: the value that says of a flow what a field says. -/
namespace Go.Proofs.YtnajpmepcffnaaaGreatDoor
open Go.Ve

def bytesK (k : Ky) (kind : Int) (n : Nat) : Bs := if k.kind = kind then (numB (k.n / H64) 8 ++ numB (k.n % H64) 8).take n else List.replicate n 0
def textK (k : Ky) : Bs := if k.kind = 3 ∧ okPath k.path = true then k.path else []
def ofR (r : Rc) (s : Sc) : Bs :=
 if saysS s = 1 then numB r.by_ (szN s.len) else if saysS s = 2 then numB r.pk (szN s.len) else
 if saysS s = 3 then bytesK r.a0 1 4 else if saysS s = 4 then bytesK r.a1 1 4 else if saysS s = 5 then bytesK r.a0 2 16 else if saysS s = 6 then bytesK r.a1 2 16 else
 if saysS s = 7 then textK r.p0 else if saysS s = 8 then textK r.p1 else []
theorem fBytes_ok (k : Ky) (kind : Int) (n : Nat) (hn : n ≤ 16) : DCall P 91 [kv k, .int .i64 kind, .int .i64 n] [] (.sl (bcl (bytesK k kind n))) [] := by
 have q1 := wWideN (k.n / H64) (k.n % H64)
 have q2 := wBytesR (numB (k.n / H64) 8 ++ numB (k.n % H64) 8) (by rw [List.length_append, numB_len, numB_len]; decide)
 have hl : (numB (k.n / H64) 8 ++ numB (k.n % H64) 8).length = 16 := by rw [List.length_append, numB_len, numB_len]
 have hT : k.kind = kind → bytesK k kind n = (numB (k.n / H64) 8 ++ numB (k.n % H64) 8).take n := fun h => by unfold bytesK; rw [if_pos h]
 have hF : ¬ k.kind = kind → bytesK k kind n = List.replicate n 0 := fun h => by unfold bytesK; rw [if_neg h]
 have hz := zeros_bcl n
 generalize numB (k.n / H64) 8 ++ numB (k.n % H64) 8 = w at *
 have hbl := bcl_len w
 have hc : List.drop 0 (List.take ((n : Nat) : Int).toNat (bcl w)) = bcl (w.take n) := cut_bcl w n
 refine DCall.of_awp tok mixed fn91 (Nat.le_of_ble_eq_true rfl) ?_
 (conv => whnf); (repeat' ((first | (with_reducible first | refine Box.mk ?_ | refine And.intro (fun _ => ?_) (fun _ => ?_) | fail) | ((with_reducible show _ ∧ _ ∧ _); refine ⟨by omega, by omega, ?_⟩) | fail) <;> conv => whnf))
 ·rename_i h
  rw [hT h]
  refine aW [1] q1 rfl rfl rfl ?_
  (conv => whnf); repeat' ((with_reducible refine Box.mk ?_) <;> conv => whnf)
  refine aW [1, 2] q2 rfl rfl rfl ?_
  (conv => whnf); (repeat' ((first | (with_reducible refine Box.mk ?_) | ((with_reducible show _ ∧ _ ∧ _); refine ⟨by omega, by omega, ?_⟩) | fail) <;> conv => whnf))
  refine ⟨bcl_all _, ?_⟩
  rw [hc]
  (conv => whnf); repeat' ((with_reducible refine Box.mk ?_) <;> conv => whnf)
  exact weak_ren_to [] rfl rfl rfl ⟨rfl, trivial⟩
 ·rename_i h
  rw [hF h]
  refine ⟨by show (n : Int) * ((1 : Nat) : Int) ≤ _; omega, by omega, ?_⟩
  (conv => whnf); repeat' ((with_reducible refine Box.mk ?_) <;> conv => whnf)
  show Weak _ ⟨_, [_, Ob.row _ _ (List.replicate n [AV.int .u8 0])]⟩ _
  rw [hz]
  exact weak_cr 1 [] rfl rfl rfl rfl rfl
theorem fText_ok (k : Ky) (hk : k.path.length < 4294967281) : PCall P 92 [kv k] (.sl (bcl (textK k))) ∨ (textK k = [] ∧ PCall P 92 [kv k] .nils) := by
 have q := right_ok k.path hk
 by_cases h3 : k.kind = 3
 ·cases hok : okPath k.path with
  | true =>
   rw [hok] at q
   have e : textK k = k.path := by unfold textK; rw [if_pos ⟨h3, hok⟩]
   refine .inl ?_
   rw [e]
   refine PCall.of_awp tok mixed fn92 (Nat.le_of_ble_eq_true rfl) ?_
   (conv => whnf); (repeat' ((first | (with_reducible first | refine Box.mk ?_ | refine And.intro (fun _ => ?_) (fun _ => ?_) | fail) | ((with_reducible show ACall _ _ _ _ _); refine ACall.of_pure (by assumption) (by rfl) ?_) | fail) <;> conv => whnf))
   all_goals try (exfalso; omega)
   refine ⟨by omega, ?_⟩
   (conv => whnf); repeat' ((with_reducible refine Box.mk ?_) <;> conv => whnf)
   rfl
  | false =>
   rw [hok] at q
   refine .inr ⟨by unfold textK; rw [if_neg (fun h => by rw [hok] at h; cases h.2)], ?_⟩
   refine PCall.of_awp tok mixed fn92 (Nat.le_of_ble_eq_true rfl) ?_
   (conv => whnf); (repeat' ((first | (with_reducible first | refine Box.mk ?_ | refine And.intro (fun _ => ?_) (fun _ => ?_) | fail) | ((with_reducible show ACall _ _ _ _ _); refine ACall.of_pure (by assumption) (by rfl) ?_) | fail) <;> conv => whnf))
   all_goals try (exfalso; omega)
   rfl
 ·refine .inr ⟨by unfold textK; rw [if_neg (fun h => h3 h.1)], ?_⟩
  refine PCall.of_awp tok mixed fn92 (Nat.le_of_ble_eq_true rfl) ?_
  (conv => whnf); (repeat' ((first | (with_reducible first | refine Box.mk ?_ | refine And.intro (fun _ => ?_) (fun _ => ?_) | fail) | ((with_reducible show ACall _ _ _ _ _); refine ACall.of_pure (by assumption) (by rfl) ?_) | fail) <;> conv => whnf))
  all_goals try contradiction
  rfl
set_option maxHeartbeats 8000000 in
theorem fOf_ok (r : Rc) (s : Sc) (h0 : r.p0.path.length < 4294967281) (h1 : r.p1.path.length < 4294967281) : DCall P 62 [rcv r, sv s] [] (.sl (bcl (ofR r s))) [] := by
 have q1 := fSays_ok s
 rcases says_cases s with h | h | ⟨hR, h | h | h | h | h | h | h | h⟩
 ·rw [h] at q1
  have e : ofR r s = [] := by unfold ofR; rw [h]; rfl
  rw [e]
  refine DCall.of_awp tok mixed fn62 (Nat.le_of_ble_eq_true rfl) ?_
  (conv => whnf); (repeat' ((first | (with_reducible first | refine Box.mk ?_ | refine And.intro (fun _ => ?_) (fun _ => ?_) | fail) | ((with_reducible show ACall _ _ _ _ _); refine ACall.of_pure (by assumption) (by rfl) ?_) | ((with_reducible show _ ∧ _ ∧ _); refine ⟨by omega, by omega, ?_⟩) | fail) <;> conv => whnf))
  all_goals try (exfalso; omega)
  exact weak_nr [] rfl rfl rfl rfl
 ·rw [h] at q1
  have e : ofR r s = [] := by unfold ofR; rw [h]; rfl
  rw [e]
  refine DCall.of_awp tok mixed fn62 (Nat.le_of_ble_eq_true rfl) ?_
  (conv => whnf); (repeat' ((first | (with_reducible first | refine Box.mk ?_ | refine And.intro (fun _ => ?_) (fun _ => ?_) | fail) | ((with_reducible show ACall _ _ _ _ _); refine ACall.of_pure (by assumption) (by rfl) ?_) | ((with_reducible show _ ∧ _ ∧ _); refine ⟨by omega, by omega, ?_⟩) | fail) <;> conv => whnf))
  all_goals try (exfalso; omega)
  exact weak_nr [] rfl rfl rfl rfl
 ·obtain ⟨h, hl1, hl2⟩ := h
  rw [h] at q1
  have e : ofR r s = numB r.by_ (szN s.len) := by unfold ofR; rw [h]; rfl
  rw [e]
  have q2 := wNumN r.by_ s.len
  have hz := szN_pos s.len
  have q3 := wBytesR (numB r.by_ (szN s.len)) (by rw [numB_len]; omega)
  generalize numB r.by_ (szN s.len) = w at *
  refine DCall.of_awp tok mixed fn62 (Nat.le_of_ble_eq_true rfl) ?_
  (conv => whnf); (repeat' ((first | (with_reducible first | refine Box.mk ?_ | refine And.intro (fun _ => ?_) (fun _ => ?_) | fail) | ((with_reducible show ACall _ _ _ _ _); refine ACall.of_pure (by assumption) (by rfl) ?_) | ((with_reducible show _ ∧ _ ∧ _); refine ⟨by omega, by omega, ?_⟩) | fail) <;> conv => whnf))
  all_goals try (exfalso; omega)
  refine aW [2] q2 rfl rfl rfl ?_
  (conv => whnf); repeat' ((with_reducible refine Box.mk ?_) <;> conv => whnf)
  refine aW [2, 3] q3 rfl rfl rfl ?_
  (conv => whnf); repeat' ((with_reducible refine Box.mk ?_) <;> conv => whnf)
  exact weak_ren_to [] rfl rfl rfl ⟨rfl, trivial⟩
 ·obtain ⟨h, hl1, hl2⟩ := h
  rw [h] at q1
  have e : ofR r s = numB r.pk (szN s.len) := by unfold ofR; rw [h]; rfl
  rw [e]
  have q2 := wNumN r.pk s.len
  have hz := szN_pos s.len
  have q3 := wBytesR (numB r.pk (szN s.len)) (by rw [numB_len]; omega)
  generalize numB r.pk (szN s.len) = w at *
  refine DCall.of_awp tok mixed fn62 (Nat.le_of_ble_eq_true rfl) ?_
  (conv => whnf); (repeat' ((first | (with_reducible first | refine Box.mk ?_ | refine And.intro (fun _ => ?_) (fun _ => ?_) | fail) | ((with_reducible show ACall _ _ _ _ _); refine ACall.of_pure (by assumption) (by rfl) ?_) | ((with_reducible show _ ∧ _ ∧ _); refine ⟨by omega, by omega, ?_⟩) | fail) <;> conv => whnf))
  all_goals try (exfalso; omega)
  refine aW [2] q2 rfl rfl rfl ?_
  (conv => whnf); repeat' ((with_reducible refine Box.mk ?_) <;> conv => whnf)
  refine aW [2, 3] q3 rfl rfl rfl ?_
  (conv => whnf); repeat' ((with_reducible refine Box.mk ?_) <;> conv => whnf)
  exact weak_ren_to [] rfl rfl rfl ⟨rfl, trivial⟩
 ·obtain ⟨h, hl⟩ := h
  rw [h] at q1
  have e : ofR r s = bytesK r.a0 1 4 := by unfold ofR; rw [h]; rfl
  rw [e]
  have q2 := fBytes_ok r.a0 1 4 (by decide)
  generalize bytesK r.a0 1 4 = w at *
  refine DCall.of_awp tok mixed fn62 (Nat.le_of_ble_eq_true rfl) ?_
  (conv => whnf); (repeat' ((first | (with_reducible first | refine Box.mk ?_ | refine And.intro (fun _ => ?_) (fun _ => ?_) | fail) | ((with_reducible show ACall _ _ _ _ _); refine ACall.of_pure (by assumption) (by rfl) ?_) | ((with_reducible show _ ∧ _ ∧ _); refine ⟨by omega, by omega, ?_⟩) | fail) <;> conv => whnf))
  all_goals try (exfalso; omega)
  refine aW [] q2 rfl rfl rfl ?_
  (conv => whnf); repeat' ((with_reducible refine Box.mk ?_) <;> conv => whnf)
  exact weak_ren_to [] rfl rfl rfl ⟨rfl, trivial⟩
 ·obtain ⟨h, hl⟩ := h
  rw [h] at q1
  have e : ofR r s = bytesK r.a1 1 4 := by unfold ofR; rw [h]; rfl
  rw [e]
  have q2 := fBytes_ok r.a1 1 4 (by decide)
  generalize bytesK r.a1 1 4 = w at *
  refine DCall.of_awp tok mixed fn62 (Nat.le_of_ble_eq_true rfl) ?_
  (conv => whnf); (repeat' ((first | (with_reducible first | refine Box.mk ?_ | refine And.intro (fun _ => ?_) (fun _ => ?_) | fail) | ((with_reducible show ACall _ _ _ _ _); refine ACall.of_pure (by assumption) (by rfl) ?_) | ((with_reducible show _ ∧ _ ∧ _); refine ⟨by omega, by omega, ?_⟩) | fail) <;> conv => whnf))
  all_goals try (exfalso; omega)
  refine aW [] q2 rfl rfl rfl ?_
  (conv => whnf); repeat' ((with_reducible refine Box.mk ?_) <;> conv => whnf)
  exact weak_ren_to [] rfl rfl rfl ⟨rfl, trivial⟩
 ·obtain ⟨h, hl⟩ := h
  rw [h] at q1
  have e : ofR r s = bytesK r.a0 2 16 := by unfold ofR; rw [h]; rfl
  rw [e]
  have q2 := fBytes_ok r.a0 2 16 (by decide)
  generalize bytesK r.a0 2 16 = w at *
  refine DCall.of_awp tok mixed fn62 (Nat.le_of_ble_eq_true rfl) ?_
  (conv => whnf); (repeat' ((first | (with_reducible first | refine Box.mk ?_ | refine And.intro (fun _ => ?_) (fun _ => ?_) | fail) | ((with_reducible show ACall _ _ _ _ _); refine ACall.of_pure (by assumption) (by rfl) ?_) | ((with_reducible show _ ∧ _ ∧ _); refine ⟨by omega, by omega, ?_⟩) | fail) <;> conv => whnf))
  all_goals try (exfalso; omega)
  refine aW [] q2 rfl rfl rfl ?_
  (conv => whnf); repeat' ((with_reducible refine Box.mk ?_) <;> conv => whnf)
  exact weak_ren_to [] rfl rfl rfl ⟨rfl, trivial⟩
 ·obtain ⟨h, hl⟩ := h
  rw [h] at q1
  have e : ofR r s = bytesK r.a1 2 16 := by unfold ofR; rw [h]; rfl
  rw [e]
  have q2 := fBytes_ok r.a1 2 16 (by decide)
  generalize bytesK r.a1 2 16 = w at *
  refine DCall.of_awp tok mixed fn62 (Nat.le_of_ble_eq_true rfl) ?_
  (conv => whnf); (repeat' ((first | (with_reducible first | refine Box.mk ?_ | refine And.intro (fun _ => ?_) (fun _ => ?_) | fail) | ((with_reducible show ACall _ _ _ _ _); refine ACall.of_pure (by assumption) (by rfl) ?_) | ((with_reducible show _ ∧ _ ∧ _); refine ⟨by omega, by omega, ?_⟩) | fail) <;> conv => whnf))
  all_goals try (exfalso; omega)
  refine aW [] q2 rfl rfl rfl ?_
  (conv => whnf); repeat' ((with_reducible refine Box.mk ?_) <;> conv => whnf)
  exact weak_ren_to [] rfl rfl rfl ⟨rfl, trivial⟩
 ·rw [h] at q1
  have e : ofR r s = textK r.p0 := by unfold ofR; rw [h]; rfl
  rw [e]
  rcases fText_ok r.p0 h0 with q2 | ⟨e2, q2⟩
  ·generalize textK r.p0 = w at *
   refine DCall.of_awp tok mixed fn62 (Nat.le_of_ble_eq_true rfl) ?_
   (conv => whnf); (repeat' ((first | (with_reducible first | refine Box.mk ?_ | refine And.intro (fun _ => ?_) (fun _ => ?_) | fail) | ((with_reducible show ACall _ _ _ _ _); refine ACall.of_pure (by assumption) (by rfl) ?_) | ((with_reducible show _ ∧ _ ∧ _); refine ⟨by omega, by omega, ?_⟩) | fail) <;> conv => whnf))
   all_goals try (exfalso; omega)
   exact weak_ren_to [] rfl rfl rfl ⟨rfl, trivial⟩
  ·rw [e2]
   refine DCall.of_awp tok mixed fn62 (Nat.le_of_ble_eq_true rfl) ?_
   (conv => whnf); (repeat' ((first | (with_reducible first | refine Box.mk ?_ | refine And.intro (fun _ => ?_) (fun _ => ?_) | fail) | ((with_reducible show ACall _ _ _ _ _); refine ACall.of_pure (by assumption) (by rfl) ?_) | ((with_reducible show _ ∧ _ ∧ _); refine ⟨by omega, by omega, ?_⟩) | fail) <;> conv => whnf))
   all_goals try (exfalso; omega)
   exact weak_nr [] rfl rfl rfl rfl
 ·rw [h] at q1
  have e : ofR r s = textK r.p1 := by unfold ofR; rw [h]; rfl
  rw [e]
  rcases fText_ok r.p1 h1 with q2 | ⟨e2, q2⟩
  ·generalize textK r.p1 = w at *
   refine DCall.of_awp tok mixed fn62 (Nat.le_of_ble_eq_true rfl) ?_
   (conv => whnf); (repeat' ((first | (with_reducible first | refine Box.mk ?_ | refine And.intro (fun _ => ?_) (fun _ => ?_) | fail) | ((with_reducible show ACall _ _ _ _ _); refine ACall.of_pure (by assumption) (by rfl) ?_) | ((with_reducible show _ ∧ _ ∧ _); refine ⟨by omega, by omega, ?_⟩) | fail) <;> conv => whnf))
   all_goals try (exfalso; omega)
   exact weak_ren_to [] rfl rfl rfl ⟨rfl, trivial⟩
  ·rw [e2]
   refine DCall.of_awp tok mixed fn62 (Nat.le_of_ble_eq_true rfl) ?_
   (conv => whnf); (repeat' ((first | (with_reducible first | refine Box.mk ?_ | refine And.intro (fun _ => ?_) (fun _ => ?_) | fail) | ((with_reducible show ACall _ _ _ _ _); refine ACall.of_pure (by assumption) (by rfl) ?_) | ((with_reducible show _ ∧ _ ∧ _); refine ⟨by omega, by omega, ?_⟩) | fail) <;> conv => whnf))
   all_goals try (exfalso; omega)
   exact weak_nr [] rfl rfl rfl rfl
end Go.Proofs.YtnajpmepcffnaaaGreatDoor
end

section
/- field: what was written is read (plain). -/
namespace Go.Proofs.YtnajpmepcffnaaaGreatDoor
open Go.Ve

theorem rw_full {x R : Bs} {n : Int} (h : (x.length : Int) = n) : rawF n (x ++ R) 0 = (x, R, 0) := by
 unfold rawF
 have h0 : mustE 0 (decide (0 ≤ n)) = 0 := by rw [decide_eq_true (by omega)]; rfl
 rw [if_neg (fun hc => hc h0), if_neg (by rw [List.length_append]; omega), ← h, Int.toNat_natCast, List.take_left, List.drop_left]
theorem mst_err {e : Int} (he : e ≠ 0) (b : Bool) : mustE e b = e := by
 unfold mustE; rw [if_neg (fun h => he h.1)]
theorem mst_ok (e : Int) : mustE e true = e := by
 unfold mustE; rw [if_neg (fun h => by cases h.2)]
end Go.Proofs.YtnajpmepcffnaaaGreatDoor
end

section
/- label: the walk of the statement on joined labels. -/
namespace Go.Proofs.YtnajpmepcffnaaaGreatDoor
open Go.Ve

end Go.Proofs.YtnajpmepcffnaaaGreatDoor
end

section
/- label: there and back: the walk of the statement. -/
namespace Go.Proofs.YtnajpmepcffnaaaGreatDoor
open Go.Ve

theorem splitDot_app : ∀ {x : Bs} (s : Bs), (∀ c ∈ x, c ≠ 46) → splitDot (x ++ 46 :: s) = x :: splitDot s
 | [], s, _ => by simp [splitDot]
 | c :: x, s, h => by
  have hc := h c List.mem_cons_self
  simp [splitDot, hc, splitDot_app s fun d hd => h d (List.mem_cons_of_mem _ hd)]
theorem splitDot_one : ∀ {x : Bs}, (∀ c ∈ x, c ≠ 46) → splitDot x = [x]
 | [], _ => rfl
 | c :: x, h => by
  have hc := h c List.mem_cons_self
  simp [splitDot, hc, splitDot_one fun d hd => h d (List.mem_cons_of_mem _ hd)]
theorem splitDot_join : ∀ {L : List Bs}, L ≠ [] → (∀ x ∈ L, ∀ c ∈ x, c ≠ 46) → splitDot (joinD L) = L
 | [], h, _ => absurd rfl h
 | [x], _, h => splitDot_one (h x List.mem_cons_self)
 | x :: y :: r, _, h => by
  rw [joinD, splitDot_app _ (h x List.mem_cons_self), splitDot_join (by simp) fun z hz => h z (List.mem_cons_of_mem _ hz)]
theorem label_nodot {x : Bs} (h : isLabel x = true) : ∀ c ∈ x, c ≠ 46 := by
 simp only [isLabel, Bool.and_eq_true, List.all_eq_true, decide_eq_true_eq] at h
 intro c hc e
 have := h.1 c hc
 subst e
 revert this
 decide
theorem labs_join {L : List Bs} (h : ∀ x ∈ L, isLabel x = true) (h8 : L.length ≤ 8) : okPath (joinD L) = true ∧ labs (joinD L) = L := by
 by_cases hne : L = []
 ·subst hne; exact ⟨rfl, rfl⟩
 ·have hs := splitDot_join hne fun x hx => label_nodot (h x hx)
  have hj : joinD L ≠ [] := by
   intro e
   rw [e] at hs
   have : ([] : Bs) ∈ L := by rw [← hs]; simp [splitDot]
   have := h [] this
   simp [isLabel] at this
  obtain ⟨h1, h2⟩ := okPath_true hj (by rw [hs]; exact h) (by rw [hs]; exact h8)
  refine ⟨h1, ?_⟩
  unfold labs
  have : (joinD L).isEmpty = false := by cases e : joinD L with | nil => exact absurd e hj | cons => rfl
  rw [this, h1]; exact hs
theorem labs_lab {p : Bs} : ∀ x ∈ labs p, isLabel x = true := by
 rcases path_cases p with ⟨_, e⟩ | ⟨_, e, e3, e4⟩
 ·rw [e]; simp
 ·have hp : p.isEmpty = false := by cases p with | nil => exact absurd rfl e3 | cons => rfl
  simp [okPath, hp] at e4
  rw [e]; exact e4.2
theorem join_labs {p : Bs} (h : okPath p = true) : joinD (labs p) = p := by
 by_cases hp : p = []
 ·subst hp; rfl
 ·have : p.isEmpty = false := by cases p with | nil => exact absurd rfl hp | cons => rfl
  unfold labs
  rw [this, h]; exact joinD_split p
end Go.Proofs.YtnajpmepcffnaaaGreatDoor
end

section
/- field: what is set, and what is told of it (plain). -/
namespace Go.Proofs.YtnajpmepcffnaaaGreatDoor
open Go.Ve

end Go.Proofs.YtnajpmepcffnaaaGreatDoor
end

section
/- key: over, and where two keys meet. -/
namespace Go.Proofs.YtnajpmepcffnaaaGreatDoor
open Go.Ve

end Go.Proofs.YtnajpmepcffnaaaGreatDoor
end

section
/- key: which key stands ahead. -/
namespace Go.Proofs.YtnajpmepcffnaaaGreatDoor
open Go.Ve

theorem nanI_ok [Dr] (a : Int) : PCall P 97 [.int .i64 a] (.bool false) := by
 refine PCall.of_awp tok mixed fn97 (Nat.le_of_ble_eq_true rfl) ?_
 conv => whnf
 repeat' ((with_reducible first | refine Box.mk ?_ | refine And.intro (fun _ => ?_) (fun _ => ?_) | fail) <;> conv => whnf)
 ·rfl
 ·exact absurd rfl ‹¬ a = a›
def cmpI (a b : Int) : Int := if a < b then -1 else if b < a then 1 else 0
theorem cmpI_ok [Dr] (a b : Int) : PCall P 71 [.int .i64 a, .int .i64 b] (.int .i64 (cmpI a b)) := by
 refine PCall.of_awp tok mixed fn71 (Nat.le_of_ble_eq_true rfl) ?_
 conv => whnf
 repeat' ((with_reducible refine Box.mk ?_) <;> conv => whnf)
 refine ACall.of_pure (nanI_ok a) rfl ?_
 conv => whnf
 repeat' ((with_reducible refine Box.mk ?_) <;> conv => whnf)
 refine ACall.of_pure (nanI_ok b) rfl ?_
 conv => whnf
 repeat' ((with_reducible first | refine Box.mk ?_ | refine And.intro (fun _ => ?_) (fun _ => ?_) | fail) <;> conv => whnf)
 all_goals (refine res1_eq (congrArg (AV.int .i64) ?_); unfold cmpI)
 ·rename_i h; rw [if_pos h]
 ·rename_i h h'; rw [if_neg h, if_pos h']
 ·rename_i h h'; rw [if_neg h, if_neg h']
def orI : List Int → Int
 | [] => 0
 | x :: xs => if x = 0 then orI xs else x
def ints (l : List Int) : List (List AV) := l.map fun x => [.int .i64 x]
theorem orI_hit : ∀ {l : List Int} {i : Nat} {x : Int}, l[i]? = some x → x ≠ 0 → (∀ j y, j < i → l[j]? = some y → y = 0) → orI l = x
 | [], i, x, h, _, _ => by simp at h
 | y :: l, 0, x, h, hx, _ => by simp at h; subst h; simp [orI, hx]
 | y :: l, i + 1, x, h, hx, hn => by
  rw [orI, if_pos (hn 0 y (by omega) rfl), orI_hit (i := i) (by simpa using h) hx fun j z hj hz => hn (j + 1) z (by omega) (by simpa using hz)]
theorem orI_miss : ∀ {l : List Int}, (∀ y ∈ l, y = 0) → orI l = 0
 | [], _ => rfl
 | y :: l, h => by rw [orI, if_pos (h y List.mem_cons_self), orI_miss fun z hz => h z (List.mem_cons_of_mem _ hz)]
theorem cmpOr_ok [Dr] (l : List Int) (hl : l.length ≤ 9223372036854775807) : PCall P 69 [.sl (ints l)] (.int .i64 (orI l)) := by
 have hlen : (ints l).length = l.length := by simp [ints]
 refine PCall.of_awp tok mixed fn69 (Nat.le_of_ble_eq_true rfl) ?_
 conv => whnf
 repeat' ((with_reducible refine Box.mk ?_) <;> conv => whnf)
 refine aloop (fun i => i ≤ l.length ∧ ∀ j y, j < i → l[j]? = some y → y = 0) (fun i : Nat => ⟨envL [(3, .int .i64 0), (6, .sl (ints l)), (7, .int .i64 l.length), (8, .int .i64 i)], []⟩) (fun i => l.length - i) 0
  ⟨Nat.zero_le _, fun j y h => by omega⟩ (weak_to ⟨rfl, rfl, by show AV.int _ _ = _; rw [hlen], rfl, trivial⟩ rfl) ?_
 rintro i ⟨hi, hz⟩
 conv => whnf
 repeat' ((with_reducible first | refine Box.mk ?_ | refine And.intro (fun _ => ?_) (fun _ => ?_) | fail) <;> conv => whnf)
 ·rename_i hlt
  have hlt' : i < l.length := by omega
  refine ⟨by omega, [.int .i64 l[i]], by show (ints l)[i]? = _; simp [ints, hlt'], rfl, ?_⟩
  conv => whnf
  repeat' ((with_reducible first | refine Box.mk ?_ | refine And.intro (fun _ => ?_) (fun _ => ?_) | fail) <;> conv => whnf)
  ·rename_i h0
   refine ⟨i + 1, ⟨hlt', fun j y hj hy => ?_⟩, by omega, weak_to ⟨rfl, rfl, rfl, wrap_nat (m := 1) (by omega), trivial⟩ rfl⟩
   by_cases hji : j = i
   ·subst hji
    rw [List.getElem?_eq_getElem hlt'] at hy
    rw [← Option.some.inj hy]; exact h0
   ·exact hz j y (by omega) hy
  ·rename_i h0
   refine res1_eq (congrArg (AV.int .i64) ?_)
   rw [orI_hit (List.getElem?_eq_getElem hlt') h0 hz]
 ·refine res1_eq (congrArg (AV.int .i64) ?_)
  rw [orI_miss]
  intro y hy
  obtain ⟨j, hj⟩ := List.getElem?_of_mem hy
  exact hz j y (by have := (List.getElem?_eq_some_iff.1 hj).1; omega) hj
end Go.Proofs.YtnajpmepcffnaaaGreatDoor
end

section
/- key: which key stands ahead, further. -/
namespace Go.Proofs.YtnajpmepcffnaaaGreatDoor
open Go.Ve

end Go.Proofs.YtnajpmepcffnaaaGreatDoor
end

section
/- dim: what its functions compute. -/
namespace Go.Proofs.YtnajpmepcffnaaaGreatDoor
open Go.Ve

structure Dm where
 kind : Int
 side : Int
 step : Int
 deriving DecidableEq
def rightD (d : Dm) : Bool := decide ((d.side = 1 ∨ d.side = 2) ∧ 1 ≤ d.step ∧ d.step ≤ widthK d.kind)
theorem rightD_step {d : Dm} (h : rightD d = true) : (d.side = 1 ∨ d.side = 2) ∧ 1 ≤ d.step ∧ d.step ≤ widthK d.kind := of_decide_eq_true h
def depthD (d : Dm) : Int := bif rightD d then (widthK d.kind + d.step - 1) / d.step else 0
def lenD (d : Dm) (l : Int) : Int := if rightD d = true ∧ 0 ≤ l ∧ l ≤ depthD d then max 0 (widthK d.kind - l * d.step) else -1
def onD (d : Dm) (l : Int) (k : Ky) : Bool := rightK k && decide (0 ≤ lenD d l ∧ k.kind = d.kind ∧ (k.len = lenD d l ∨ (k.kind = 3 ∧ k.len < lenD d l)))
def cutD (d : Dm) (l : Int) (k : Ky) : Ky := if lenD d l < 0 ∨ k.kind ≠ d.kind then zeroK else cutU k (lenD d l)
end Go.Proofs.YtnajpmepcffnaaaGreatDoor
end

section
/- prefix: what its functions compute. -/
namespace Go.Proofs.YtnajpmepcffnaaaGreatDoor
open Go.Ve

end Go.Proofs.YtnajpmepcffnaaaGreatDoor
end

section
/- key: what must come of fixed calls. -/
namespace Go.Proofs.YtnajpmepcffnaaaGreatDoor
open Go.Ve

def km : Ky := ⟨3, 2, 0, [110, 101, 116, 46, 100, 99, 49]⟩
end Go.Proofs.YtnajpmepcffnaaaGreatDoor
end

section
/- key, the document's answer: widths and bits. -/
namespace Go.Proofs.YtnajpmepcffnaaaGreatDoor
open Go.Ve

end Go.Proofs.YtnajpmepcffnaaaGreatDoor
end

section
/- key, the document's answer: a key's letters. -/
namespace Go.Proofs.YtnajpmepcffnaaaGreatDoor
open Go.Ve

def letter (N i : Nat) : Bs := if N.testBit (127 - i) then [49] else [48]
def letB (N n : Nat) : List Bs := (List.range n).map (letter N)
theorem letB_len (N n : Nat) : (letB N n).length = n := by simp [letB]
def lettersL (k : Ky) : List Bs := if k.kind = 3 then labs k.path else letB k.n k.len.toNat
end Go.Proofs.YtnajpmepcffnaaaGreatDoor
end

section
/- key, the document's answer: the walk of a key's letters. -/
namespace Go.Proofs.YtnajpmepcffnaaaGreatDoor
open Go.Ve

end Go.Proofs.YtnajpmepcffnaaaGreatDoor
end

section
/- key, the document's answer: a key out of its letters. -/
namespace Go.Proofs.YtnajpmepcffnaaaGreatDoor
open Go.Ve

end Go.Proofs.YtnajpmepcffnaaaGreatDoor
end

section
/- key, the document's answer: Right, Root, Four, Six. -/
namespace Go.Proofs.YtnajpmepcffnaaaGreatDoor
open Go.Ve

theorem rFour_ok (a : Nat) (ha : a < 4294967296) : PCall P 84 [.int .u32 (a : Int)] (kv ⟨1, 32, a * 2 ^ 96, []⟩) := by
 refine PCall.of_awp tok mixed fn84 (Nat.le_of_ble_eq_true rfl) ?_
 conv => whnf
 repeat' ((first | (with_reducible first | refine Box.mk ?_ | refine And.intro (fun _ => ?_) (fun _ => ?_) | refine (forceH_eq _ _).mpr ?_) | fail) <;> conv => whnf)
 show AV.agg [_, _, .int .u64 (IntKind.u64.wrap (IntKind.u64.wrap (a : Int) * 4294967296)), _, _] = AV.agg [_, _, _, _, _]
 have e : a * 2 ^ 96 = a * 4294967296 * H64 := by rw [Nat.mul_assoc]; rfl
 have h1 : a * 2 ^ 96 / H64 = a * 4294967296 := by rw [e, Nat.mul_div_cancel _ (by decide)]
 have h2 : a * 2 ^ 96 % H64 = 0 := by rw [e]; exact Nat.mul_mod_left _ _
 rw [wrap_u64 (n := (a : Int)) (by omega) (by omega), wrap_u64 (by omega) (by omega), h1, h2, Int.natCast_mul]
 rfl

theorem rSix_ok (N : Nat) : PCall P 85 [.int .u64 ((N / H64 : Nat) : Int), .int .u64 ((N % H64 : Nat) : Int)] (kv ⟨2, 128, N, []⟩) := by
 refine PCall.of_awp tok mixed fn85 (Nat.le_of_ble_eq_true rfl) ?_
 conv => whnf
 repeat' ((first | (with_reducible first | refine Box.mk ?_ | refine And.intro (fun _ => ?_) (fun _ => ?_) | refine (forceH_eq _ _).mpr ?_) | fail) <;> conv => whnf)
 rfl
end Go.Proofs.YtnajpmepcffnaaaGreatDoor
end

section
/- key, plain laws: a key that may be is its kind and its letters; to be over is to begin. -/
namespace Go.Proofs.YtnajpmepcffnaaaGreatDoor
open Go.Ve

theorem topN_top {N a b : Nat} (ha : a ≤ 128) (hb : b ≤ 128) : topN (topN N a) b = topN N (min a b) := by
 have tb : ∀ M n j, (topN M n).testBit j = (decide (128 - n ≤ j) && M.testBit j) := fun M n j => by
  unfold topN
  rw [Nat.mul_comm, Nat.testBit_two_pow_mul, Nat.testBit_div_two_pow]
  by_cases h : 128 - n ≤ j
  ·simp [h]
  ·simp [h]
 apply Nat.eq_of_testBit_eq
 intro j
 rw [tb, tb, tb]
 by_cases h1 : 128 - a ≤ j <;> by_cases h2 : 128 - b ≤ j <;> by_cases h3 : 128 - min a b ≤ j <;> simp [h1, h2, h3] <;> omega
theorem letter_eq {N M i : Nat} : letter N i = letter M i ↔ N.testBit (127 - i) = M.testBit (127 - i) := by
 unfold letter
 cases N.testBit (127 - i) <;> cases M.testBit (127 - i) <;> simp
theorem letB_take (N n j : Nat) : (letB N n).take j = letB N (min j n) := by
 unfold letB
 rw [← List.map_take, List.take_range]
theorem letB_of {N M n : Nat} (hn : n ≤ 128) (h : topN N n = topN M n) : letB N n = letB M n := by
 have tb : ∀ M j, (topN M n).testBit j = (decide (128 - n ≤ j) && M.testBit j) := fun M j => by
  unfold topN
  rw [Nat.mul_comm, Nat.testBit_two_pow_mul, Nat.testBit_div_two_pow]
  by_cases h : 128 - n ≤ j
  ·simp [h]
  ·simp [h]
 unfold letB
 rw [List.map_inj_left]
 intro i hi
 have hi := List.mem_range.1 hi
 have h2 := congrArg (fun x => x.testBit (127 - i)) h
 simp only [tb] at h2
 have h3 : 128 - n ≤ 127 - i := by omega
 exact letter_eq.2 (by simpa [h3] using h2)
theorem ky_ext {x y : Ky} (h1 : x.kind = y.kind) (h2 : x.len = y.len) (h3 : x.n = y.n) (h4 : x.path = y.path) : x = y := by
 cases x; cases y; simp only at h1 h2 h3 h4; rw [h1, h2, h3, h4]
theorem letB_eq {N M n : Nat} (hN : N < 2 ^ 128) (hM : M < 2 ^ 128) (hn : n ≤ 128) : letB N n = letB M n ↔ topN N n = topN M n := by
 have tb : ∀ M j, (topN M n).testBit j = (decide (128 - n ≤ j) && M.testBit j) := fun M j => by
  unfold topN
  rw [Nat.mul_comm, Nat.testBit_two_pow_mul, Nat.testBit_div_two_pow]
  by_cases h : 128 - n ≤ j
  ·simp [h]
  ·simp [h]
 have h1 : letB N n = letB M n ↔ ∀ i, i < n → N.testBit (127 - i) = M.testBit (127 - i) := by
  unfold letB
  rw [List.map_inj_left]
  exact ⟨fun h i hi => letter_eq.1 (h i (List.mem_range.2 hi)), fun h i hi => letter_eq.2 (h i (List.mem_range.1 hi))⟩
 rw [h1]
 refine ⟨fun h => Nat.eq_of_testBit_eq fun j => ?_, fun h i hi => ?_⟩
 ·rw [tb, tb]
  by_cases hj : 128 - n ≤ j
  ·by_cases h8 : j < 128
   ·have := h (127 - j) (by omega)
    rw [show 127 - (127 - j) = j by omega] at this
    rw [this]
   ·rw [Nat.testBit_lt_two_pow (Nat.lt_of_lt_of_le hN (Nat.pow_le_pow_right (by decide) (by omega))), Nat.testBit_lt_two_pow (Nat.lt_of_lt_of_le hM (Nat.pow_le_pow_right (by decide) (by omega)))]
  ·simp [hj]
 ·have h2 := congrArg (fun x => x.testBit (127 - i)) h
  simp only [tb] at h2
  have h3 : 128 - n ≤ 127 - i := by omega
  simpa [h3] using h2
theorem right_addr {k : Ky} (h : rightK k = true) (h3 : k.kind ≠ 3) : (k.kind = 1 ∨ k.kind = 2) ∧ 0 ≤ k.len ∧ k.len ≤ 128 ∧ k.n = topN k.n k.len.toNat ∧ k.path = [] := by
 unfold rightK at h
 by_cases hk : k.kind = 1 ∨ k.kind = 2
 ·rw [if_pos hk] at h
  obtain ⟨h1, h2, h4, h5⟩ := of_decide_eq_true h
  have hw : k.len ≤ 128 := by
   unfold widthK at h2
   rcases hk with hk | hk <;> rw [hk] at h2 <;> simp at h2 <;> omega
  rw [show min k.len 128 = k.len by omega] at h4
  exact ⟨hk, h1, hw, h4, h5⟩
 ·rw [if_neg hk, if_neg h3] at h; cases h
theorem right_path {k : Ky} (h : rightK k = true) (h3 : k.kind = 3) : okPath k.path = true ∧ k.len = ((labs k.path).length : Int) ∧ k.n = 0 := by
 unfold rightK at h
 rw [if_neg (by omega), if_pos h3, Bool.and_eq_true] at h
 obtain ⟨h1, h2⟩ := of_decide_eq_true h.2
 exact ⟨h.1, h1, h2⟩
theorem letters_len {k : Ky} (h : rightK k = true) : ((lettersL k).length : Int) = k.len := by
 unfold lettersL
 by_cases h3 : k.kind = 3
 ·rw [if_pos h3, (right_path h h3).2.1]
 ·obtain ⟨_, h1, _⟩ := right_addr h h3
  rw [if_neg h3, letB_len]; omega
theorem letters_inj {a b : Ky} (na : a.n < 2 ^ 128) (nb : b.n < 2 ^ 128) (ha : rightK a = true) (hb : rightK b = true) (hk : a.kind = b.kind) (h : lettersL a = lettersL b) : a = b := by
 have hl : a.len = b.len := by rw [← letters_len ha, ← letters_len hb, h]
 unfold lettersL at h
 by_cases h3 : a.kind = 3
 ·rw [if_pos h3, if_pos (by omega)] at h
  obtain ⟨a1, a2, a3⟩ := right_path ha h3
  obtain ⟨b1, b2, b3⟩ := right_path hb (by omega)
  have hp : a.path = b.path := by rw [← join_labs a1, ← join_labs b1, h]
  exact ky_ext hk hl (by rw [a3, b3]) hp
 ·rw [if_neg h3, if_neg (by omega)] at h
  obtain ⟨_, a1, a2, a3, a4⟩ := right_addr ha h3
  obtain ⟨_, b1, b2, b3, b4⟩ := right_addr hb (by omega)
  rw [hl] at h
  have hn := (letB_eq na nb (by omega)).1 h
  rw [hl] at a3
  rw [← a3, ← b3] at hn
  exact ky_ext hk hl hn (by rw [a4, b4])
theorem take_min' {α : Type} (l : List α) (n : Int) {len : Int} (h : (l.length : Int) = len) : l.take (min (max n 0) len).toNat = l.take (max n 0).toNat := by
 rw [show (min (max n 0) len).toNat = min (max n 0).toNat l.length by omega, ← List.take_take, List.take_length]
theorem cut_right {k : Ky} (h : rightK k = true) (n : Int) : rightK (cutK k n) = true ∧ (cutK k n).kind = k.kind ∧ lettersL (cutK k n) = (lettersL k).take (max n 0).toNat := by
 have hl := letters_len h
 by_cases h3 : k.kind = 3
 ·obtain ⟨a1, a2, a3⟩ := right_path h h3
  have hlab : ∀ x ∈ (labs k.path).take (min (max n 0) k.len).toNat, isLabel x = true := fun x hx => labs_lab x (List.mem_of_mem_take hx)
  have h8 : ((labs k.path).take (min (max n 0) k.len).toNat).length ≤ 8 := Nat.le_trans (by rw [List.length_take]; exact Nat.min_le_right _ _) (labs_len k.path).1
  obtain ⟨j1, j2⟩ := labs_join hlab h8
  have e : cutK k n = ofPathK (joinD ((labs k.path).take (min (max n 0) k.len).toNat)) := by rw [cutK, if_pos h3]
  rw [e]
  refine ⟨?_, h3.symm, ?_⟩
  ·unfold rightK
   rw [if_neg (by show ¬ ((3 : Int) = 1 ∨ (3 : Int) = 2); decide), if_pos (by rfl)]
   show (okPath (joinD _) && _) = true
   rw [j1, Bool.true_and]
   exact decide_eq_true ⟨rfl, rfl⟩
  ·unfold lettersL
   rw [if_pos (by rfl), if_pos h3]
   show labs (joinD _) = _
   rw [j2, take_min' _ _ a2.symm]
 ·obtain ⟨a0, a1, a2, a3, a4⟩ := right_addr h h3
  have e : cutK k n = ofBitsK k.kind (min (max n 0) k.len) k.n := by rw [cutK, if_neg h3]
  have e2 : (min (min (max n 0) k.len) 128).toNat = (min (max n 0) k.len).toNat := by omega
  have hw : k.len ≤ widthK k.kind := by
   unfold rightK at h
   rw [if_pos a0] at h
   exact (of_decide_eq_true h).2.1
  rw [e]
  refine ⟨?_, rfl, ?_⟩
  ·unfold rightK
   rw [if_pos (by exact a0)]
   refine decide_eq_true ⟨by show 0 ≤ min _ _; omega, by show min _ _ ≤ widthK k.kind; omega, ?_, rfl⟩
   show topN k.n _ = topN (topN k.n _) _
   rw [topN_top (by omega) (by show (min (min (max n 0) k.len) 128).toNat ≤ 128; omega)]
   show topN k.n (min (min (max n 0) k.len) 128).toNat = topN k.n (min (min (min (max n 0) k.len) 128).toNat (min (min (max n 0) k.len) 128).toNat)
   rw [Nat.min_self]
  ·unfold lettersL
   rw [if_neg (by exact h3), if_neg h3]
   show letB (topN k.n (min (min (max n 0) k.len) 128).toNat) (min (max n 0) k.len).toNat = _
   rw [letB_take, e2, show (min (max n 0) k.len).toNat = min (max n 0).toNat k.len.toNat by omega]
   exact letB_of (by omega) (by rw [topN_top (by omega) (by omega), Nat.min_self])
theorem cut_n {k : Ky} (h : k.n < 2 ^ 128) (n : Int) : (cutK k n).n < 2 ^ 128 := by
 unfold cutK
 split
 ·exact Nat.two_pow_pos 128
 ·exact topN_lt h
end Go.Proofs.YtnajpmepcffnaaaGreatDoor
end

section
/- key, plain laws: where two keys meet, and how keys are ordered. -/
namespace Go.Proofs.YtnajpmepcffnaaaGreatDoor
open Go.Ve

end Go.Proofs.YtnajpmepcffnaaaGreatDoor
end

section
/- key, plain laws: how keys are ordered. -/
namespace Go.Proofs.YtnajpmepcffnaaaGreatDoor
open Go.Ve

theorem cmpI_eq {a b : Int} : cmpI a b = 0 ↔ a = b := by unfold cmpI; split <;> (try split) <;> omega
theorem cmpI_le {a b : Int} : cmpI a b ≤ 0 ↔ a ≤ b := by unfold cmpI; split <;> (try split) <;> omega
end Go.Proofs.YtnajpmepcffnaaaGreatDoor
end

section
/- key: arguments read as data. -/
namespace Go.Proofs.YtnajpmepcffnaaaGreatDoor
open Go.Ve

end Go.Proofs.YtnajpmepcffnaaaGreatDoor
end

section
/- key: the outright statements' walks. -/
namespace Go.Proofs.YtnajpmepcffnaaaGreatDoor
open Go.Ve

end Go.Proofs.YtnajpmepcffnaaaGreatDoor
end

section
/- key: the outright statements' walks, further. -/
namespace Go.Proofs.YtnajpmepcffnaaaGreatDoor
open Go.Ve

theorem cut_cut {k : Ky} (hn : k.n < 2 ^ 128) (h : rightK k = true) (n m : Int) : cutU (cutU k n) m = cutU k (if m < n then m else n) := by
 have e : ∀ j, cutU k j = cutK k j := fun j => by unfold cutU; rw [h]; rfl
 obtain ⟨c1, c2, c3⟩ := cut_right h n
 have e2 : cutU (cutK k n) m = cutK (cutK k n) m := by unfold cutU; rw [c1]; rfl
 rw [e, e, e2]
 obtain ⟨d1, d2, d3⟩ := cut_right c1 m
 obtain ⟨f1, f2, f3⟩ := cut_right h (if m < n then m else n)
 refine letters_inj (cut_n (cut_n hn n) m) (cut_n hn _) d1 f1 (by rw [d2, c2, f2]) ?_
 rw [d3, c3, f3, List.take_take]
 congr 1; split <;> omega
end Go.Proofs.YtnajpmepcffnaaaGreatDoor
end

section
/- prefix: what its functions compute, further. -/
namespace Go.Proofs.YtnajpmepcffnaaaGreatDoor
open Go.Ve

end Go.Proofs.YtnajpmepcffnaaaGreatDoor
end

section
/- prefix: Top, Height, Cross, Cmp. -/
namespace Go.Proofs.YtnajpmepcffnaaaGreatDoor
open Go.Ve

end Go.Proofs.YtnajpmepcffnaaaGreatDoor
end

section
/- prefix, plain laws: one dimension's order. -/
namespace Go.Proofs.YtnajpmepcffnaaaGreatDoor
open Go.Ve

theorem onD_iff {d : Dm} {l : Int} {k : Ky} : onD d l k = true ↔ rightK k = true ∧ 0 ≤ lenD d l ∧ k.kind = d.kind ∧ (k.len = lenD d l ∨ (k.kind = 3 ∧ k.len < lenD d l)) := by
 unfold onD; rw [Bool.and_eq_true, decide_eq_true_iff]
theorem len_ok_iff {d : Dm} {l : Int} : 0 ≤ lenD d l ↔ rightD d = true ∧ 0 ≤ l ∧ l ≤ depthD d := by
 unfold lenD
 split
 ·rename_i h; exact ⟨fun _ => h, fun _ => by omega⟩
 ·rename_i h; exact ⟨fun h' => by omega, fun h' => absurd h' h⟩
theorem lenD_anti {d : Dm} {a b : Int} (ha : 0 ≤ lenD d a) (hb : 0 ≤ lenD d b) (h : b ≤ a) : lenD d a ≤ lenD d b := by
 have h1 := len_ok_iff.1 ha
 have h2 := len_ok_iff.1 hb
 unfold lenD
 rw [if_pos h1, if_pos h2]
 have := Int.mul_le_mul_of_nonneg_right h (show 0 ≤ d.step by have := (rightD_step h1.1).2.1; omega)
 omega
theorem cutD_eq {d : Dm} {l : Int} {k : Ky} (h : 0 ≤ lenD d l) (hk : k.kind = d.kind) : cutD d l k = cutU k (lenD d l) := by
 unfold cutD; rw [if_neg (by omega)]
theorem cutU_eq {k : Ky} (h : rightK k = true) (n : Int) : cutU k n = cutK k n := by unfold cutU; rw [h, cond_true]
theorem cut_all {k : Ky} (hn : k.n < 2 ^ 128) (h : rightK k = true) {n : Int} (hl : k.len ≤ n) : cutU k n = k := by
 rw [cutU_eq h]
 obtain ⟨c1, c2, c3⟩ := cut_right h n
 have := letters_len h
 refine letters_inj (cut_n hn n) hn c1 h c2 ?_
 rw [c3, List.take_of_length_le (by omega)]
theorem cut_self {d : Dm} {l : Int} {k : Ky} (hn : k.n < 2 ^ 128) (h : onD d l k = true) : cutD d l k = k := by
 obtain ⟨h1, h2, h3, h4⟩ := onD_iff.1 h
 rw [cutD_eq h2 h3]
 exact cut_all hn h1 (by omega)
theorem cut_len {k : Ky} (h : rightK k = true) (n : Int) (h0 : 0 ≤ n) : (cutU k n).len = min n k.len := by
 rw [cutU_eq h]
 obtain ⟨c1, c2, c3⟩ := cut_right h n
 have h1 := letters_len h
 have h2 := letters_len c1
 rw [c3, List.length_take] at h2
 omega
theorem cut_twice {d : Dm} {a b c : Int} {k : Ky} (hn : k.n < 2 ^ 128) (h : onD d c k = true) (ha : 0 ≤ lenD d a) (hb : 0 ≤ lenD d b) (hab : b ≤ a) : cutD d a (cutD d b k) = cutD d a k := by
 obtain ⟨h1, h2, h3, h4⟩ := onD_iff.1 h
 have hle := lenD_anti ha hb hab
 have hk : (cutD d b k).kind = d.kind := by
  rw [cutD_eq hb h3, cutU_eq h1, (cut_right h1 _).2.1, h3]
 rw [cutD_eq ha hk, cutD_eq ha h3, cutD_eq hb h3, cut_cut hn h1]
 split
 ·rfl
 ·rw [show lenD d b = lenD d a by omega]
def RD (d : Dm) (a : Int) (k : Ky) (b : Int) (x : Ky) : Prop := onD d a k = true ∧ onD d b x = true ∧ b ≤ a ∧ k = cutD d a x
theorem RD.refl {d : Dm} {a : Int} {k : Ky} (hn : k.n < 2 ^ 128) (h : onD d a k = true) : RD d a k a k := ⟨h, h, Int.le_refl _, (cut_self hn h).symm⟩
theorem RD.same {d : Dm} {a : Int} {k x : Ky} (hx : x.n < 2 ^ 128) (h : RD d a k a x) : k = x := by rw [h.2.2.2, cut_self hx h.2.1]
theorem RD.trans {d : Dm} {a b c : Int} {k x y : Ky} (hy : y.n < 2 ^ 128) (h1 : RD d a k b x) (h2 : RD d b x c y) : RD d a k c y := by
 have ha := (onD_iff.1 h1.1).2.1
 have hb := (onD_iff.1 h2.1).2.1
 refine ⟨h1.1, h2.2.1, Int.le_trans h2.2.2.1 h1.2.2.1, ?_⟩
 rw [h1.2.2.2, h2.2.2.2, cut_twice hy h2.2.1 ha hb h1.2.2.1]
theorem RD.chain {d : Dm} {a b c : Int} {k x y : Ky} (hy : y.n < 2 ^ 128) (h1 : RD d a k c y) (h2 : RD d b x c y) (hab : b ≤ a) : RD d a k b x := by
 have ha := (onD_iff.1 h1.1).2.1
 have hb := (onD_iff.1 h2.1).2.1
 refine ⟨h1.1, h2.1, hab, ?_⟩
 rw [h1.2.2.2, h2.2.2.2, cut_twice hy h2.2.1 ha hb hab]
end Go.Proofs.YtnajpmepcffnaaaGreatDoor
end

section
/- prefix, plain laws: prefixes over each other. -/
namespace Go.Proofs.YtnajpmepcffnaaaGreatDoor
open Go.Ve

end Go.Proofs.YtnajpmepcffnaaaGreatDoor
end

section
/- key: the statements on where keys meet and how they are ordered. -/
namespace Go.Proofs.YtnajpmepcffnaaaGreatDoor
open Go.Ve

end Go.Proofs.YtnajpmepcffnaaaGreatDoor
end

section
/- prefix, plain laws: the one on a node, the crossing, the order. -/
namespace Go.Proofs.YtnajpmepcffnaaaGreatDoor
open Go.Ve

section
variable {R : Int → Ky → Int → Ky → Prop} {a b c : Int} {k x y : Ky}
end
end Go.Proofs.YtnajpmepcffnaaaGreatDoor
end

section
/- prefix, plain laws: the order is one. -/
namespace Go.Proofs.YtnajpmepcffnaaaGreatDoor
open Go.Ve

structure TO {α : Type} (c : α → α → Int) : Prop where
 neg : ∀ a b, c a b = -c b a
 rng : ∀ a b, -1 ≤ c a b ∧ c a b ≤ 1
 tr : ∀ a b d, c a b ≤ 0 → c b d ≤ 0 → c a d ≤ 0
section
variable {α β : Type} {c c1 c2 : α → α → Int}
theorem TO.strict (h : TO c) {a b d : α} (h1 : c a b < 0) (h2 : c b d ≤ 0) : c a d < 0 := by
 rcases Int.lt_or_le (c a d) 0 with h3 | h3
 ·exact h3
 ·have e1 := h.neg a d
  have e2 := h.tr b d a h2 (by omega)
  have e3 := h.neg a b
  omega
theorem TO.strict' (h : TO c) {a b d : α} (h1 : c a b ≤ 0) (h2 : c b d < 0) : c a d < 0 := by
 rcases Int.lt_or_le (c a d) 0 with h3 | h3
 ·exact h3
 ·have e1 := h.neg a d
  have e2 := h.tr d a b (by omega) h1
  have e3 := h.neg b d
  omega
theorem TO.zero (h : TO c) {a b d : α} (h1 : c a b = 0) (h2 : c b d = 0) : c a d = 0 := by
 have e1 := h.tr a b d (by omega) (by omega)
 have e2 := h.neg a b
 have e3 := h.neg b d
 have e4 := h.tr d b a (by omega) (by omega)
 have e5 := h.neg a d
 omega
theorem TO.lx (h1 : TO c1) (h2 : TO c2) : TO (fun a b => if c1 a b = 0 then c2 a b else c1 a b) := by
 refine ⟨fun a b => ?_, fun a b => ?_, fun a b d k1 k2 => ?_⟩
 ·have e1 := h1.neg a b
  have e2 := h2.neg a b
  show (if c1 a b = 0 then c2 a b else c1 a b) = -(if c1 b a = 0 then c2 b a else c1 b a)
  split <;> split <;> omega
 ·have e1 := h1.rng a b
  have e2 := h2.rng a b
  show -1 ≤ (if c1 a b = 0 then c2 a b else c1 a b) ∧ (if c1 a b = 0 then c2 a b else c1 a b) ≤ 1
  split <;> omega
 ·have k1 : (if c1 a b = 0 then c2 a b else c1 a b) ≤ 0 := k1
  have k2 : (if c1 b d = 0 then c2 b d else c1 b d) ≤ 0 := k2
  show (if c1 a d = 0 then c2 a d else c1 a d) ≤ 0
  by_cases g1 : c1 a b = 0
  ·rw [if_pos g1] at k1
   by_cases g2 : c1 b d = 0
   ·rw [if_pos g2] at k2
    rw [if_pos (h1.zero g1 g2)]
    exact h2.tr a b d k1 k2
   ·rw [if_neg g2] at k2
    have := h1.strict' (a := a) (b := b) (d := d) (by omega) (by omega)
    rw [if_neg (by omega)]; omega
  ·rw [if_neg g1] at k1
   have hb : c1 b d ≤ 0 := by
    by_cases g2 : c1 b d = 0
    ·omega
    ·rw [if_neg g2] at k2; exact k2
   have := h1.strict (a := a) (b := b) (d := d) (by omega) hb
   rw [if_neg (by omega)]; omega
theorem TO.comap (h : TO c) (f : β → α) : TO (fun a b => c (f a) (f b)) := ⟨fun _ _ => h.neg _ _, fun _ _ => h.rng _ _, fun _ _ _ => h.tr _ _ _⟩
end
theorem to_cmpI : TO cmpI := by
 refine ⟨fun a b => ?_, fun a b => ?_, fun a b d h1 h2 => ?_⟩
 ·unfold cmpI; split <;> split <;> (try split) <;> (try split) <;> omega
 ·unfold cmpI; split <;> (try split) <;> omega
 ·rw [cmpI_le] at *; omega
end Go.Proofs.YtnajpmepcffnaaaGreatDoor
end

section
/- cache, plain laws: templates that are held, by places; in order. -/
namespace Go.Proofs.YtnajpmepcffnaaaGreatDoor
open Go.Ve

section
variable {α : Type} {c : α → α → Int}
def OrdC (c : α → α → Int) (l : List α) : Prop := l.Pairwise fun x y => c x y < 0
theorem TO.selfC (hc : TO c) (x : α) : c x x = 0 := by have := hc.neg x x; omega
theorem OrdC.ext (hc : TO c) : ∀ {l l' : List α}, OrdC c l → OrdC c l' → (∀ x, x ∈ l ↔ x ∈ l') → l = l'
 | [], [], _, _, _ => rfl
 | [], y :: ys, _, _, h => absurd ((h y).2 List.mem_cons_self) List.not_mem_nil
 | x :: xs, [], _, _, h => absurd ((h x).1 List.mem_cons_self) List.not_mem_nil
 | x :: xs, y :: ys, h1, h2, h => by
  have a1 := List.pairwise_cons.1 h1
  have a2 := List.pairwise_cons.1 h2
  have e : x = y := by
   rcases List.mem_cons.1 ((h x).1 List.mem_cons_self) with e | m1
   ·exact e
   ·rcases List.mem_cons.1 ((h y).2 List.mem_cons_self) with e | m2
    ·exact e.symm
    ·have k1 := a2.1 x m1
     have k2 := a1.1 y m2
     have := hc.neg x y
     omega
  subst e
  have : xs = ys := OrdC.ext hc a1.2 a2.2 fun z => by
   constructor
   ·intro hz
    rcases List.mem_cons.1 ((h z).1 (List.mem_cons_of_mem _ hz)) with rfl | m
    ·have := a1.1 z hz; rw [hc.selfC] at this; omega
    ·exact m
   ·intro hz
    rcases List.mem_cons.1 ((h z).2 (List.mem_cons_of_mem _ hz)) with rfl | m
    ·have := a2.1 z hz; rw [hc.selfC] at this; omega
    ·exact m
  rw [this]
def srtC (c : α → α → Int) (l : List α) : List α := l.mergeSort fun x y => decide (c x y ≤ 0)
theorem srtC_perm (l : List α) : (srtC c l).Perm l := List.mergeSort_perm _ _
theorem srtC_mem {l : List α} {x : α} : x ∈ srtC c l ↔ x ∈ l := (srtC_perm l).mem_iff
theorem srtC_len (l : List α) : (srtC c l).length = l.length := (srtC_perm l).length_eq
theorem srtC_ord (hc : TO c) (h0 : ∀ x y, c x y = 0 → x = y) {l : List α} (hn : l.Nodup) : OrdC c (srtC c l) := by
 have h1 : (srtC c l).Pairwise fun x y => decide (c x y ≤ 0) = true := by
  refine List.pairwise_mergeSort (fun a b d h1 h2 => ?_) (fun a b => ?_) l
  ·exact decide_eq_true (hc.tr a b d (of_decide_eq_true h1) (of_decide_eq_true h2))
  ·have := hc.neg a b
   rw [Bool.or_eq_true, decide_eq_true_iff, decide_eq_true_iff]
   omega
 have h2 : (srtC c l).Nodup := (srtC_perm l).nodup_iff.2 hn
 refine (List.Pairwise.and h1 h2).imp fun {x y} h => ?_
 have h3 := of_decide_eq_true h.1
 rcases Int.lt_or_eq_of_le h3 with h4 | h4
 ·exact h4
 ·exact absurd (h0 _ _ h4) h.2
end

structure Tm where
 id : Int
 scope : Int
 fields : List Sc
structure Hd where
 dom : Nat
 t : Tm
def rightT (t : Tm) : Bool := decide (256 ≤ t.id ∧ t.id ≤ 65535 ∧ 1 ≤ t.fields.length ∧ t.fields.length ≤ 64 ∧ 0 ≤ t.scope ∧ t.scope ≤ t.fields.length) && t.fields.all fun s => decide (saysS s ≠ -1)
abbrev Pl := Nat × Int
def keyH (h : Hd) : Pl := (h.dom, h.t.id)
def cmpPl (a b : Pl) : Int := if cmpI (a.1 : Int) (b.1 : Int) = 0 then cmpI a.2 b.2 else cmpI (a.1 : Int) (b.1 : Int)
theorem to_cmpPl : TO cmpPl := (to_cmpI.comap fun a : Pl => (a.1 : Int)).lx (to_cmpI.comap fun a : Pl => a.2)
theorem cmpPl_zero {a b : Pl} (h : cmpPl a b = 0) : a = b := by
 unfold cmpPl at h
 by_cases e : cmpI (a.1 : Int) (b.1 : Int) = 0
 ·rw [if_pos e] at h
  have h1 := cmpI_eq.1 e
  have h2 := cmpI_eq.1 h
  exact Prod.ext (by omega) h2
 ·rw [if_neg e] at h; exact absurd h e
def cmpHd (a b : Hd) : Int := cmpPl (keyH a) (keyH b)
theorem to_cmpHd : TO cmpHd := to_cmpPl.comap keyH

abbrev Es := List (Hd × Nat)
def keysE (es : Es) : List Pl := es.map fun e => keyH e.1
structure Cs where
 nl : Bool
 es : Es
 clk : Nat
structure CI (c : Cs) : Prop where
 nodup : (keysE c.es).Nodup
 stamps : (c.es.map (·.2)).Nodup
 lt : ∀ e ∈ c.es, e.2 < c.clk
 right : ∀ e ∈ c.es, rightT e.1.t = true
 dom : ∀ e ∈ c.es, e.1.dom < 4294967296
 len : c.es.length ≤ 64
 nil : c.nl = true → c.es = [] ∧ c.clk = 0
def findE (es : Es) (k : Pl) : Option Hd := (es.find? fun e => decide (keyH e.1 = k)).map (·.1)
def setE2 (es : Es) (h : Hd) : Es := es.map fun e => if keyH e.1 = keyH h then (h, e.2) else e
def setC (c : Cs) (h : Hd) : Cs := if keyH h ∈ keysE c.es then ⟨c.nl, setE2 c.es h, c.clk⟩ else ⟨false, c.es ++ [(h, c.clk)], c.clk + 1⟩
def setErr (c : Cs) (h : Hd) : Int := if rightT h.t = false then 3 else if keyH h ∉ keysE c.es ∧ 64 ≤ c.es.length then 5 else 0
def setS (c : Cs) (h : Hd) : Cs := if setErr c h = 0 then setC c h else c
def dropS (c : Cs) (k : Pl) : Cs := { c with es := c.es.filter fun e => !decide (keyH e.1 = k) }
def ofKind (d : Nat) (opt : Bool) (h : Hd) : Bool := decide (h.dom = d) && (decide (0 < h.t.scope) == opt)
def dropAllS (c : Cs) (d : Nat) (opt : Bool) : Cs := { c with es := c.es.filter fun e => !ofKind d opt e.1 }
def listE (es : Es) : List Hd := srtC cmpHd (es.map (·.1))
def stampE : Nat → List Hd → Es
 | _, [] => []
 | k, h :: r => (h, k) :: stampE (k + 1) r
def cloneS (c : Cs) : Cs := ⟨decide (listE c.es = []), stampE 0 (listE c.es), (listE c.es).length⟩

theorem keysE_mem {es : Es} {k : Pl} : k ∈ keysE es ↔ ∃ e ∈ es, keyH e.1 = k := by unfold keysE; rw [List.mem_map]
theorem key_in {es : Es} (hn : (keysE es).Nodup) {i j : Nat} {x y : Hd × Nat} (h1 : es[i]? = some x) (h2 : es[j]? = some y) (h : keyH x.1 = keyH y.1) : i = j := by
 have e1 : (keysE es)[i]? = some (keyH x.1) := by unfold keysE; rw [List.getElem?_map, h1]; rfl
 have e2 : (keysE es)[j]? = some (keyH x.1) := by unfold keysE; rw [List.getElem?_map, h2, h]; rfl
 exact nodup_at hn e1 e2
theorem key_one {es : Es} (hn : (keysE es).Nodup) {x y : Hd × Nat} (h1 : x ∈ es) (h2 : y ∈ es) (h : keyH x.1 = keyH y.1) : x = y := by
 obtain ⟨i, hi⟩ := List.getElem?_of_mem h1
 obtain ⟨j, hj⟩ := List.getElem?_of_mem h2
 have := key_in hn hi hj h
 subst this
 rw [hi] at hj
 exact Option.some.inj hj
theorem findE_some {es : Es} {k : Pl} {h : Hd} (hf : findE es k = some h) : (∃ e ∈ es, e.1 = h) ∧ keyH h = k := by
 unfold findE at hf
 rw [Option.map_eq_some_iff] at hf
 obtain ⟨e, h1, rfl⟩ := hf
 exact ⟨⟨e, List.mem_of_find?_eq_some h1, rfl⟩, of_decide_eq_true (List.find?_some (p := fun e : Hd × Nat => decide (keyH e.1 = k)) h1)⟩
theorem findE_none {es : Es} {k : Pl} (hf : findE es k = none) : k ∉ keysE es := by
 unfold findE at hf
 rw [Option.map_eq_none_iff, List.find?_eq_none] at hf
 intro hm
 obtain ⟨e, he, h⟩ := keysE_mem.1 hm
 exact hf e he (decide_eq_true h)
theorem findE_in {es : Es} (hn : (keysE es).Nodup) {e : Hd × Nat} (he : e ∈ es) : findE es (keyH e.1) = some e.1 := by
 cases hf : findE es (keyH e.1) with
 | none => exact absurd (keysE_mem.2 ⟨e, he, rfl⟩) (findE_none hf)
 | some h =>
  obtain ⟨⟨e2, h1, h2⟩, h3⟩ := findE_some hf
  have := key_one hn h1 he (by rw [h2]; exact h3)
  rw [← h2, this]
theorem findE_out {es : Es} {k : Pl} (h : k ∉ keysE es) : findE es k = none := by
 cases hf : findE es k with
 | none => rfl
 | some g =>
  obtain ⟨⟨e, h1, h2⟩, h3⟩ := findE_some hf
  exact absurd (keysE_mem.2 ⟨e, h1, by rw [h2]; exact h3⟩) h

def Rel (es : Es) (G : List Hd) : Prop := OrdC cmpHd G ∧ ∀ h, h ∈ G ↔ ∃ e ∈ es, e.1 = h
theorem ord_keys {G : List Hd} (h : OrdC cmpHd G) : (G.map keyH).Nodup := by
 rw [List.Nodup, List.pairwise_map]
 exact h.imp fun {x y} h e => by unfold cmpHd at h; rw [e, to_cmpPl.selfC] at h; omega
theorem listE_rel {es : Es} (hn : (keysE es).Nodup) : Rel es (listE es) := by
 refine ⟨?_, fun h => ?_⟩
 ·-- by keys
  have h1 : (listE es).Pairwise fun x y => decide (cmpHd x y ≤ 0) = true := by
   refine List.pairwise_mergeSort (fun a b d h1 h2 => ?_) (fun a b => ?_) _
   ·exact decide_eq_true (to_cmpHd.tr a b d (of_decide_eq_true h1) (of_decide_eq_true h2))
   ·have := to_cmpHd.neg a b
    rw [Bool.or_eq_true, decide_eq_true_iff, decide_eq_true_iff]
    omega
  have h2 : ((listE es).map keyH).Nodup := by
   have hp : ((listE es).map keyH).Perm (keysE es) := by
    have := (srtC_perm (c := cmpHd) (es.map (·.1))).map keyH
    rw [List.map_map] at this
    exact this
   exact hp.nodup_iff.2 hn
  refine (List.Pairwise.and h1 (List.pairwise_map.1 h2)).imp fun {x y} h => ?_
  have h3 := of_decide_eq_true h.1
  rcases Int.lt_or_eq_of_le h3 with h4 | h4
  ·exact h4
  ·exact absurd (cmpPl_zero h4) h.2
 ·unfold listE
  rw [srtC_mem, List.mem_map]
theorem Rel.list {es : Es} {G : List Hd} (hn : (keysE es).Nodup) (h : Rel es G) : listE es = G :=
 (listE_rel hn).1.ext to_cmpHd h.1 fun x => by rw [(listE_rel hn).2, h.2]
theorem listE_len (es : Es) : (listE es).length = es.length := by unfold listE; rw [srtC_len, List.length_map]
theorem stampE_map : ∀ (G : List Hd) (k : Nat), (stampE k G).map (·.1) = G
 | [], _ => rfl
 | h :: r, k => by rw [stampE, List.map_cons, stampE_map r (k + 1)]
theorem stampE_stamps : ∀ (G : List Hd) (k : Nat), (stampE k G).map (·.2) = List.range' k G.length
 | [], _ => rfl
 | h :: r, k => by rw [stampE, List.map_cons, stampE_stamps r (k + 1)]; rfl
theorem stampE_len (G : List Hd) (k : Nat) : (stampE k G).length = G.length := by
 have := congrArg List.length (stampE_map G k)
 rwa [List.length_map] at this
theorem stampE_keys (G : List Hd) (k : Nat) : keysE (stampE k G) = G.map keyH := by
 unfold keysE
 have := congrArg (List.map keyH) (stampE_map G k)
 rw [List.map_map] at this
 exact this
theorem stampE_snoc : ∀ (G : List Hd) (h : Hd) (k : Nat), stampE k (G ++ [h]) = stampE k G ++ [(h, k + G.length)]
 | [], _, _ => rfl
 | g :: r, h, k => by
  rw [List.cons_append, stampE, stampE, stampE_snoc r h (k + 1), List.cons_append, List.length_cons, Nat.add_assoc, Nat.add_comm 1 r.length]
theorem stampE_rel {G : List Hd} (h : OrdC cmpHd G) (k : Nat) : Rel (stampE k G) G := by
 refine ⟨h, fun x => ?_⟩
 have e := stampE_map G k
 constructor
 ·intro hx
  rw [← e] at hx
  exact List.mem_map.1 hx
 ·intro hx
  rw [← e]
  exact List.mem_map.2 hx
theorem stampE_ci {G : List Hd} (h : OrdC cmpHd G) (hr : ∀ g ∈ G, rightT g.t = true) (hd : ∀ g ∈ G, g.dom < 4294967296) (hl : G.length ≤ 64) (b : Bool) (hb : b = true → G = []) : CI ⟨b, stampE 0 G, G.length⟩ := by
 have hm : ∀ e ∈ stampE 0 G, e.1 ∈ G := fun e he => by rw [← stampE_map G 0]; exact List.mem_map.2 ⟨e, he, rfl⟩
 refine ⟨?_, ?_, fun e he => ?_, fun e he => hr _ (hm e he), fun e he => hd _ (hm e he), by rw [stampE_len]; exact hl, fun h => by rw [hb h]; exact ⟨rfl, rfl⟩⟩
 ·show (keysE (stampE 0 G)).Nodup
  rw [stampE_keys]; exact ord_keys h
 ·show ((stampE 0 G).map (·.2)).Nodup
  rw [stampE_stamps]; exact List.nodup_range'
 ·have : e.2 ∈ (stampE 0 G).map (·.2) := List.mem_map.2 ⟨e, he, rfl⟩
  rw [stampE_stamps, List.mem_range'] at this
  obtain ⟨i, h1, h2⟩ := this
  show e.2 < G.length
  omega
theorem CI.list {c : Cs} (h : CI c) : OrdC cmpHd (listE c.es) ∧ (∀ g ∈ listE c.es, rightT g.t = true) ∧ (∀ g ∈ listE c.es, g.dom < 4294967296) ∧ (listE c.es).length ≤ 64 := by
 have hr := listE_rel h.nodup
 refine ⟨hr.1, fun g hg => ?_, fun g hg => ?_, by rw [listE_len]; exact h.len⟩
 ·obtain ⟨e, he, rfl⟩ := (hr.2 g).1 hg
  exact h.right e he
 ·obtain ⟨e, he, rfl⟩ := (hr.2 g).1 hg
  exact h.dom e he
theorem CI.clone {c : Cs} (h : CI c) : CI (cloneS c) := by
 obtain ⟨h1, h2, h3, h4⟩ := h.list
 exact stampE_ci h1 h2 h3 h4 _ of_decide_eq_true
theorem clone_rel {c : Cs} (h : CI c) : Rel (cloneS c).es (listE c.es) := stampE_rel h.list.1 0

theorem setE2_keys (es : Es) (h : Hd) : keysE (setE2 es h) = keysE es := by
 unfold keysE setE2
 rw [List.map_map]
 refine List.map_congr_left fun e _ => ?_
 show keyH (if keyH e.1 = keyH h then (h, e.2) else e).1 = keyH e.1
 split
 ·rename_i he; exact he.symm
 ·rfl
theorem setE2_stamps (es : Es) (h : Hd) : (setE2 es h).map (·.2) = es.map (·.2) := by
 unfold setE2
 rw [List.map_map]
 refine List.map_congr_left fun e _ => ?_
 show (if keyH e.1 = keyH h then (h, e.2) else e).2 = e.2
 split <;> rfl
theorem setE2_mem {es : Es} {h : Hd} {e : Hd × Nat} (he : e ∈ setE2 es h) : e.1 = h ∨ e ∈ es := by
 obtain ⟨x, hx, rfl⟩ := List.mem_map.1 he
 by_cases hk : keyH x.1 = keyH h
 ·rw [if_pos hk]; exact .inl rfl
 ·rw [if_neg hk]; exact .inr hx
theorem CI.set {c : Cs} (hc : CI c) {h : Hd} (hd : h.dom < 4294967296) : CI (setS c h) := by
 unfold setS
 by_cases h0 : setErr c h = 0
 ·rw [if_pos h0]
  have hr : rightT h.t = true := by
   unfold setErr at h0
   cases e : rightT h.t
   ·rw [if_pos e] at h0; cases h0
   ·rfl
  unfold setC
  by_cases hk : keyH h ∈ keysE c.es
  ·rw [if_pos hk]
   refine ⟨by rw [setE2_keys]; exact hc.nodup, by rw [setE2_stamps]; exact hc.stamps, fun e he => ?_, fun e he => ?_, fun e he => ?_, ?_, fun hn => ?_⟩
   ·have : e.2 ∈ (setE2 c.es h).map (·.2) := List.mem_map.2 ⟨e, he, rfl⟩
    rw [setE2_stamps] at this
    obtain ⟨x, hx, hx2⟩ := List.mem_map.1 this
    rw [← hx2]; exact hc.lt x hx
   ·rcases setE2_mem he with h1 | h1
    ·rw [h1]; exact hr
    ·exact hc.right e h1
   ·rcases setE2_mem he with h1 | h1
    ·rw [h1]; exact hd
    ·exact hc.dom e h1
   ·show (setE2 c.es h).length ≤ 64
    unfold setE2; rw [List.length_map]; exact hc.len
   ·rw [(hc.nil hn).1] at hk; cases hk
  ·rw [if_neg hk]
   have hl : c.es.length < 64 := by
    unfold setErr at h0
    rw [if_neg (by rw [hr]; decide)] at h0
    by_cases h2 : 64 ≤ c.es.length
    ·rw [if_pos ⟨hk, h2⟩] at h0; cases h0
    ·omega
   refine ⟨?_, ?_, fun e he => ?_, fun e he => ?_, fun e he => ?_, ?_, fun hn => by cases hn⟩
   ·show (keysE (c.es ++ [(h, c.clk)])).Nodup
    unfold keysE
    rw [List.map_append, List.nodup_append]
    exact ⟨hc.nodup, by simp, fun a ha b hb e => hk (by
     have hb2 : b = keyH h := List.mem_singleton.1 hb
     rw [← hb2, ← e]; exact ha)⟩
   ·show ((c.es ++ [(h, c.clk)]).map (·.2)).Nodup
    rw [List.map_append, List.nodup_append]
    refine ⟨hc.stamps, by simp, fun a ha b hb e => ?_⟩
    obtain ⟨x, hx, rfl⟩ := List.mem_map.1 ha
    have := hc.lt x hx
    rw [e, List.mem_singleton.1 hb] at this
    exact Nat.lt_irrefl _ this
   ·rcases List.mem_append.1 he with he | he
    ·exact Nat.lt_succ_of_lt (hc.lt e he)
    ·rw [List.mem_singleton.1 he]; exact Nat.lt_succ_self _
   ·rcases List.mem_append.1 he with he | he
    ·exact hc.right e he
    ·rw [List.mem_singleton.1 he]; exact hr
   ·rcases List.mem_append.1 he with he | he
    ·exact hc.dom e he
    ·rw [List.mem_singleton.1 he]; exact hd
   ·show (c.es ++ [(h, c.clk)]).length ≤ 64
    rw [List.length_append]; simp only [List.length_cons, List.length_nil]; omega
 ·rw [if_neg h0]; exact hc
theorem CI.filter {c : Cs} (hc : CI c) (p : Hd × Nat → Bool) : CI { c with es := c.es.filter p } := by
 have hs : ∀ e ∈ c.es.filter p, e ∈ c.es := fun e he => (List.mem_filter.1 he).1
 refine ⟨?_, ?_, fun e he => hc.lt e (hs e he), fun e he => hc.right e (hs e he), fun e he => hc.dom e (hs e he), Nat.le_trans (List.length_filter_le _ _) hc.len, fun hn => ⟨by show c.es.filter p = []; rw [(hc.nil hn).1]; rfl, (hc.nil hn).2⟩⟩
 ·exact hc.nodup.sublist (List.Sublist.map _ List.filter_sublist)
 ·exact hc.stamps.sublist (List.Sublist.map _ List.filter_sublist)
theorem CI.drop {c : Cs} (hc : CI c) (k : Pl) : CI (dropS c k) := hc.filter _
theorem CI.dropAll {c : Cs} (hc : CI c) (d : Nat) (opt : Bool) : CI (dropAllS c d opt) := hc.filter _
def newS : Cs := ⟨true, [], 0⟩
theorem CI.new : CI newS := ⟨List.nodup_nil, List.nodup_nil, fun e he => (by cases he), fun e he => (by cases he), fun e he => (by cases he), Nat.zero_le _, fun _ => ⟨rfl, rfl⟩⟩

def findG (G : List Hd) (k : Pl) : Option Hd := G.find? fun h => decide (keyH h = k)
def withoutG (G : List Hd) (k : Pl) : List Hd := G.filter fun h => !decide (keyH h = k)
def insG (h : Hd) (l : List Hd) : List Hd := (l.takeWhile fun g => decide (cmpHd g h < 0)) ++ h :: l.dropWhile fun g => decide (cmpHd g h < 0)
def setGErr (G : List Hd) (h : Hd) : Int := if rightT h.t = false then 3 else if findG G (keyH h) = none ∧ 64 ≤ G.length then 5 else 0
def setG (G : List Hd) (h : Hd) : List Hd := if setGErr G h = 0 then insG h (withoutG G (keyH h)) else G
def dropAllG (G : List Hd) (d : Nat) (opt : Bool) : List Hd := G.filter fun h => !ofKind d opt h
theorem Rel.len {es : Es} {G : List Hd} (hn : (keysE es).Nodup) (h : Rel es G) : G.length = es.length := by rw [← h.list hn, listE_len]
theorem Rel.find {es : Es} {G : List Hd} (hn : (keysE es).Nodup) (h : Rel es G) (k : Pl) : findG G k = findE es k := by
 cases hf : findG G k with
 | none =>
  unfold findG at hf
  rw [List.find?_eq_none] at hf
  refine (findE_out fun hm => ?_).symm
  obtain ⟨e, he, hk⟩ := keysE_mem.1 hm
  exact hf e.1 ((h.2 _).2 ⟨e, he, rfl⟩) (decide_eq_true hk)
 | some g =>
  have h1 := List.mem_of_find?_eq_some hf
  have h2 : keyH g = k := of_decide_eq_true (List.find?_some (p := fun h : Hd => decide (keyH h = k)) hf)
  obtain ⟨e, he, rfl⟩ := (h.2 g).1 h1
  rw [← h2, findE_in hn he]
theorem Rel.filter {es : Es} {G : List Hd} (h : Rel es G) (p : Hd → Bool) : Rel (es.filter fun e => p e.1) (G.filter p) := by
 refine ⟨h.1.sublist List.filter_sublist, fun x => ?_⟩
 rw [List.mem_filter, h.2]
 constructor
 ·rintro ⟨⟨e, he, rfl⟩, hp⟩; exact ⟨e, List.mem_filter.2 ⟨he, hp⟩, rfl⟩
 ·rintro ⟨e, he, rfl⟩
  have := List.mem_filter.1 he
  exact ⟨⟨e, this.1, rfl⟩, this.2⟩
theorem Rel.drop {c : Cs} {G : List Hd} (h : Rel c.es G) (k : Pl) : Rel (dropS c k).es (withoutG G k) := h.filter fun h => !decide (keyH h = k)
theorem Rel.dropAll {c : Cs} {G : List Hd} (h : Rel c.es G) (d : Nat) (opt : Bool) : Rel (dropAllS c d opt).es (dropAllG G d opt) := h.filter fun h => !ofKind d opt h
theorem insG_mem {h x : Hd} {l : List Hd} : x ∈ insG h l ↔ x = h ∨ x ∈ l := by
 unfold insG
 rw [List.mem_append, List.mem_cons]
 have : x ∈ l ↔ x ∈ l.takeWhile (fun g => decide (cmpHd g h < 0)) ∨ x ∈ l.dropWhile (fun g => decide (cmpHd g h < 0)) := by
  rw [← List.mem_append, List.takeWhile_append_dropWhile]
 rw [this]
 constructor
 ·rintro (h1 | h1 | h1)
  ·exact .inr (.inl h1)
  ·exact .inl h1
  ·exact .inr (.inr h1)
 ·rintro (h1 | h1 | h1)
  ·exact .inr (.inl h1)
  ·exact .inl h1
  ·exact .inr (.inr h1)
theorem insG_ord {h : Hd} : ∀ {l : List Hd}, OrdC cmpHd l → (∀ g ∈ l, keyH g ≠ keyH h) → OrdC cmpHd (insG h l)
 | [], _, _ => List.pairwise_singleton _ _
 | g :: r, ho, hk => by
  have h1 := List.pairwise_cons.1 ho
  by_cases hlt : cmpHd g h < 0
  ·have e : insG h (g :: r) = g :: insG h r := by
    unfold insG
    rw [List.takeWhile_cons_of_pos (p := fun g => decide (cmpHd g h < 0)) (decide_eq_true hlt), List.dropWhile_cons_of_pos (p := fun g => decide (cmpHd g h < 0)) (decide_eq_true hlt)]; rfl
   rw [e]
   refine List.pairwise_cons.2 ⟨fun x hx => ?_, insG_ord h1.2 fun x hx => hk x (List.mem_cons_of_mem _ hx)⟩
   rcases insG_mem.1 hx with rfl | hx
   ·exact hlt
   ·exact h1.1 x hx
  ·have e : insG h (g :: r) = h :: g :: r := by
    unfold insG
    rw [List.takeWhile_cons_of_neg (p := fun g => decide (cmpHd g h < 0)) (by rw [decide_eq_true_iff]; exact hlt), List.dropWhile_cons_of_neg (p := fun g => decide (cmpHd g h < 0)) (by rw [decide_eq_true_iff]; exact hlt)]; rfl
   rw [e]
   have hgt : cmpHd h g < 0 := by
    have h2 := to_cmpHd.neg g h
    have h3 : cmpHd g h ≠ 0 := fun e0 => hk g List.mem_cons_self (cmpPl_zero e0)
    omega
   refine List.pairwise_cons.2 ⟨fun x hx => ?_, ho⟩
   rcases List.mem_cons.1 hx with rfl | hx
   ·exact hgt
   ·exact to_cmpHd.strict hgt (Int.le_of_lt (h1.1 x hx))
theorem Rel.setErr {c : Cs} {G : List Hd} (hc : CI c) (h : Rel c.es G) (x : Hd) : setGErr G x = setErr c x := by
 unfold setGErr Go.Proofs.YtnajpmepcffnaaaGreatDoor.setErr
 rw [h.find hc.nodup, h.len hc.nodup]
 have : (findE c.es (keyH x) = none) ↔ keyH x ∉ keysE c.es := ⟨findE_none, findE_out⟩
 simp only [this]
theorem Rel.set {c : Cs} {G : List Hd} (hc : CI c) (h : Rel c.es G) (x : Hd) : Rel (setS c x).es (setG G x) := by
 unfold setG setS
 rw [h.setErr hc]
 by_cases h0 : Go.Proofs.YtnajpmepcffnaaaGreatDoor.setErr c x = 0
 ·rw [if_pos h0, if_pos h0]
  have hw : OrdC cmpHd (withoutG G (keyH x)) := h.1.sublist List.filter_sublist
  refine ⟨insG_ord hw fun g hg => ?_, fun y => ?_⟩
  ·have := (List.mem_filter.1 hg).2
   rw [Bool.not_eq_true', decide_eq_false_iff_not] at this
   exact this
  ·rw [insG_mem]
   unfold withoutG
   rw [List.mem_filter, h.2, Bool.not_eq_true', decide_eq_false_iff_not]
   unfold setC
   by_cases hk : keyH x ∈ keysE c.es
   ·rw [if_pos hk]
    constructor
    ·rintro (rfl | ⟨⟨e, he, rfl⟩, hne⟩)
     ·obtain ⟨e, he, hke⟩ := keysE_mem.1 hk
      exact ⟨(y, e.2), List.mem_map.2 ⟨e, he, by rw [if_pos hke]⟩, rfl⟩
     ·exact ⟨e, List.mem_map.2 ⟨e, he, by rw [if_neg hne]⟩, rfl⟩
    ·rintro ⟨e, he, rfl⟩
     obtain ⟨z, hz, rfl⟩ := List.mem_map.1 he
     by_cases hkz : keyH z.1 = keyH x
     ·rw [if_pos hkz]; exact .inl rfl
     ·rw [if_neg hkz]; exact .inr ⟨⟨z, hz, rfl⟩, hkz⟩
   ·rw [if_neg hk]
    constructor
    ·rintro (rfl | ⟨⟨e, he, rfl⟩, hne⟩)
     ·exact ⟨(y, c.clk), List.mem_append_right _ (List.mem_singleton.2 rfl), rfl⟩
     ·exact ⟨e, List.mem_append_left _ he, rfl⟩
    ·rintro ⟨e, he, rfl⟩
     rcases List.mem_append.1 he with he | he
     ·exact .inr ⟨⟨e, he, rfl⟩, fun e2 => hk (keysE_mem.2 ⟨e, he, e2⟩)⟩
     ·rw [List.mem_singleton.1 he]; exact .inl rfl
 ·rw [if_neg h0, if_neg h0]; exact h
end Go.Proofs.YtnajpmepcffnaaaGreatDoor
end

section
/- ipfix, plain laws: what a message's sets say, over any store of templates. -/
namespace Go.Proofs.YtnajpmepcffnaaaGreatDoor
open Go.Ve

structure Ops (σ : Type) where
 find : σ → Pl → Option Hd
 set : σ → Hd → σ
 setErr : σ → Hd → Int
 drop : σ → Pl → σ
 dropAll : σ → Nat → Bool → σ
def opC : Ops Cs := ⟨fun c k => findE c.es k, setS, setErr, dropS, dropAllS⟩
def opG : Ops (List Hd) := ⟨findG, setG, setGErr, withoutG, dropAllG⟩
def idB (bs : Bs) : Nat := valB (bs.take 2)
def cntB (bs : Bs) : Nat := valB ((bs.drop 2).take 2)
def specsF : Nat → Bs → Int → List Sc × Bs × Int
 | 0, bs, e => ([], bs, e)
 | n + 1, bs, e => if e ≠ 0 then ([], bs, e) else match readF bs e with
  | (s, b1, e1) => match specsF n b1 e1 with
   | (l, b2, e2) => (s :: l, b2, e2)
def scopeF (opt : Bool) (n : Nat) (b : Bs) : Nat × Bs × Int :=
 bif opt then match rawF 2 b (mustE 0 (decide (n ≤ 64))) with
  | (x3, b3, e3) => (valB x3, b3, mustE e3 (decide (1 ≤ valB x3 ∧ valB x3 ≤ n)))
 else (0, b, mustE 0 (decide (n ≤ 64)))
section
variable {σ : Type} (O : Ops σ)
def withdrawF (c : σ) (d : Nat) (opt : Bool) (id : Nat) : σ × Int :=
 if id = (bif opt then 3 else 2) then (O.dropAll c d opt, 0) else if id < 256 then (c, 3) else (O.drop c (d, (id : Int)), 0)
def tmplF (c : σ) (d : Nat) (opt : Bool) (bs : Bs) : σ × Int × Bs :=
 if cntB bs = 0 then ((withdrawF O c d opt (idB bs)).1, (withdrawF O c d opt (idB bs)).2, bs.drop 4)
 else match scopeF opt (cntB bs) (bs.drop 4) with
  | (sc, b4, e4) => match specsF (cntB bs) b4 e4 with
   | (fs, b5, e5) => if e5 ≠ 0 then (c, e5, b5) else (O.set c ⟨d, ⟨(idB bs : Int), (sc : Int), fs⟩⟩, O.setErr c ⟨d, ⟨(idB bs : Int), (sc : Int), fs⟩⟩, b5)
def tmplsF : Nat → σ → Nat → Bool → Bs → σ × Int
 | 0, c, _, _, _ => (c, 0)
 | n + 1, c, d, opt, bs => if bs.length < 4 then (c, 0) else match tmplF O c d opt bs with
  | (c1, er, b1) => if er ≠ 0 then (c1, er) else tmplsF n c1 d opt b1
end
def recF : List Sc → Bs → Rc → Rc × Int × Bs
 | [], bs, f => (f, 0, bs)
 | s :: r, bs, f => match valueF s bs 0 with
  | (v, b1, e1) => if e1 ≠ 0 then (zeroR, e1, b1) else if setE s v ≠ 0 then (zeroR, setE s v, b1) else recF r b1 (updR s v f)
def recsF : Nat → List Sc → Bs → List Rc → List Rc × Int
 | 0, _, _, out => (out, 0)
 | n + 1, fs, bs, out => if (bs.length : Int) < sizesF fs then (out, 0) else match recF fs bs zeroR with
  | (f, er, b1) => if er ≠ 0 then (out, er) else recsF n fs b1 (out ++ [f])
structure Rd (σ : Type) where
 c : σ
 time : Nat
 seq : Nat
 dom : Nat
 lost : Nat
 idle : Nat
 out : List Rc
section
variable {σ : Type} (O : Ops σ)
def recordsF (d : Rd σ) (id : Nat) (b : Bs) : Rd σ × Int :=
 match O.find d.c (d.dom, (id : Int)) with
 | none => ({ d with lost := d.lost + 1 }, 0)
 | some h => if 0 < h.t.scope then ({ d with idle := d.idle + 1 }, 0) else match recsF b.length h.t.fields b d.out with
  | (o, er) => ({ d with out := o }, er)
def setF (d : Rd σ) (id : Nat) (b : Bs) : Rd σ × Int :=
 if id = 3 then match tmplsF O b.length d.c d.dom true b with | (c, er) => ({ d with c := c }, er)
 else if id = 2 then match tmplsF O b.length d.c d.dom false b with | (c, er) => ({ d with c := c }, er)
 else if id < 256 then (d, 12) else recordsF O d id b
def setsF : Nat → Rd σ → Bs → Rd σ × Int
 | 0, d, _ => (d, 0)
 | n + 1, d, bs => if bs = [] then (d, 0) else if bs.length < 4 then (d, 8) else if cntB bs < 4 then (d, 3) else if bs.length < cntB bs then (d, 8) else
  match setF O d (idB bs) ((bs.drop 4).take (cntB bs - 4)) with
  | (d1, er) => if er ≠ 0 then (d1, er) else setsF n d1 (bs.drop (cntB bs))
end
def headE (b : Bs) : Int := if b.length < 16 then 8 else if idB b ≠ 10 then 16 else if cntB b < 16 then 3 else if b.length < cntB b then 8 else if cntB b < b.length then 2 else 0
def hTime (b : Bs) : Nat := valB ((b.drop 4).take 4)
def hSeq (b : Bs) : Nat := valB ((b.drop 8).take 4)
def hDom (b : Bs) : Nat := valB ((b.drop 12).take 4)
def readM {σ : Type} (O : Ops σ) (c : σ) (b : Bs) : Rd σ × Int :=
 if headE b ≠ 0 then (⟨c, 0, 0, 0, 0, 0, []⟩, headE b) else setsF O (b.drop 16).length ⟨c, hTime b, hSeq b, hDom b, 0, 0, []⟩ (b.drop 16)

theorem mst0 {b : Bool} (h : mustE 0 b = 0) : b = true := by
 cases b with
 | true => rfl
 | false => unfold mustE at h; rw [if_pos ⟨rfl, rfl⟩] at h; cases h
theorem raw_eat {n : Int} {bs x r : Bs} (h : rawF n bs 0 = (x, r, 0)) : 0 ≤ n ∧ (r.length : Int) + n = bs.length ∧ x = bs.take n.toNat ∧ r = bs.drop n.toNat := by
 unfold rawF at h
 by_cases h1 : mustE 0 (decide (0 ≤ n)) ≠ 0
 ·rw [if_pos h1] at h
  simp only [Prod.mk.injEq] at h
  exact absurd h.2.2 h1
 ·rw [if_neg h1] at h
  have h0 := of_decide_eq_true (mst0 (Decidable.not_not.1 h1))
  by_cases h2 : (bs.length : Int) < n
  ·rw [if_pos h2] at h
   simp only [Prod.mk.injEq] at h
   exact absurd h.2.2 (by decide)
  ·rw [if_neg h2] at h
   simp only [Prod.mk.injEq] at h
   refine ⟨h0, ?_, h.1.symm, h.2.1.symm⟩
   rw [← h.2.1, List.length_drop]; omega
theorem rawF_bad {n : Int} {bs : Bs} {e : Int} (h : e ≠ 0) : rawF n bs e = ([], bs, e) := raw_bad h
theorem rawF_yes {n : Nat} {bs : Bs} (h : n ≤ bs.length) : rawF (n : Nat) bs 0 = (bs.take n, bs.drop n, 0) := by
 have := rw_full (x := bs.take n) (R := bs.drop n) (n := (n : Nat)) (by rw [List.length_take]; omega)
 rwa [List.take_append_drop] at this
theorem value_eat {s : Sc} {bs v b1 : Bs} (h : valueF s bs 0 = (v, b1, 0)) : rightS s = true ∧ b1.length < bs.length := by
 unfold valueF at h
 cases hr : rightS s with
 | false =>
  exfalso
  rw [hr] at h
  have e3 : mustE 0 false = 3 := rfl
  rw [e3] at h
  split at h
  ·unfold ownF at h
   rw [rawF_bad (n := 1) (bs := bs) (show (3 : Int) ≠ 0 by decide)] at h
   dsimp only at h
   rw [rawF_bad (n := 2) (bs := bs) (show (3 : Int) ≠ 0 by decide)] at h
   dsimp only at h
   split at h <;> (rw [rawF_bad (show (3 : Int) ≠ 0 by decide)] at h; simp at h)
  ·rw [rawF_bad (show (3 : Int) ≠ 0 by decide)] at h
   simp at h
 | true =>
  refine ⟨rfl, ?_⟩
  have hR : RightS s := of_decide_eq_true hr
  unfold RightS at hR
  rw [hr, mst_ok] at h
  split at h
  ·unfold ownF at h
   rcases hx : rawF 1 bs 0 with ⟨x1, b2, e1⟩
   rw [hx] at h
   dsimp only at h
   by_cases h1 : e1 = 0
   ·subst h1
    have k1 := raw_eat hx
    rcases hy : rawF 2 b2 0 with ⟨x2, b3, e2⟩
    rw [hy] at h
    dsimp only at h
    split at h
    ·by_cases h2 : e2 = 0
     ·subst h2
      have k2 := raw_eat hy
      have k3 := raw_eat h
      omega
     ·rw [rawF_bad h2] at h
      simp only [Prod.mk.injEq] at h
      exact absurd h.2.2 h2
    ·have k3 := raw_eat h
     omega
   ·rw [rawF_bad (n := 2) h1] at h
    dsimp only at h
    split at h <;> (rw [rawF_bad h1] at h; simp only [Prod.mk.injEq] at h; exact absurd h.2.2 h1)
  ·have k := raw_eat h
   omega
theorem rec_eat : ∀ {fs : List Sc} {bs : Bs} {f g : Rc} {b1 : Bs}, recF fs bs f = (g, 0, b1) → b1.length + fs.length ≤ bs.length
 | [], bs, f, g, b1, h => by
  simp only [recF, Prod.mk.injEq] at h
  rw [h.2.2]; exact Nat.le_refl _
 | s :: r, bs, f, g, b1, h => by
  unfold recF at h
  rcases hv : valueF s bs 0 with ⟨v, b2, e1⟩
  rw [hv] at h
  dsimp only at h
  by_cases h1 : e1 = 0
  ·subst h1
   rw [if_neg (fun h => h rfl)] at h
   by_cases h2 : setE s v ≠ 0
   ·rw [if_pos h2] at h
    simp only [Prod.mk.injEq] at h
    exact absurd h.2.1 h2
   ·rw [if_neg h2] at h
    have := rec_eat h
    have k := (value_eat hv).2
    rw [List.length_cons]; omega
  ·rw [if_pos h1] at h
   simp only [Prod.mk.injEq] at h
   exact absurd h.2.1 h1
theorem read_err {bs : Bs} {e : Int} (he : e ≠ 0) : (readF bs e).2 = (bs, e) := by
 unfold readF
 rw [rawF_bad he]
 dsimp only
 rw [rawF_bad he]
 dsimp only
 rw [mst_err he, rawF_bad he]
 dsimp only
 split
 ·rfl
 ·unfold specR
  rw [mst_err he]
theorem read_le (bs : Bs) (e : Int) : (readF bs e).2.1.length ≤ bs.length := by
 unfold readF
 have h1 := raw_rest 2 bs e
 rcases hx : rawF 2 bs e with ⟨x1, b1, e1⟩
 rw [hx] at h1
 dsimp only at h1 ⊢
 have h2 := raw_rest 2 b1 e1
 rcases hy : rawF 2 b1 e1 with ⟨x2, b2, e2⟩
 rw [hy] at h2
 dsimp only at h2 ⊢
 have h3 := raw_rest 4 b2 (mustE e2 (decide (0 < valB x2)))
 rcases hz : rawF 4 b2 (mustE e2 (decide (0 < valB x2))) with ⟨x3, b3, e3⟩
 rw [hz] at h3
 dsimp only at h3 ⊢
 split
 ·show b2.length ≤ _; omega
 ·show b3.length ≤ _; omega
theorem specs_le : ∀ (n : Nat) (bs : Bs) (e : Int), (specsF n bs e).2.1.length ≤ bs.length
 | 0, _, _ => Nat.le_refl _
 | n + 1, bs, e => by
  unfold specsF
  split
  ·exact Nat.le_refl _
  ·have h1 := read_le bs e
   rcases hr : readF bs e with ⟨s, b1, e1⟩
   rw [hr] at h1
   dsimp only
   have h2 := specs_le n b1 e1
   rcases hs : specsF n b1 e1 with ⟨l, b2, e2⟩
   rw [hs] at h2
   exact Nat.le_trans h2 h1
theorem scope_le (opt : Bool) (n : Nat) (b : Bs) : (scopeF opt n b).2.1.length ≤ b.length := by
 unfold scopeF
 cases opt
 ·exact Nat.le_refl _
 ·rw [cond_true]
  exact raw_rest 2 b _
theorem tmpl_eat {σ : Type} {O : Ops σ} {c : σ} {d : Nat} {opt : Bool} {bs : Bs} : (tmplF O c d opt bs).2.2.length ≤ bs.length - 4 := by
 unfold tmplF
 by_cases h : cntB bs = 0
 ·rw [if_pos h]; simp
 ·rw [if_neg h]
  have h1 := scope_le opt (cntB bs) (bs.drop 4)
  rcases hx : scopeF opt (cntB bs) (bs.drop 4) with ⟨sc, b4, e4⟩
  rw [hx] at h1
  dsimp only
  have h2 := specs_le (cntB bs) b4 e4
  rcases hy : specsF (cntB bs) b4 e4 with ⟨fs, b5, e5⟩
  rw [hy] at h2
  rw [List.length_drop] at h1
  dsimp only at h1 h2 ⊢
  split
  ·show b5.length ≤ _; omega
  ·show b5.length ≤ _; omega
theorem setF_dom' {σ : Type} (O : Ops σ) (d : Rd σ) (id : Nat) (b : Bs) : (setF O d id b).1.dom = d.dom ∧ (setF O d id b).1.time = d.time ∧ (setF O d id b).1.seq = d.seq := by
 unfold setF
 split
 ·exact ⟨rfl, rfl, rfl⟩
 ·split
  ·exact ⟨rfl, rfl, rfl⟩
  ·split
   ·exact ⟨rfl, rfl, rfl⟩
   ·unfold recordsF
    split
    ·exact ⟨rfl, rfl, rfl⟩
    ·split
     ·exact ⟨rfl, rfl, rfl⟩
     ·exact ⟨rfl, rfl, rfl⟩
structure Sim {σ τ : Type} (O : Ops σ) (O' : Ops τ) (R : σ → τ → Prop) : Prop where
 find : ∀ {c g}, R c g → ∀ k, O.find c k = O'.find g k
 set : ∀ {c g}, R c g → ∀ h : Hd, h.dom < 4294967296 → R (O.set c h) (O'.set g h) ∧ O.setErr c h = O'.setErr g h
 drop : ∀ {c g}, R c g → ∀ k, R (O.drop c k) (O'.drop g k)
 dropAll : ∀ {c g}, R c g → ∀ d opt, R (O.dropAll c d opt) (O'.dropAll g d opt)
def RR {σ τ : Type} (R : σ → τ → Prop) (d : Rd σ) (g : Rd τ) : Prop := R d.c g.c ∧ d.time = g.time ∧ d.seq = g.seq ∧ d.dom = g.dom ∧ d.lost = g.lost ∧ d.idle = g.idle ∧ d.out = g.out
section
variable {σ τ : Type} {O : Ops σ} {O' : Ops τ} {R : σ → τ → Prop} (hS : Sim O O' R)
include hS
theorem sim_withdraw {c : σ} {g : τ} (h : R c g) (d : Nat) (opt : Bool) (id : Nat) : R (withdrawF O c d opt id).1 (withdrawF O' g d opt id).1 ∧ (withdrawF O c d opt id).2 = (withdrawF O' g d opt id).2 := by
 unfold withdrawF
 split
 ·exact ⟨hS.dropAll h d opt, rfl⟩
 ·split
  ·exact ⟨h, rfl⟩
  ·exact ⟨hS.drop h _, rfl⟩
theorem sim_tmpl {c : σ} {g : τ} (h : R c g) {d : Nat} (hd : d < 4294967296) (opt : Bool) (bs : Bs) : R (tmplF O c d opt bs).1 (tmplF O' g d opt bs).1 ∧ (tmplF O c d opt bs).2 = (tmplF O' g d opt bs).2 := by
 unfold tmplF
 by_cases h0 : cntB bs = 0
 ·rw [if_pos h0, if_pos h0]
  obtain ⟨h1, h2⟩ := sim_withdraw hS h d opt (idB bs)
  exact ⟨h1, by rw [h2]⟩
 ·rw [if_neg h0, if_neg h0]
  rcases scopeF opt (cntB bs) (bs.drop 4) with ⟨sc, b4, e4⟩
  dsimp only
  rcases specsF (cntB bs) b4 e4 with ⟨fs, b5, e5⟩
  dsimp only
  split
  ·exact ⟨h, rfl⟩
  ·obtain ⟨h1, h2⟩ := hS.set h ⟨d, ⟨(idB bs : Int), (sc : Int), fs⟩⟩ hd
   exact ⟨h1, by rw [h2]⟩
theorem sim_tmpls : ∀ (n : Nat) {c : σ} {g : τ}, R c g → ∀ {d : Nat}, d < 4294967296 → ∀ (opt : Bool) (bs : Bs), R (tmplsF O n c d opt bs).1 (tmplsF O' n g d opt bs).1 ∧ (tmplsF O n c d opt bs).2 = (tmplsF O' n g d opt bs).2
 | 0, c, g, h, d, hd, opt, bs => ⟨h, rfl⟩
 | n + 1, c, g, h, d, hd, opt, bs => by
  unfold tmplsF
  by_cases h0 : bs.length < 4
  ·rw [if_pos h0, if_pos h0]; exact ⟨h, rfl⟩
  ·rw [if_neg h0, if_neg h0]
   obtain ⟨h1, h2⟩ := sim_tmpl hS h hd opt bs
   rcases hx : tmplF O c d opt bs with ⟨c1, er, b1⟩
   rcases hy : tmplF O' g d opt bs with ⟨g1, er', b1'⟩
   rw [hx, hy] at h1 h2
   simp only [Prod.mk.injEq] at h2
   obtain ⟨rfl, rfl⟩ := h2
   dsimp only
   split
   ·exact ⟨h1, rfl⟩
   ·exact sim_tmpls n h1 hd opt b1
theorem sim_set {d : Rd σ} {g : Rd τ} (h : RR R d g) (hd : d.dom < 4294967296) (id : Nat) (b : Bs) : RR R (setF O d id b).1 (setF O' g id b).1 ∧ (setF O d id b).2 = (setF O' g id b).2 := by
 obtain ⟨hc, h1, h2, h3, h4, h5, h6⟩ := h
 unfold setF
 split
 ·have := sim_tmpls hS b.length hc hd true b
  rw [← h3]
  exact ⟨⟨this.1, h1, h2, rfl, h4, h5, h6⟩, this.2⟩
 ·split
  ·have := sim_tmpls hS b.length hc hd false b
   rw [← h3]
   exact ⟨⟨this.1, h1, h2, rfl, h4, h5, h6⟩, this.2⟩
  ·split
   ·exact ⟨⟨hc, h1, h2, h3, h4, h5, h6⟩, rfl⟩
   ·unfold recordsF
    rw [← h3, hS.find hc]
    cases O'.find g.c (d.dom, (id : Int)) with
    | none => exact ⟨⟨hc, h1, h2, rfl, by show d.lost + 1 = g.lost + 1; rw [h4], h5, h6⟩, rfl⟩
    | some x =>
     dsimp only
     split
     ·exact ⟨⟨hc, h1, h2, rfl, h4, by show d.idle + 1 = g.idle + 1; rw [h5], h6⟩, rfl⟩
     ·rw [h6]; exact ⟨⟨hc, h1, h2, rfl, h4, h5, rfl⟩, rfl⟩
theorem sim_sets : ∀ (n : Nat) {d : Rd σ} {g : Rd τ}, RR R d g → d.dom < 4294967296 → ∀ (bs : Bs), RR R (setsF O n d bs).1 (setsF O' n g bs).1 ∧ (setsF O n d bs).2 = (setsF O' n g bs).2
 | 0, d, g, h, hd, bs => ⟨h, rfl⟩
 | n + 1, d, g, h, hd, bs => by
  unfold setsF
  split
  ·exact ⟨h, rfl⟩
  ·split
   ·exact ⟨h, rfl⟩
   ·split
    ·exact ⟨h, rfl⟩
    ·split
     ·exact ⟨h, rfl⟩
     ·obtain ⟨h1, h2⟩ := sim_set hS h hd (idB bs) ((bs.drop 4).take (cntB bs - 4))
      have hdd := (setF_dom' O d (idB bs) ((bs.drop 4).take (cntB bs - 4))).1
      rcases hx : setF O d (idB bs) ((bs.drop 4).take (cntB bs - 4)) with ⟨d1, er⟩
      rcases hy : setF O' g (idB bs) ((bs.drop 4).take (cntB bs - 4)) with ⟨g1, er'⟩
      rw [hx, hy] at h1 h2
      rw [hx] at hdd
      have h2 : er = er' := h2
      subst h2
      dsimp only
      split
      ·exact ⟨h1, rfl⟩
      ·exact sim_sets n h1 (by show d1.dom < _; rw [show d1.dom = d.dom from hdd]; exact hd) _
end
theorem hDom_lt (b : Bs) : hDom b < 4294967296 := by
 refine Nat.lt_of_lt_of_le (valB_lt _) (show 256 ^ _ ≤ 256 ^ 4 from Nat.pow_le_pow_right (by decide) ?_)
 rw [List.length_take]; omega
theorem sim_read {σ τ : Type} {O : Ops σ} {O' : Ops τ} {R : σ → τ → Prop} (hS : Sim O O' R) {c : σ} {g : τ} (h : R c g) (b : Bs) : RR R (readM O c b).1 (readM O' g b).1 ∧ (readM O c b).2 = (readM O' g b).2 := by
 unfold readM
 split
 ·exact ⟨⟨h, rfl, rfl, rfl, rfl, rfl, rfl⟩, rfl⟩
 ·exact sim_sets hS _ ⟨h, rfl, rfl, rfl, rfl, rfl, rfl⟩ (hDom_lt b) _
def RC (c : Cs) (G : List Hd) : Prop := CI c ∧ Rel c.es G
theorem simC : Sim opC opG RC where
 find := fun h k => (h.2.find h.1.nodup k).symm
 set := fun h x hd => ⟨⟨h.1.set hd, h.2.set h.1 x⟩, (h.2.setErr h.1 x).symm⟩
 drop := fun h k => ⟨h.1.drop k, h.2.drop k⟩
 dropAll := fun h d opt => ⟨h.1.dropAll d opt, h.2.dropAll d opt⟩
end Go.Proofs.YtnajpmepcffnaaaGreatDoor
end

section
/- A call's heap and arguments, said in fewer words ahead of the call. -/
namespace Go.Ve

def numL : Nat → List AV → List (Nat × AV)
 | _, [] => []
 | k, x :: r => (k, x) :: numL (k + 1) r
theorem numL_get : ∀ {l : List AV} {k i : Nat} {x : AV}, l[i]? = some x → envL (numL k l) (k + i) = x
 | y :: r, k, 0, x, h => by
  simp at h
  subst h
  show (bif Nat.beq (k + 0) k then y else _) = y
  rw [Nat.add_zero, Nat.beq_refl]; rfl
 | y :: r, k, i + 1, x, h => by
  have h2 : r[i]? = some x := by simpa using h
  show (bif Nat.beq (k + (i + 1)) k then y else envL (numL (k + 1) r) (k + (i + 1))) = x
  have : Nat.beq (k + (i + 1)) k = false := by
   cases hb : Nat.beq (k + (i + 1)) k with
   | false => rfl
   | true => exact absurd (Nat.eq_of_beq_eq_true hb) (by omega)
  rw [this, cond_false, show k + (i + 1) = k + 1 + i by omega]
  exact numL_get h2
theorem ACall.weak [Dr] {P : Program} {f : FuncId} {args az : List AV} {H H' : Hp} {K : KV} (l : List (Nat × AV)) (hl : numL 0 az = l) (hlen : az.length = args.length) (hw : Weak H.length ⟨env0 args, H⟩ ⟨envL l, H'⟩) (h : ACall P f az H' K) : ACall P f args H K := by
 subst hl
 unfold ACall at *
 refine ⟨h.1, fun M0 σ w vs hs hv => ?_⟩
 have ha : ActOk [] (Kof M0 H σ w) σ vs.length (env0 args) { tmps := vs.toArray, defers := [] } := ⟨by simp, rfl, fun i => by
  show Rv _ _ (args.getD i .undef) _
  cases hi : args[i]? with
  | none => rw [List.getD_eq_getElem?_getD, hi]; exact .undef _ _
  | some x =>
   rw [List.getD_eq_getElem?_getD, hi]
   have := hv.2 i x hi
   simpa using this⟩
 obtain ⟨σ1, k1, k2, k3, k4⟩ := hw M0 σ w vs.length _ [] (by rw [hs.len]; exact Nat.le_refl _) hs ha
 have hpre : σ <+: σ1 := by
  have e : σ.take H.length = σ := by rw [← hs.len]; exact List.take_length
  rw [e] at k1; exact k1
 have hv1 : Rvs (Kof M0 H' σ1 w) σ1 az vs := ⟨by rw [hlen]; exact hv.1, fun i x hx => by
  have := k4.rv i
  have e : envL (numL 0 az) i = x := by have := numL_get (k := 0) hx; rwa [Nat.zero_add] at this
  have h5 : Rv (Kof M0 H' σ1 w) σ1 (envL (numL 0 az) i) _ := this
  rw [e] at h5
  simpa using h5⟩
 refine Calls.mono (h.2 M0 σ1 w vs k3 hv1) fun e w' he => ?_
 obtain ⟨v, r, H2, σ2, rfl, h2, h3, h4, h5⟩ := he
 exact ⟨v, r, H2, σ2, rfl, h2, ⟨h3.os, h3.tape, h3.output, h3.size, hpre.trans h3.pre, fun b hb hm => h3.keep b hb fun hm2 => hm (k2 b hm2), fun b hb hm => k2 b (h3.mutb b hb hm)⟩, h4, h5⟩
end Go.Ve
end
