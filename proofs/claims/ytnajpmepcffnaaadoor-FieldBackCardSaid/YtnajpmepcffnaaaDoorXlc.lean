/- The program's contracts: texts joined into one: FieldLaw LawField4 FieldBig LawLabel2 LawLabel3 FieldLaw2 Field10 LawField5 LawField6 ArgsKey ArgsField LawBackB. -/
import Derived.Test.YtnajpmepcffnaaaDoorXlb
import Derived.Test.YtnajpmepcffnaaaDoorXvb

section
/- field: what was written is read (plain). -/
namespace Go.Proofs.YtnajpmepcffnaaaDoor
open Go.Ve

theorem rw_full {x R : Bs} {n : Int} (h : (x.length : Int) = n) : rawF n (x ++ R) 0 = (x, R, 0) := by
  unfold rawF
  have h0 : mustE 0 (decide (0 ≤ n)) = 0 := by rw [decide_eq_true (by omega)]; rfl
  rw [if_neg (fun hc => hc h0), if_neg (by rw [List.length_append]; omega), ← h, Int.toNat_natCast, List.take_left, List.drop_left]
theorem rw_short {bs : Bs} {n : Int} (h : (bs.length : Int) < n) : rawF n bs 0 = ([], bs, 8) := by
  unfold rawF
  have h0 : mustE 0 (decide (0 ≤ n)) = 0 := by rw [decide_eq_true (by omega)]; rfl
  rw [if_neg (fun hc => hc h0), if_pos h]
theorem mst_err {e : Int} (he : e ≠ 0) (b : Bool) : mustE e b = e := by
  unfold mustE; rw [if_neg (fun h => he h.1)]
theorem mst_ok (e : Int) : mustE e true = e := by
  unfold mustE; rw [if_neg (fun h => by cases h.2)]
theorem nb_mod (n : Nat) : ∀ k, valB (numB n k) = n % 256 ^ k
  | 0 => by rw [Nat.pow_zero, Nat.mod_one]; rfl
  | k + 1 => by
    have ih := nb_mod n k
    have h : valB (numB n (k + 1)) = (n / 256 ^ k % 256) * 256 ^ k + valB (numB n k) := by
      have := valB_app [UInt8.ofNat (n / 256 ^ k)] (numB n k)
      rw [numB_len] at this
      exact this.trans (by
        congr 2
        show 0 * 256 + (n / 256 ^ k % 256) = _
        omega)
    rw [h, ih, Nat.pow_succ, Nat.mod_mul, Nat.mul_comm (256 ^ k), Nat.add_comm]
theorem nb_lt {n k : Nat} (h : n < 256 ^ k) : valB (numB n k) = n := by rw [nb_mod, Nat.mod_eq_of_lt h]
theorem value_err {s : Sc} {bs : Bs} {e : Int} (he : e ≠ 0) : valueF s bs e = ([], bs, e) := by
  unfold valueF
  rw [mst_err he]
  split
  · unfold ownF
    rw [raw_bad he]
    dsimp only
    rw [raw_bad he]
    dsimp only
    rw [raw_bad he]
    exact ite_self _
  · exact raw_bad he
theorem right_true {s : Sc} (h : RightS s) : rightS s = true := decide_eq_true h
/-- A value of its field's length. -/
def FitV (s : Sc) (v : Bs) : Prop := (s.len ≠ 65535 → (v.length : Int) = s.len) ∧ v.length ≤ 65535
theorem put_fit {s : Sc} {v : Bs} (hR : RightS s) (hv : FitV s v) : putB s v = if s.len = 65535 then (if v.length < 255 then numB v.length 1 ++ v else numB 255 1 ++ numB v.length 2 ++ v) else v := by
  unfold putB
  rw [if_neg (fun h => h hR), List.take_of_length_le hv.2]
  split
  · rfl
  · rename_i h
    have := hv.1 h
    unfold padB
    rw [List.take_of_length_le (by omega), show s.len.toNat - v.length = 0 by omega]
    simp
theorem value_full {s : Sc} {v : Bs} (hR : RightS s) (hv : FitV s v) (R : Bs) : valueF s (putB s v ++ R) 0 = (v, R, 0) := by
  rw [put_fit hR hv]
  unfold valueF
  rw [right_true hR, mst_ok]
  split
  · rename_i h6
    by_cases h5 : v.length < 255
    · rw [if_pos h5]
      unfold ownF
      rw [List.append_assoc, rw_full (x := numB v.length 1) (by rw [numB_len]; rfl)]
      dsimp only
      have hval : valB (numB v.length 1) = v.length := nb_lt (by omega)
      rw [hval, if_neg (by omega)]
      exact rw_full rfl
    · rw [if_neg h5]
      unfold ownF
      rw [List.append_assoc, List.append_assoc, rw_full (x := numB 255 1) (by rw [numB_len]; rfl)]
      dsimp only
      rw [rw_full (x := numB v.length 2) (by rw [numB_len]; rfl)]
      dsimp only
      have hval : valB (numB v.length 2) = v.length := nb_lt (by have := hv.2; omega)
      have hval2 : valB (numB 255 1) = 255 := by decide
      rw [hval, if_pos hval2]
      exact rw_full rfl
  · rename_i h6
    exact rw_full (hv.1 h6)
theorem value_short {s : Sc} {v : Bs} (hR : RightS s) (hv : FitV s v) {c : Nat} (hc : c < (putB s v).length) : (valueF s ((putB s v).take c) 0).2.2 = 8 := by
  rw [put_fit hR hv] at hc ⊢
  unfold valueF
  rw [right_true hR, mst_ok]
  split
  · rename_i h6
    rw [if_pos h6] at hc
    by_cases h5 : v.length < 255
    · rw [if_pos h5, List.length_append, numB_len] at hc
      rw [if_pos h5]
      unfold ownF
      by_cases h1 : c < 1
      · rw [rw_short (n := 1) (by rw [List.length_take]; omega)]
        dsimp only
        rw [raw_bad (e := 8) (by decide)]
        dsimp only
        rw [raw_bad (e := 8) (by decide), ite_self]
      · have e1 : (numB v.length 1 ++ v).take c = numB v.length 1 ++ v.take (c - 1) := by
          rw [List.take_append, numB_len, List.take_of_length_le (by rw [numB_len]; omega)]
        rw [e1, rw_full (x := numB v.length 1) (by rw [numB_len]; rfl)]
        dsimp only
        have hval : valB (numB v.length 1) = v.length := nb_lt (by omega)
        rw [hval, if_neg (by omega), rw_short (by rw [List.length_take]; omega)]
    · rw [if_neg h5, List.length_append, List.length_append, numB_len, numB_len] at hc
      rw [if_neg h5]
      unfold ownF
      by_cases h1 : c < 1
      · rw [rw_short (n := 1) (by rw [List.length_take]; omega)]
        dsimp only
        rw [raw_bad (e := 8) (by decide)]
        dsimp only
        rw [raw_bad (e := 8) (by decide), ite_self]
      · have e1 : (numB 255 1 ++ numB v.length 2 ++ v).take c = numB 255 1 ++ (numB v.length 2 ++ v).take (c - 1) := by
          rw [List.append_assoc, List.take_append, numB_len, List.take_of_length_le (by rw [numB_len]; omega)]
        have hval2 : valB (numB 255 1) = 255 := by decide
        rw [e1, rw_full (x := numB 255 1) (by rw [numB_len]; rfl)]
        dsimp only
        by_cases h2 : c < 3
        · rw [rw_short (n := 2) (by rw [List.length_take]; omega)]
          dsimp only
          rw [if_pos hval2, raw_bad (e := 8) (by decide)]
        · have e2 : (numB v.length 2 ++ v).take (c - 1) = numB v.length 2 ++ v.take (c - 1 - 2) := by
            rw [List.take_append, numB_len, List.take_of_length_le (by rw [numB_len]; omega)]
          rw [e2, rw_full (x := numB v.length 2) (by rw [numB_len]; rfl)]
          dsimp only
          have hval : valB (numB v.length 2) = v.length := nb_lt (by have := hv.2; omega)
          rw [if_pos hval2, hval, rw_short (by rw [List.length_take]; omega)]
  · rename_i h6
    rw [if_neg h6] at hc
    have := hv.1 h6
    rw [rw_short (by rw [List.length_take]; omega)]
/-- What was written of a field is read. -/
theorem read_full {s : Sc} (hR : RightS s) (he : EntOk s) (R : Bs) : readF (specB s ++ R) 0 = (s, R, 0) := by
  unfold specB
  rw [if_neg (fun h => h hR)]
  obtain ⟨id, ent, len⟩ := s
  unfold RightS at hR
  unfold EntOk at he
  dsimp only at hR he ⊢
  obtain ⟨i, rfl⟩ := nat_of hR.1
  obtain ⟨n, rfl⟩ := nat_of (show 0 ≤ len by omega)
  obtain ⟨e, rfl⟩ := nat_of he.1
  rw [Int.toNat_natCast, Int.toNat_natCast, Int.toNat_natCast]
  have v1 : valB (numB i 2) = i := nb_lt (by omega)
  have v2 : valB (numB n 2) = n := nb_lt (by omega)
  have v3 : valB (numB (i + 32768) 2) = i + 32768 := nb_lt (by omega)
  have v4 : valB (numB e 4) = e := nb_lt (by omega)
  by_cases h0 : (e : Int) = 0
  · rw [if_pos h0]
    unfold readF specR specOf
    rw [List.append_assoc, rw_full (x := numB i 2) (by rw [numB_len]; rfl)]
    dsimp only
    rw [rw_full (x := numB n 2) (by rw [numB_len]; rfl)]
    dsimp only
    rw [v1, v2, decide_eq_true (show 0 < n by omega), mst_ok]
    rw [if_pos (by omega), if_pos rfl, Nat.mod_eq_of_lt (by omega), h0]
    rfl
  · rw [if_neg h0]
    unfold readF specR specOf
    rw [List.append_assoc, List.append_assoc, rw_full (x := numB (i + 32768) 2) (by rw [numB_len]; rfl)]
    dsimp only
    rw [rw_full (x := numB n 2) (by rw [numB_len]; rfl)]
    dsimp only
    rw [v2, decide_eq_true (show 0 < n by omega), mst_ok, rw_full (x := numB e 4) (by rw [numB_len]; rfl)]
    dsimp only
    rw [v3, v4, decide_eq_true (show 0 < e by omega), mst_ok]
    rw [if_neg (by omega), if_pos rfl, show (i + 32768) % 32768 = i by omega]
theorem read_short {s : Sc} (hR : RightS s) {c : Nat} (hc : c < (specB s).length) (R : Bs) : (readF ((specB s ++ R).take c) 0).2.2 = 8 := by
  have v3 : ∀ k : Nat, k < 32768 → valB (numB (k + 32768) 2) = k + 32768 := fun k hk => nb_lt (by omega)
  unfold specB at hc ⊢
  rw [if_neg (fun h => h hR)] at hc ⊢
  unfold RightS at hR
  have bad : ∀ (b : Bs) (m : Bool), rawF 4 b (mustE 8 m) = ([], b, 8) := fun b m => by rw [mst_err (by decide)]; exact raw_bad (e := 8) (by decide)
  have m8 : ∀ m : Bool, mustE 8 m = 8 := fun m => mst_err (by decide) m
  by_cases h0 : s.ent = 0
  · rw [if_pos h0] at hc ⊢
    rw [List.length_append, numB_len, numB_len] at hc
    unfold readF specR
    by_cases h1 : c < 2
    · rw [rw_short (n := 2) (by rw [List.length_take]; omega)]
      dsimp only
      rw [raw_bad (n := 2) (e := 8) (by decide)]
      dsimp only
      rw [bad]
      dsimp only
      rw [m8]
      split <;> rfl
    · have e1 : (numB s.id.toNat 2 ++ numB s.len.toNat 2 ++ R).take c = numB s.id.toNat 2 ++ (numB s.len.toNat 2 ++ R).take (c - 2) := by
        rw [List.append_assoc, List.take_append, numB_len, List.take_of_length_le (by rw [numB_len]; omega)]
      rw [e1, rw_full (x := numB s.id.toNat 2) (by rw [numB_len]; rfl)]
      dsimp only
      rw [rw_short (n := 2) (by rw [List.length_take]; omega)]
      dsimp only
      rw [bad]
      dsimp only
      rw [m8]
      split <;> rfl
  · rw [if_neg h0] at hc ⊢
    rw [List.length_append, List.length_append, numB_len, numB_len, numB_len] at hc
    unfold readF specR
    by_cases h1 : c < 2
    · rw [rw_short (n := 2) (by rw [List.length_take]; omega)]
      dsimp only
      rw [raw_bad (n := 2) (e := 8) (by decide)]
      dsimp only
      rw [bad]
      dsimp only
      rw [m8]
      split <;> rfl
    · have e1 : (numB (s.id.toNat + 32768) 2 ++ numB s.len.toNat 2 ++ numB s.ent.toNat 4 ++ R).take c = numB (s.id.toNat + 32768) 2 ++ (numB s.len.toNat 2 ++ (numB s.ent.toNat 4 ++ R)).take (c - 2) := by
        rw [List.append_assoc, List.append_assoc, List.take_append, numB_len, List.take_of_length_le (by rw [numB_len]; omega)]
      rw [e1, rw_full (x := numB (s.id.toNat + 32768) 2) (by rw [numB_len]; rfl)]
      dsimp only
      by_cases h2 : c < 4
      · rw [rw_short (n := 2) (by rw [List.length_take]; omega)]
        dsimp only
        rw [bad]
        dsimp only
        rw [m8]
        split <;> rfl
      · have e2 : (numB s.len.toNat 2 ++ (numB s.ent.toNat 4 ++ R)).take (c - 2) = numB s.len.toNat 2 ++ (numB s.ent.toNat 4 ++ R).take (c - 2 - 2) := by
          rw [List.take_append, numB_len, List.take_of_length_le (by rw [numB_len]; omega)]
        have v2 : valB (numB s.len.toNat 2) = s.len.toNat := nb_lt (by omega)
        rw [e2, rw_full (x := numB s.len.toNat 2) (by rw [numB_len]; rfl)]
        dsimp only
        rw [v2, decide_eq_true (show 0 < s.len.toNat by omega), mst_ok, rw_short (n := 4) (by rw [List.length_take]; omega)]
        dsimp only
        rw [v3 _ (by omega), if_neg (by omega), m8]
end Go.Proofs.YtnajpmepcffnaaaDoor
end

section
/- field: what was written is read. -/
namespace Go.Proofs.YtnajpmepcffnaaaDoor
open Go.Ve

theorem back_short {s : Sc} (hR : RightS s) (he : EntOk s) {v : Bs} (hv : FitV s v) {c : Nat} (hc : c < (specB s ++ putB s v).length) :
    (valueF s (readF ((specB s ++ putB s v).take c) 0).2.1 (readF ((specB s ++ putB s v).take c) 0).2.2).2.2 = 8 := by
  by_cases h : c < (specB s).length
  · rw [read_short hR h (putB s v), value_err (by decide)]
  · rw [List.length_append] at hc
    have e : (specB s ++ putB s v).take c = specB s ++ (putB s v).take (c - (specB s).length) := by
      rw [List.take_append, List.take_of_length_le (by omega)]
    rw [e, read_full hR he]
    exact value_short hR hv (by omega)
set_option maxHeartbeats 8000000 in
theorem FieldBack_ok (s : Sc) (he : EntOk s) (v : Bs) (hv : v.length ≤ 1048576) (cut : Int) : PCall P 5 [sv s, .sl (bcl v), .int .i64 cut] (.bool true) := by
  have q0 := alive15_ok
  have q1 := fRight_ok s
  have p1 := fWriteN s he
  have p2 := fPutR (specB s) (by have := specB_len s; omega) s v (by omega)
  have p3 := specB_len s
  have p4 := putB_len s v
  have p5 := wBytesR (specB s ++ putB s v) (by rw [List.length_append]; omega)
  have hbl := bcl_len v
  have hwl := bcl_len (specB s ++ putB s v)
  rw [List.length_append] at hwl
  refine PCall.of_awp tok mixed fn5 (Nat.le_of_ble_eq_true rfl) ?_
  rcases right_cases s with ⟨hR, hb⟩ | ⟨hR, hb⟩
  · rw [hb] at q1
    by_cases hF : FitV s v
    · have f1 := read_full hR he (putB s v)
      have f2 := value_full hR hF []
      rw [List.append_nil] at f2
      have f3 := fun c => back_short (c := c) hR he hF
      have g1 := hF.1
      have g2 := hF.2
      have n1 : (specB s ++ putB s v).length = (specB s).length + (putB s v).length := List.length_append
      generalize specB s ++ putB s v = W at *
      have q3 := from_sl W (by omega)
      have r1 := fRead_ok W 0 (by omega)
      rw [f1] at r1
      have r2 := fValue_ok s (putB s v) 0 (by omega)
      rw [f2] at r2
      have r3 := rEnd_ok [] 0
      dsimp only at r1 r2
      rw [show endN [] 0 = 0 from rfl] at r3
      (conv => whnf); (repeat' first | ((with_reducible refine Box.mk ?_); conv => whnf) | ((with_reducible refine And.intro (fun _ => ?_) (fun _ => ?_)) <;> conv => whnf) | ((with_reducible show AYld _ _ _ _ _); (refine AYld.of tok mixed ?_); conv => whnf) | ((with_reducible show forceH _ _); (refine (forceH_eq _ _).mpr ?_); conv => whnf) | ((with_reducible show ACall _ _ _ _ _); (refine ACall.of_pure (by assumption) (by rfl) ?_); conv => whnf) | ((with_reducible show Exists _); (refine ⟨_, ACall.of_pure (by assumption) (by rfl) ⟨rfl, rfl⟩, ?_⟩); conv => whnf) | ((with_reducible show _ ∧ _ ∧ _); (refine ⟨by omega, by omega, ?_⟩); conv => whnf) | fail)
      all_goals try (exfalso; omega)
      all_goals (
        refine aW [1] p1 rfl rfl rfl ?_
        (conv => whnf); (repeat' first | ((with_reducible refine Box.mk ?_); conv => whnf) | ((with_reducible refine And.intro (fun _ => ?_) (fun _ => ?_)) <;> conv => whnf) | ((with_reducible show AYld _ _ _ _ _); (refine AYld.of tok mixed ?_); conv => whnf) | ((with_reducible show forceH _ _); (refine (forceH_eq _ _).mpr ?_); conv => whnf) | ((with_reducible show ACall _ _ _ _ _); (refine ACall.of_pure (by assumption) (by rfl) ?_); conv => whnf) | ((with_reducible show Exists _); (refine ⟨_, ACall.of_pure (by assumption) (by rfl) ⟨rfl, rfl⟩, ?_⟩); conv => whnf) | ((with_reducible show _ ∧ _ ∧ _); (refine ⟨by omega, by omega, ?_⟩); conv => whnf) | fail)
        refine aW [1, 2] p2 rfl rfl rfl ?_
        (conv => whnf); (repeat' first | ((with_reducible refine Box.mk ?_); conv => whnf) | ((with_reducible refine And.intro (fun _ => ?_) (fun _ => ?_)) <;> conv => whnf) | ((with_reducible show AYld _ _ _ _ _); (refine AYld.of tok mixed ?_); conv => whnf) | ((with_reducible show forceH _ _); (refine (forceH_eq _ _).mpr ?_); conv => whnf) | ((with_reducible show ACall _ _ _ _ _); (refine ACall.of_pure (by assumption) (by rfl) ?_); conv => whnf) | ((with_reducible show Exists _); (refine ⟨_, ACall.of_pure (by assumption) (by rfl) ⟨rfl, rfl⟩, ?_⟩); conv => whnf) | ((with_reducible show _ ∧ _ ∧ _); (refine ⟨by omega, by omega, ?_⟩); conv => whnf) | fail)
        refine aW [1, 3] p5 rfl rfl rfl ?_
        (conv => whnf); (repeat' first | ((with_reducible refine Box.mk ?_); conv => whnf) | ((with_reducible refine And.intro (fun _ => ?_) (fun _ => ?_)) <;> conv => whnf) | ((with_reducible show AYld _ _ _ _ _); (refine AYld.of tok mixed ?_); conv => whnf) | ((with_reducible show forceH _ _); (refine (forceH_eq _ _).mpr ?_); conv => whnf) | ((with_reducible show ACall _ _ _ _ _); (refine ACall.of_pure (by assumption) (by rfl) ?_); conv => whnf) | ((with_reducible show Exists _); (refine ⟨_, ACall.of_pure (by assumption) (by rfl) ⟨rfl, rfl⟩, ?_⟩); conv => whnf) | ((with_reducible show _ ∧ _ ∧ _); (refine ⟨by omega, by omega, ?_⟩); conv => whnf) | fail)
        all_goals try (exfalso; omega))
      all_goals (
        refine aW [] q3 rfl rfl rfl ?_
        (conv => whnf); (repeat' first | ((with_reducible refine Box.mk ?_); conv => whnf) | ((with_reducible refine And.intro (fun _ => ?_) (fun _ => ?_)) <;> conv => whnf) | ((with_reducible show AYld _ _ _ _ _); (refine AYld.of tok mixed ?_); conv => whnf) | ((with_reducible show forceH _ _); (refine (forceH_eq _ _).mpr ?_); conv => whnf) | ((with_reducible show ACall _ _ _ _ _); (refine ACall.of_pure (by assumption) (by rfl) ?_); conv => whnf) | ((with_reducible show Exists _); (refine ⟨_, ACall.of_pure (by assumption) (by rfl) ⟨rfl, rfl⟩, ?_⟩); conv => whnf) | ((with_reducible show _ ∧ _ ∧ _); (refine ⟨by omega, by omega, ?_⟩); conv => whnf) | fail)
        refine ⟨[(2001, []), (2007, []), (3002, [1]), (3010, [7])], by kernel_rfl, ?_⟩
        (conv => whnf); (repeat' first | ((with_reducible refine Box.mk ?_); conv => whnf) | ((with_reducible refine And.intro (fun _ => ?_) (fun _ => ?_)) <;> conv => whnf) | ((with_reducible show AYld _ _ _ _ _); (refine AYld.of tok mixed ?_); conv => whnf) | ((with_reducible show forceH _ _); (refine (forceH_eq _ _).mpr ?_); conv => whnf) | ((with_reducible show ACall _ _ _ _ _); (refine ACall.of_pure (by assumption) (by rfl) ?_); conv => whnf) | ((with_reducible show Exists _); (refine ⟨_, ACall.of_pure (by assumption) (by rfl) ⟨rfl, rfl⟩, ?_⟩); conv => whnf) | ((with_reducible show _ ∧ _ ∧ _); (refine ⟨by omega, by omega, ?_⟩); conv => whnf) | fail)
        refine aDw [4] r1 rfl rfl rfl ?_
        (conv => whnf); (repeat' first | ((with_reducible refine Box.mk ?_); conv => whnf) | ((with_reducible refine And.intro (fun _ => ?_) (fun _ => ?_)) <;> conv => whnf) | ((with_reducible show AYld _ _ _ _ _); (refine AYld.of tok mixed ?_); conv => whnf) | ((with_reducible show forceH _ _); (refine (forceH_eq _ _).mpr ?_); conv => whnf) | ((with_reducible show ACall _ _ _ _ _); (refine ACall.of_pure (by assumption) (by rfl) ?_); conv => whnf) | ((with_reducible show Exists _); (refine ⟨_, ACall.of_pure (by assumption) (by rfl) ⟨rfl, rfl⟩, ?_⟩); conv => whnf) | ((with_reducible show _ ∧ _ ∧ _); (refine ⟨by omega, by omega, ?_⟩); conv => whnf) | fail)
        (refine And.intro ?_ ?_); (focus ((conv => whnf); (repeat' first | exact trivial | ((refine And.intro ?_ ?_); (focus ((conv => whnf); (first | exact ⟨rfl, rfl⟩ | exact ⟨by decide, by decide, rfl, rfl⟩ | exact ⟨by omega, by omega, rfl, rfl⟩ | exact ⟨by (simp only [List.length_drop, List.length_take]; omega), rfl, rfl⟩ | exact ⟨_, rfl, rfl, rfl⟩ | exact ⟨by omega, _, by assumption, rfl, rfl, rfl⟩ | ((refine ACall.of_pure (by assumption) (by rfl) ?_); (refine And.intro ?_ ?_ <;> rfl))))); (conv => whnf)))))
        (conv => whnf); (repeat' first | ((with_reducible refine Box.mk ?_); conv => whnf) | ((with_reducible refine And.intro (fun _ => ?_) (fun _ => ?_)) <;> conv => whnf) | ((with_reducible show AYld _ _ _ _ _); (refine AYld.of tok mixed ?_); conv => whnf) | ((with_reducible show forceH _ _); (refine (forceH_eq _ _).mpr ?_); conv => whnf) | ((with_reducible show ACall _ _ _ _ _); (refine ACall.of_pure (by assumption) (by rfl) ?_); conv => whnf) | ((with_reducible show Exists _); (refine ⟨_, ACall.of_pure (by assumption) (by rfl) ⟨rfl, rfl⟩, ?_⟩); conv => whnf) | ((with_reducible show _ ∧ _ ∧ _); (refine ⟨by omega, by omega, ?_⟩); conv => whnf) | fail)
        all_goals try (rename_i hbad; exact absurd ⟨rfl, rfl, rfl⟩ hbad)
        refine aDw [4] r2 rfl rfl rfl ?_
        (conv => whnf); (repeat' first | ((with_reducible refine Box.mk ?_); conv => whnf) | ((with_reducible refine And.intro (fun _ => ?_) (fun _ => ?_)) <;> conv => whnf) | ((with_reducible show AYld _ _ _ _ _); (refine AYld.of tok mixed ?_); conv => whnf) | ((with_reducible show forceH _ _); (refine (forceH_eq _ _).mpr ?_); conv => whnf) | ((with_reducible show ACall _ _ _ _ _); (refine ACall.of_pure (by assumption) (by rfl) ?_); conv => whnf) | ((with_reducible show Exists _); (refine ⟨_, ACall.of_pure (by assumption) (by rfl) ⟨rfl, rfl⟩, ?_⟩); conv => whnf) | ((with_reducible show _ ∧ _ ∧ _); (refine ⟨by omega, by omega, ?_⟩); conv => whnf) | fail))
      all_goals (
        refine ⟨_, rfl, ?_⟩
        (conv => whnf); (repeat' first | ((with_reducible refine Box.mk ?_); conv => whnf) | ((with_reducible refine And.intro (fun _ => ?_) (fun _ => ?_)) <;> conv => whnf) | ((with_reducible show AYld _ _ _ _ _); (refine AYld.of tok mixed ?_); conv => whnf) | ((with_reducible show forceH _ _); (refine (forceH_eq _ _).mpr ?_); conv => whnf) | ((with_reducible show ACall _ _ _ _ _); (refine ACall.of_pure (by assumption) (by rfl) ?_); conv => whnf) | ((with_reducible show Exists _); (refine ⟨_, ACall.of_pure (by assumption) (by rfl) ⟨rfl, rfl⟩, ?_⟩); conv => whnf) | ((with_reducible show _ ∧ _ ∧ _); (refine ⟨by omega, by omega, ?_⟩); conv => whnf) | fail)
        refine ⟨_, rfl, ?_⟩
        (conv => whnf); (repeat' first | ((with_reducible refine Box.mk ?_); conv => whnf) | ((with_reducible refine And.intro (fun _ => ?_) (fun _ => ?_)) <;> conv => whnf) | ((with_reducible show AYld _ _ _ _ _); (refine AYld.of tok mixed ?_); conv => whnf) | ((with_reducible show forceH _ _); (refine (forceH_eq _ _).mpr ?_); conv => whnf) | ((with_reducible show ACall _ _ _ _ _); (refine ACall.of_pure (by assumption) (by rfl) ?_); conv => whnf) | ((with_reducible show Exists _); (refine ⟨_, ACall.of_pure (by assumption) (by rfl) ⟨rfl, rfl⟩, ?_⟩); conv => whnf) | ((with_reducible show _ ∧ _ ∧ _); (refine ⟨by omega, by omega, ?_⟩); conv => whnf) | fail)
        (refine And.intro ?_ ?_); (focus ((conv => whnf); (repeat' first | exact trivial | ((refine And.intro ?_ ?_); (focus ((conv => whnf); (first | exact ⟨rfl, rfl⟩ | exact ⟨by decide, by decide, rfl, rfl⟩ | exact ⟨by omega, by omega, rfl, rfl⟩ | exact ⟨by (simp only [List.length_drop, List.length_take]; omega), rfl, rfl⟩ | exact ⟨_, rfl, rfl, rfl⟩ | exact ⟨by omega, _, by assumption, rfl, rfl, rfl⟩ | ((refine ACall.of_pure (by assumption) (by rfl) ?_); (refine And.intro ?_ ?_ <;> rfl))))); (conv => whnf)))))
        (conv => whnf); (repeat' first | ((with_reducible refine Box.mk ?_); conv => whnf) | ((with_reducible refine And.intro (fun _ => ?_) (fun _ => ?_)) <;> conv => whnf) | ((with_reducible show AYld _ _ _ _ _); (refine AYld.of tok mixed ?_); conv => whnf) | ((with_reducible show forceH _ _); (refine (forceH_eq _ _).mpr ?_); conv => whnf) | ((with_reducible show ACall _ _ _ _ _); (refine ACall.of_pure (by assumption) (by rfl) ?_); conv => whnf) | ((with_reducible show Exists _); (refine ⟨_, ACall.of_pure (by assumption) (by rfl) ⟨rfl, rfl⟩, ?_⟩); conv => whnf) | ((with_reducible show _ ∧ _ ∧ _); (refine ⟨by omega, by omega, ?_⟩); conv => whnf) | fail)
        all_goals try (rename_i hbad; exact absurd rfl hbad)
        refine aDr [4] r3 rfl rfl rfl rfl ?_
        (conv => whnf); (repeat' first | ((with_reducible refine Box.mk ?_); conv => whnf) | ((with_reducible refine And.intro (fun _ => ?_) (fun _ => ?_)) <;> conv => whnf) | ((with_reducible show AYld _ _ _ _ _); (refine AYld.of tok mixed ?_); conv => whnf) | ((with_reducible show forceH _ _); (refine (forceH_eq _ _).mpr ?_); conv => whnf) | ((with_reducible show ACall _ _ _ _ _); (refine ACall.of_pure (by assumption) (by rfl) ?_); conv => whnf) | ((with_reducible show Exists _); (refine ⟨_, ACall.of_pure (by assumption) (by rfl) ⟨rfl, rfl⟩, ?_⟩); conv => whnf) | ((with_reducible show _ ∧ _ ∧ _); (refine ⟨by omega, by omega, ?_⟩); conv => whnf) | fail)
        all_goals try (rename_i hbad; exact absurd rfl hbad)
        all_goals try rfl)
      all_goals (
        rename_i hc1 hc2
        obtain ⟨c, hc⟩ := nat_of (show 0 ≤ cut by omega)
        subst hc
        have g := f3 c (by omega)
        have hcut : List.drop 0 (List.take ((c : Nat) : Int).toNat (bcl W)) = bcl (W.take c) := cut_bcl W c
        have hl2 : (W.take c).length ≤ 1048576 := by rw [List.length_take]; omega
        refine ⟨bcl_all _, ?_⟩
        rw [hcut]
        generalize W.take c = U at *
        have u1 := from_sl U (by omega)
        have u2 := fRead_ok U 0 (by omega)
        obtain ⟨pre', hp', _⟩ := xfRead_ok [] U 0 (by show U.length ≤ _; omega)
        have hp2 := congrArg List.length hp'
        rw [List.length_append, List.length_append, List.length_nil] at hp2
        generalize readF U 0 = z at *
        obtain ⟨s', U', e'⟩ := z
        dsimp only at u2 g hp2
        have u3 := fValue_ok s U' e' (by omega)
        generalize valueF s U' e' = z2 at *
        obtain ⟨v', U2, e2⟩ := z2
        dsimp only at u3 g
        subst g
        have u4 := rEnd_ok U2 8
        have u5 : endN U2 8 = 8 := by unfold endN restN; rw [if_neg (by simp)]
        rw [u5] at u4
        (conv => whnf); (repeat' first | ((with_reducible refine Box.mk ?_); conv => whnf) | ((with_reducible refine And.intro (fun _ => ?_) (fun _ => ?_)) <;> conv => whnf) | ((with_reducible show AYld _ _ _ _ _); (refine AYld.of tok mixed ?_); conv => whnf) | ((with_reducible show forceH _ _); (refine (forceH_eq _ _).mpr ?_); conv => whnf) | ((with_reducible show ACall _ _ _ _ _); (refine ACall.of_pure (by assumption) (by rfl) ?_); conv => whnf) | ((with_reducible show Exists _); (refine ⟨_, ACall.of_pure (by assumption) (by rfl) ⟨rfl, rfl⟩, ?_⟩); conv => whnf) | ((with_reducible show _ ∧ _ ∧ _); (refine ⟨by omega, by omega, ?_⟩); conv => whnf) | fail)
        refine aW [] u1 rfl rfl rfl ?_
        (conv => whnf); (repeat' first | ((with_reducible refine Box.mk ?_); conv => whnf) | ((with_reducible refine And.intro (fun _ => ?_) (fun _ => ?_)) <;> conv => whnf) | ((with_reducible show AYld _ _ _ _ _); (refine AYld.of tok mixed ?_); conv => whnf) | ((with_reducible show forceH _ _); (refine (forceH_eq _ _).mpr ?_); conv => whnf) | ((with_reducible show ACall _ _ _ _ _); (refine ACall.of_pure (by assumption) (by rfl) ?_); conv => whnf) | ((with_reducible show Exists _); (refine ⟨_, ACall.of_pure (by assumption) (by rfl) ⟨rfl, rfl⟩, ?_⟩); conv => whnf) | ((with_reducible show _ ∧ _ ∧ _); (refine ⟨by omega, by omega, ?_⟩); conv => whnf) | fail)
        refine aW [5] u2 rfl rfl rfl ?_
        (conv => whnf); (repeat' first | ((with_reducible refine Box.mk ?_); conv => whnf) | ((with_reducible refine And.intro (fun _ => ?_) (fun _ => ?_)) <;> conv => whnf) | ((with_reducible show AYld _ _ _ _ _); (refine AYld.of tok mixed ?_); conv => whnf) | ((with_reducible show forceH _ _); (refine (forceH_eq _ _).mpr ?_); conv => whnf) | ((with_reducible show ACall _ _ _ _ _); (refine ACall.of_pure (by assumption) (by rfl) ?_); conv => whnf) | ((with_reducible show Exists _); (refine ⟨_, ACall.of_pure (by assumption) (by rfl) ⟨rfl, rfl⟩, ?_⟩); conv => whnf) | ((with_reducible show _ ∧ _ ∧ _); (refine ⟨by omega, by omega, ?_⟩); conv => whnf) | fail)
        refine aW [5] u3 rfl rfl rfl ?_
        (conv => whnf); (repeat' first | ((with_reducible refine Box.mk ?_); conv => whnf) | ((with_reducible refine And.intro (fun _ => ?_) (fun _ => ?_)) <;> conv => whnf) | ((with_reducible show AYld _ _ _ _ _); (refine AYld.of tok mixed ?_); conv => whnf) | ((with_reducible show forceH _ _); (refine (forceH_eq _ _).mpr ?_); conv => whnf) | ((with_reducible show ACall _ _ _ _ _); (refine ACall.of_pure (by assumption) (by rfl) ?_); conv => whnf) | ((with_reducible show Exists _); (refine ⟨_, ACall.of_pure (by assumption) (by rfl) ⟨rfl, rfl⟩, ?_⟩); conv => whnf) | ((with_reducible show _ ∧ _ ∧ _); (refine ⟨by omega, by omega, ?_⟩); conv => whnf) | fail)
        refine aW [5] u4 rfl rfl rfl ?_
        (conv => whnf); (repeat' first | ((with_reducible refine Box.mk ?_); conv => whnf) | ((with_reducible refine And.intro (fun _ => ?_) (fun _ => ?_)) <;> conv => whnf) | ((with_reducible show AYld _ _ _ _ _); (refine AYld.of tok mixed ?_); conv => whnf) | ((with_reducible show forceH _ _); (refine (forceH_eq _ _).mpr ?_); conv => whnf) | ((with_reducible show ACall _ _ _ _ _); (refine ACall.of_pure (by assumption) (by rfl) ?_); conv => whnf) | ((with_reducible show Exists _); (refine ⟨_, ACall.of_pure (by assumption) (by rfl) ⟨rfl, rfl⟩, ?_⟩); conv => whnf) | ((with_reducible show _ ∧ _ ∧ _); (refine ⟨by omega, by omega, ?_⟩); conv => whnf) | fail)
        all_goals try (rename_i hbad; exact absurd rfl hbad)
        all_goals rfl)
    · have g1 : ¬ (s.len ≠ 65535 → (v.length : Int) = s.len) ∨ 65535 < v.length := by
        rcases Nat.lt_or_ge 65535 v.length with h | h
        · exact .inr h
        · exact .inl fun hc => hF ⟨hc, h⟩
      (conv => whnf); (repeat' first | ((with_reducible refine Box.mk ?_); conv => whnf) | ((with_reducible refine And.intro (fun _ => ?_) (fun _ => ?_)) <;> conv => whnf) | ((with_reducible show AYld _ _ _ _ _); (refine AYld.of tok mixed ?_); conv => whnf) | ((with_reducible show forceH _ _); (refine (forceH_eq _ _).mpr ?_); conv => whnf) | ((with_reducible show ACall _ _ _ _ _); (refine ACall.of_pure (by assumption) (by rfl) ?_); conv => whnf) | ((with_reducible show Exists _); (refine ⟨_, ACall.of_pure (by assumption) (by rfl) ⟨rfl, rfl⟩, ?_⟩); conv => whnf) | ((with_reducible show _ ∧ _ ∧ _); (refine ⟨by omega, by omega, ?_⟩); conv => whnf) | fail)
      refine aW [1] p1 rfl rfl rfl ?_
      (conv => whnf); (repeat' first | ((with_reducible refine Box.mk ?_); conv => whnf) | ((with_reducible refine And.intro (fun _ => ?_) (fun _ => ?_)) <;> conv => whnf) | ((with_reducible show AYld _ _ _ _ _); (refine AYld.of tok mixed ?_); conv => whnf) | ((with_reducible show forceH _ _); (refine (forceH_eq _ _).mpr ?_); conv => whnf) | ((with_reducible show ACall _ _ _ _ _); (refine ACall.of_pure (by assumption) (by rfl) ?_); conv => whnf) | ((with_reducible show Exists _); (refine ⟨_, ACall.of_pure (by assumption) (by rfl) ⟨rfl, rfl⟩, ?_⟩); conv => whnf) | ((with_reducible show _ ∧ _ ∧ _); (refine ⟨by omega, by omega, ?_⟩); conv => whnf) | fail)
      refine aW [1, 2] p2 rfl rfl rfl ?_
      (conv => whnf); (repeat' first | ((with_reducible refine Box.mk ?_); conv => whnf) | ((with_reducible refine And.intro (fun _ => ?_) (fun _ => ?_)) <;> conv => whnf) | ((with_reducible show AYld _ _ _ _ _); (refine AYld.of tok mixed ?_); conv => whnf) | ((with_reducible show forceH _ _); (refine (forceH_eq _ _).mpr ?_); conv => whnf) | ((with_reducible show ACall _ _ _ _ _); (refine ACall.of_pure (by assumption) (by rfl) ?_); conv => whnf) | ((with_reducible show Exists _); (refine ⟨_, ACall.of_pure (by assumption) (by rfl) ⟨rfl, rfl⟩, ?_⟩); conv => whnf) | ((with_reducible show _ ∧ _ ∧ _); (refine ⟨by omega, by omega, ?_⟩); conv => whnf) | fail)
      refine aW [1, 3] p5 rfl rfl rfl ?_
      (conv => whnf); (repeat' first | ((with_reducible refine Box.mk ?_); conv => whnf) | ((with_reducible refine And.intro (fun _ => ?_) (fun _ => ?_)) <;> conv => whnf) | ((with_reducible show AYld _ _ _ _ _); (refine AYld.of tok mixed ?_); conv => whnf) | ((with_reducible show forceH _ _); (refine (forceH_eq _ _).mpr ?_); conv => whnf) | ((with_reducible show ACall _ _ _ _ _); (refine ACall.of_pure (by assumption) (by rfl) ?_); conv => whnf) | ((with_reducible show Exists _); (refine ⟨_, ACall.of_pure (by assumption) (by rfl) ⟨rfl, rfl⟩, ?_⟩); conv => whnf) | ((with_reducible show _ ∧ _ ∧ _); (refine ⟨by omega, by omega, ?_⟩); conv => whnf) | fail)
      all_goals try (exfalso; omega)
      all_goals rfl
  · rw [hb] at q1
    have e : putB s v = [] := by unfold putB; rw [if_pos hR]
    have e2 : specB s = [] := by unfold specB; rw [if_pos hR]
    rw [e, e2] at p5 hwl
    rw [e2] at p1 p2
    rw [e] at p2
    (conv => whnf); (repeat' first | ((with_reducible refine Box.mk ?_); conv => whnf) | ((with_reducible refine And.intro (fun _ => ?_) (fun _ => ?_)) <;> conv => whnf) | ((with_reducible show AYld _ _ _ _ _); (refine AYld.of tok mixed ?_); conv => whnf) | ((with_reducible show forceH _ _); (refine (forceH_eq _ _).mpr ?_); conv => whnf) | ((with_reducible show ACall _ _ _ _ _); (refine ACall.of_pure (by assumption) (by rfl) ?_); conv => whnf) | ((with_reducible show Exists _); (refine ⟨_, ACall.of_pure (by assumption) (by rfl) ⟨rfl, rfl⟩, ?_⟩); conv => whnf) | ((with_reducible show _ ∧ _ ∧ _); (refine ⟨by omega, by omega, ?_⟩); conv => whnf) | fail)
    refine aW [1] p1 rfl rfl rfl ?_
    (conv => whnf); (repeat' first | ((with_reducible refine Box.mk ?_); conv => whnf) | ((with_reducible refine And.intro (fun _ => ?_) (fun _ => ?_)) <;> conv => whnf) | ((with_reducible show AYld _ _ _ _ _); (refine AYld.of tok mixed ?_); conv => whnf) | ((with_reducible show forceH _ _); (refine (forceH_eq _ _).mpr ?_); conv => whnf) | ((with_reducible show ACall _ _ _ _ _); (refine ACall.of_pure (by assumption) (by rfl) ?_); conv => whnf) | ((with_reducible show Exists _); (refine ⟨_, ACall.of_pure (by assumption) (by rfl) ⟨rfl, rfl⟩, ?_⟩); conv => whnf) | ((with_reducible show _ ∧ _ ∧ _); (refine ⟨by omega, by omega, ?_⟩); conv => whnf) | fail)
    refine aW [1, 2] p2 rfl rfl rfl ?_
    (conv => whnf); (repeat' first | ((with_reducible refine Box.mk ?_); conv => whnf) | ((with_reducible refine And.intro (fun _ => ?_) (fun _ => ?_)) <;> conv => whnf) | ((with_reducible show AYld _ _ _ _ _); (refine AYld.of tok mixed ?_); conv => whnf) | ((with_reducible show forceH _ _); (refine (forceH_eq _ _).mpr ?_); conv => whnf) | ((with_reducible show ACall _ _ _ _ _); (refine ACall.of_pure (by assumption) (by rfl) ?_); conv => whnf) | ((with_reducible show Exists _); (refine ⟨_, ACall.of_pure (by assumption) (by rfl) ⟨rfl, rfl⟩, ?_⟩); conv => whnf) | ((with_reducible show _ ∧ _ ∧ _); (refine ⟨by omega, by omega, ?_⟩); conv => whnf) | fail)
    refine aW [1, 3] p5 rfl rfl rfl ?_
    (conv => whnf); (repeat' first | ((with_reducible refine Box.mk ?_); conv => whnf) | ((with_reducible refine And.intro (fun _ => ?_) (fun _ => ?_)) <;> conv => whnf) | ((with_reducible show AYld _ _ _ _ _); (refine AYld.of tok mixed ?_); conv => whnf) | ((with_reducible show forceH _ _); (refine (forceH_eq _ _).mpr ?_); conv => whnf) | ((with_reducible show ACall _ _ _ _ _); (refine ACall.of_pure (by assumption) (by rfl) ?_); conv => whnf) | ((with_reducible show Exists _); (refine ⟨_, ACall.of_pure (by assumption) (by rfl) ⟨rfl, rfl⟩, ?_⟩); conv => whnf) | ((with_reducible show _ ∧ _ ∧ _); (refine ⟨by omega, by omega, ?_⟩); conv => whnf) | fail)
    all_goals try (rename_i hbad; exact absurd rfl hbad)
    all_goals rfl
end Go.Proofs.YtnajpmepcffnaaaDoor
end

section
/- field: Put of any value. -/
namespace Go.Proofs.YtnajpmepcffnaaaDoor
open Go.Ve

set_option maxHeartbeats 8000000 in
theorem fPutR2 (cs : Bs) (hcs : cs.length ≤ 900000000) (s : Sc) (v : Bs) (hv : v.length ≤ 9223372036854775807) : DCall P 25 [.ptr 0 0, sv s, .sl (bcl v)] (wR cs) (mkRes []) (wQ (cs ++ putB s v)) := by
  have q0 := fRight_ok s
  have hbl := bcl_len v
  rcases right_cases s with ⟨hR, hb⟩ | ⟨hR, hb⟩
  · rw [hb] at q0
    unfold putB
    rw [if_neg (fun h => h hR)]
    unfold RightS at hR
    by_cases h6 : s.len = 65535
    · rw [if_pos h6]
      have ht : List.drop 0 (List.take (min (((bcl v).length : Nat) : Int) 65535).toNat (bcl v)) = bcl (v.take 65535) := by
        rw [cut_bcl]
        congr 1
        rcases Nat.le_total v.length 65535 with h | h
        · rw [List.take_of_length_le (by omega), List.take_of_length_le h]
        · congr 1; omega
      have hl2 : (v.take 65535).length ≤ 65535 := by rw [List.length_take]; omega
      have hbl2 := bcl_len (v.take 65535)
      generalize v.take 65535 = u at *
      have w1 : IntKind.u64.wrap ((u.length : Nat) : Int) = ((u.length : Nat) : Int) := wrap_u64 (by omega) (by omega)
      have n1 := numB_len u.length 1
      have n2 := numB_len 255 1
      have n3 := numB_len u.length 2
      have a1 := wNumR cs (by omega) u.length 1
      have a2 := wRawR (cs ++ numB u.length 1) (by rw [List.length_append]; omega) u (by omega)
      have b1 := wNumR cs (by omega) 255 1
      have b2 := wNumR (cs ++ numB 255 1) (by rw [List.length_append]; omega) u.length 2
      have b3 := wRawR (cs ++ numB 255 1 ++ numB u.length 2) (by rw [List.length_append, List.length_append]; omega) u (by omega)
      rw [show szN 1 = 1 from rfl] at a1 b1
      rw [show szN 2 = 2 from rfl] at b2
      refine DCall.of_awp tok mixed fn25 (Nat.le_of_ble_eq_true rfl) ?_
      (conv => whnf); (repeat' first | ((with_reducible refine Box.mk ?_); conv => whnf) | ((with_reducible refine And.intro (fun _ => ?_) (fun _ => ?_)) <;> conv => whnf) | ((with_reducible show AYld _ _ _ _ _); (refine AYld.of tok mixed ?_); conv => whnf) | ((with_reducible show forceH _ _); (refine (forceH_eq _ _).mpr ?_); conv => whnf) | ((with_reducible show ACall _ _ _ _ _); (refine ACall.of_pure (by assumption) (by rfl) ?_); conv => whnf) | ((with_reducible show Exists _); (refine ⟨_, ACall.of_pure (by assumption) (by rfl) ⟨rfl, rfl⟩, ?_⟩); conv => whnf) | ((with_reducible show _ ∧ _ ∧ _); (refine ⟨by omega, by omega, ?_⟩); conv => whnf) | fail)
      all_goals try (exfalso; omega)
      refine ⟨bcl_all _, ?_⟩
      rw [ht]
      (conv => whnf); (repeat' first | ((with_reducible refine Box.mk ?_); conv => whnf) | ((with_reducible refine And.intro (fun _ => ?_) (fun _ => ?_)) <;> conv => whnf) | ((with_reducible show AYld _ _ _ _ _); (refine AYld.of tok mixed ?_); conv => whnf) | ((with_reducible show forceH _ _); (refine (forceH_eq _ _).mpr ?_); conv => whnf) | ((with_reducible show ACall _ _ _ _ _); (refine ACall.of_pure (by assumption) (by rfl) ?_); conv => whnf) | ((with_reducible show Exists _); (refine ⟨_, ACall.of_pure (by assumption) (by rfl) ⟨rfl, rfl⟩, ?_⟩); conv => whnf) | ((with_reducible show _ ∧ _ ∧ _); (refine ⟨by omega, by omega, ?_⟩); conv => whnf) | fail)
      · rename_i h5
        rw [if_pos (by omega), ← List.append_assoc, hbl2, w1]
        refine aW [0, 1] a1 rfl rfl rfl ?_
        (conv => whnf); (repeat' first | ((with_reducible refine Box.mk ?_); conv => whnf) | ((with_reducible refine And.intro (fun _ => ?_) (fun _ => ?_)) <;> conv => whnf) | ((with_reducible show AYld _ _ _ _ _); (refine AYld.of tok mixed ?_); conv => whnf) | ((with_reducible show forceH _ _); (refine (forceH_eq _ _).mpr ?_); conv => whnf) | ((with_reducible show ACall _ _ _ _ _); (refine ACall.of_pure (by assumption) (by rfl) ?_); conv => whnf) | ((with_reducible show Exists _); (refine ⟨_, ACall.of_pure (by assumption) (by rfl) ⟨rfl, rfl⟩, ?_⟩); conv => whnf) | ((with_reducible show _ ∧ _ ∧ _); (refine ⟨by omega, by omega, ?_⟩); conv => whnf) | fail)
        refine aW [0, 3] a2 rfl rfl rfl ?_
        (conv => whnf); (repeat' first | ((with_reducible refine Box.mk ?_); conv => whnf) | ((with_reducible refine And.intro (fun _ => ?_) (fun _ => ?_)) <;> conv => whnf) | ((with_reducible show AYld _ _ _ _ _); (refine AYld.of tok mixed ?_); conv => whnf) | ((with_reducible show forceH _ _); (refine (forceH_eq _ _).mpr ?_); conv => whnf) | ((with_reducible show ACall _ _ _ _ _); (refine ACall.of_pure (by assumption) (by rfl) ?_); conv => whnf) | ((with_reducible show Exists _); (refine ⟨_, ACall.of_pure (by assumption) (by rfl) ⟨rfl, rfl⟩, ?_⟩); conv => whnf) | ((with_reducible show _ ∧ _ ∧ _); (refine ⟨by omega, by omega, ?_⟩); conv => whnf) | fail)
        exact weak_ren_to [(0, true), (1, false), (4, true)] rfl rfl rfl ⟨rfl, trivial⟩
      · rename_i h5
        rw [if_neg (by omega), ← List.append_assoc, ← List.append_assoc]
        refine aW [0, 1] b1 rfl rfl rfl ?_
        (conv => whnf); (repeat' first | ((with_reducible refine Box.mk ?_); conv => whnf) | ((with_reducible refine And.intro (fun _ => ?_) (fun _ => ?_)) <;> conv => whnf) | ((with_reducible show AYld _ _ _ _ _); (refine AYld.of tok mixed ?_); conv => whnf) | ((with_reducible show forceH _ _); (refine (forceH_eq _ _).mpr ?_); conv => whnf) | ((with_reducible show ACall _ _ _ _ _); (refine ACall.of_pure (by assumption) (by rfl) ?_); conv => whnf) | ((with_reducible show Exists _); (refine ⟨_, ACall.of_pure (by assumption) (by rfl) ⟨rfl, rfl⟩, ?_⟩); conv => whnf) | ((with_reducible show _ ∧ _ ∧ _); (refine ⟨by omega, by omega, ?_⟩); conv => whnf) | fail)
        rw [hbl2, w1]
        refine aW [0, 3] b2 rfl rfl rfl ?_
        (conv => whnf); (repeat' first | ((with_reducible refine Box.mk ?_); conv => whnf) | ((with_reducible refine And.intro (fun _ => ?_) (fun _ => ?_)) <;> conv => whnf) | ((with_reducible show AYld _ _ _ _ _); (refine AYld.of tok mixed ?_); conv => whnf) | ((with_reducible show forceH _ _); (refine (forceH_eq _ _).mpr ?_); conv => whnf) | ((with_reducible show ACall _ _ _ _ _); (refine ACall.of_pure (by assumption) (by rfl) ?_); conv => whnf) | ((with_reducible show Exists _); (refine ⟨_, ACall.of_pure (by assumption) (by rfl) ⟨rfl, rfl⟩, ?_⟩); conv => whnf) | ((with_reducible show _ ∧ _ ∧ _); (refine ⟨by omega, by omega, ?_⟩); conv => whnf) | fail)
        refine aW [0, 4] b3 rfl rfl rfl ?_
        (conv => whnf); (repeat' first | ((with_reducible refine Box.mk ?_); conv => whnf) | ((with_reducible refine And.intro (fun _ => ?_) (fun _ => ?_)) <;> conv => whnf) | ((with_reducible show AYld _ _ _ _ _); (refine AYld.of tok mixed ?_); conv => whnf) | ((with_reducible show forceH _ _); (refine (forceH_eq _ _).mpr ?_); conv => whnf) | ((with_reducible show ACall _ _ _ _ _); (refine ACall.of_pure (by assumption) (by rfl) ?_); conv => whnf) | ((with_reducible show Exists _); (refine ⟨_, ACall.of_pure (by assumption) (by rfl) ⟨rfl, rfl⟩, ?_⟩); conv => whnf) | ((with_reducible show _ ∧ _ ∧ _); (refine ⟨by omega, by omega, ?_⟩); conv => whnf) | fail)
        exact weak_ren_to [(0, true), (1, false), (5, true)] rfl rfl rfl ⟨rfl, trivial⟩
    · rw [if_neg h6]
      obtain ⟨n, hn⟩ := nat_of (show 0 ≤ s.len by omega)
      have ht : List.drop 0 (List.take (min (((bcl v).length : Nat) : Int) s.len).toNat (bcl v)) = bcl (v.take n) := by
        rw [cut_bcl]
        congr 1
        rcases Nat.le_total v.length n with h | h
        · rw [List.take_of_length_le (by omega), List.take_of_length_le h]
        · congr 1; omega
      have hz : IntKind.i64.wrap (s.len - min (((bcl v).length : Nat) : Int) s.len) = ((n - v.length : Nat) : Int) := by rw [wrap_i64 (by omega) (by omega)]; omega
      have a1 := wRawR cs (by omega) (v.take n) (by rw [List.length_take]; omega)
      have a2 := wRawR (cs ++ v.take n) (by rw [List.length_append, List.length_take]; omega) (List.replicate (n - v.length) 0) (by rw [List.length_replicate]; omega)
      rw [hn, Int.toNat_natCast]
      unfold padB
      rw [← List.append_assoc]
      refine DCall.of_awp tok mixed fn25 (Nat.le_of_ble_eq_true rfl) ?_
      (conv => whnf); (repeat' first | ((with_reducible refine Box.mk ?_); conv => whnf) | ((with_reducible refine And.intro (fun _ => ?_) (fun _ => ?_)) <;> conv => whnf) | ((with_reducible show AYld _ _ _ _ _); (refine AYld.of tok mixed ?_); conv => whnf) | ((with_reducible show forceH _ _); (refine (forceH_eq _ _).mpr ?_); conv => whnf) | ((with_reducible show ACall _ _ _ _ _); (refine ACall.of_pure (by assumption) (by rfl) ?_); conv => whnf) | ((with_reducible show Exists _); (refine ⟨_, ACall.of_pure (by assumption) (by rfl) ⟨rfl, rfl⟩, ?_⟩); conv => whnf) | ((with_reducible show _ ∧ _ ∧ _); (refine ⟨by omega, by omega, ?_⟩); conv => whnf) | fail)
      all_goals try (exfalso; omega)
      refine ⟨[(2004, []), (2010, []), (3006, [4])], by kernel_rfl, ?_⟩
      (conv => whnf); (repeat' first | ((with_reducible refine Box.mk ?_); conv => whnf) | ((with_reducible refine And.intro (fun _ => ?_) (fun _ => ?_)) <;> conv => whnf) | ((with_reducible show AYld _ _ _ _ _); (refine AYld.of tok mixed ?_); conv => whnf) | ((with_reducible show forceH _ _); (refine (forceH_eq _ _).mpr ?_); conv => whnf) | ((with_reducible show ACall _ _ _ _ _); (refine ACall.of_pure (by assumption) (by rfl) ?_); conv => whnf) | ((with_reducible show Exists _); (refine ⟨_, ACall.of_pure (by assumption) (by rfl) ⟨rfl, rfl⟩, ?_⟩); conv => whnf) | ((with_reducible show _ ∧ _ ∧ _); (refine ⟨by omega, by omega, ?_⟩); conv => whnf) | fail)
      refine ⟨bcl_all _, ?_⟩
      rw [ht]
      (conv => whnf); (repeat' first | ((with_reducible refine Box.mk ?_); conv => whnf) | ((with_reducible refine And.intro (fun _ => ?_) (fun _ => ?_)) <;> conv => whnf) | ((with_reducible show AYld _ _ _ _ _); (refine AYld.of tok mixed ?_); conv => whnf) | ((with_reducible show forceH _ _); (refine (forceH_eq _ _).mpr ?_); conv => whnf) | ((with_reducible show ACall _ _ _ _ _); (refine ACall.of_pure (by assumption) (by rfl) ?_); conv => whnf) | ((with_reducible show Exists _); (refine ⟨_, ACall.of_pure (by assumption) (by rfl) ⟨rfl, rfl⟩, ?_⟩); conv => whnf) | ((with_reducible show _ ∧ _ ∧ _); (refine ⟨by omega, by omega, ?_⟩); conv => whnf) | fail)
      refine aDw [0, 1] a1 rfl rfl rfl ?_
      (conv => whnf); (repeat' first | ((with_reducible refine Box.mk ?_); conv => whnf) | ((with_reducible refine And.intro (fun _ => ?_) (fun _ => ?_)) <;> conv => whnf) | ((with_reducible show AYld _ _ _ _ _); (refine AYld.of tok mixed ?_); conv => whnf) | ((with_reducible show forceH _ _); (refine (forceH_eq _ _).mpr ?_); conv => whnf) | ((with_reducible show ACall _ _ _ _ _); (refine ACall.of_pure (by assumption) (by rfl) ?_); conv => whnf) | ((with_reducible show Exists _); (refine ⟨_, ACall.of_pure (by assumption) (by rfl) ⟨rfl, rfl⟩, ?_⟩); conv => whnf) | ((with_reducible show _ ∧ _ ∧ _); (refine ⟨by omega, by omega, ?_⟩); conv => whnf) | fail)
      (refine And.intro ?_ ?_); (focus ((conv => whnf); (repeat' first | exact trivial | ((refine And.intro ?_ ?_); (focus ((conv => whnf); (first | exact ⟨rfl, rfl⟩ | exact ⟨by decide, by decide, rfl, rfl⟩ | exact ⟨by omega, by omega, rfl, rfl⟩ | exact ⟨by (simp only [List.length_drop, List.length_take]; omega), rfl, rfl⟩ | exact ⟨_, rfl, rfl, rfl⟩ | exact ⟨by omega, _, by assumption, rfl, rfl, rfl⟩ | ((refine ACall.of_pure (by assumption) (by rfl) ?_); (refine And.intro ?_ ?_ <;> rfl))))); (conv => whnf)))))
      (conv => whnf); (repeat' first | ((with_reducible refine Box.mk ?_); conv => whnf) | ((with_reducible refine And.intro (fun _ => ?_) (fun _ => ?_)) <;> conv => whnf) | ((with_reducible show AYld _ _ _ _ _); (refine AYld.of tok mixed ?_); conv => whnf) | ((with_reducible show forceH _ _); (refine (forceH_eq _ _).mpr ?_); conv => whnf) | ((with_reducible show ACall _ _ _ _ _); (refine ACall.of_pure (by assumption) (by rfl) ?_); conv => whnf) | ((with_reducible show Exists _); (refine ⟨_, ACall.of_pure (by assumption) (by rfl) ⟨rfl, rfl⟩, ?_⟩); conv => whnf) | ((with_reducible show _ ∧ _ ∧ _); (refine ⟨by omega, by omega, ?_⟩); conv => whnf) | fail)
      rw [hz]
      refine ⟨by show ((n - v.length : Nat) : Int) * ((1 : Nat) : Int) ≤ _; omega, by omega, ?_⟩
      (conv => whnf); (repeat' first | ((with_reducible refine Box.mk ?_); conv => whnf) | ((with_reducible refine And.intro (fun _ => ?_) (fun _ => ?_)) <;> conv => whnf) | ((with_reducible show AYld _ _ _ _ _); (refine AYld.of tok mixed ?_); conv => whnf) | ((with_reducible show forceH _ _); (refine (forceH_eq _ _).mpr ?_); conv => whnf) | ((with_reducible show ACall _ _ _ _ _); (refine ACall.of_pure (by assumption) (by rfl) ?_); conv => whnf) | ((with_reducible show Exists _); (refine ⟨_, ACall.of_pure (by assumption) (by rfl) ⟨rfl, rfl⟩, ?_⟩); conv => whnf) | ((with_reducible show _ ∧ _ ∧ _); (refine ⟨by omega, by omega, ?_⟩); conv => whnf) | fail)
      rw [Int.toNat_natCast, zeros_bcl]
      refine aDw [0, 3] a2 rfl rfl rfl ?_
      (conv => whnf); (repeat' first | ((with_reducible refine Box.mk ?_); conv => whnf) | ((with_reducible refine And.intro (fun _ => ?_) (fun _ => ?_)) <;> conv => whnf) | ((with_reducible show AYld _ _ _ _ _); (refine AYld.of tok mixed ?_); conv => whnf) | ((with_reducible show forceH _ _); (refine (forceH_eq _ _).mpr ?_); conv => whnf) | ((with_reducible show ACall _ _ _ _ _); (refine ACall.of_pure (by assumption) (by rfl) ?_); conv => whnf) | ((with_reducible show Exists _); (refine ⟨_, ACall.of_pure (by assumption) (by rfl) ⟨rfl, rfl⟩, ?_⟩); conv => whnf) | ((with_reducible show _ ∧ _ ∧ _); (refine ⟨by omega, by omega, ?_⟩); conv => whnf) | fail)
      exact weak_ren_to [(0, true), (1, false), (4, true)] rfl rfl rfl ⟨rfl, trivial⟩
  · rw [hb] at q0
    have e : putB s v = [] := by unfold putB; rw [if_pos hR]
    rw [e, List.append_nil]
    refine DCall.of_awp tok mixed fn25 (Nat.le_of_ble_eq_true rfl) ?_
    (conv => whnf); (repeat' first | ((with_reducible refine Box.mk ?_); conv => whnf) | ((with_reducible refine And.intro (fun _ => ?_) (fun _ => ?_)) <;> conv => whnf) | ((with_reducible show AYld _ _ _ _ _); (refine AYld.of tok mixed ?_); conv => whnf) | ((with_reducible show forceH _ _); (refine (forceH_eq _ _).mpr ?_); conv => whnf) | ((with_reducible show ACall _ _ _ _ _); (refine ACall.of_pure (by assumption) (by rfl) ?_); conv => whnf) | ((with_reducible show Exists _); (refine ⟨_, ACall.of_pure (by assumption) (by rfl) ⟨rfl, rfl⟩, ?_⟩); conv => whnf) | ((with_reducible show _ ∧ _ ∧ _); (refine ⟨by omega, by omega, ?_⟩); conv => whnf) | fail)
    exact weak_ren_to [(0, true), (1, false), (1, true)] rfl rfl rfl ⟨rfl, trivial⟩
set_option maxHeartbeats 8000000 in
theorem fPutN2 (s : Sc) (v : Bs) (hv : v.length ≤ 9223372036854775807) : DCall P 25 [.ptr 0 0, sv s, .sl (bcl v)] wN (mkRes []) (wR (putB s v)) := by
  have q0 := fRight_ok s
  have hbl := bcl_len v
  rcases right_cases s with ⟨hR, hb⟩ | ⟨hR, hb⟩
  · rw [hb] at q0
    unfold putB
    rw [if_neg (fun h => h hR)]
    unfold RightS at hR
    by_cases h6 : s.len = 65535
    · rw [if_pos h6]
      have ht : List.drop 0 (List.take (min (((bcl v).length : Nat) : Int) 65535).toNat (bcl v)) = bcl (v.take 65535) := by
        rw [cut_bcl]
        congr 1
        rcases Nat.le_total v.length 65535 with h | h
        · rw [List.take_of_length_le (by omega), List.take_of_length_le h]
        · congr 1; omega
      have hl2 : (v.take 65535).length ≤ 65535 := by rw [List.length_take]; omega
      have hbl2 := bcl_len (v.take 65535)
      generalize v.take 65535 = u at *
      have w1 : IntKind.u64.wrap ((u.length : Nat) : Int) = ((u.length : Nat) : Int) := wrap_u64 (by omega) (by omega)
      have n1 := numB_len u.length 1
      have n2 := numB_len 255 1
      have n3 := numB_len u.length 2
      have a1 := wNumN u.length 1
      have a2 := wRawR (numB u.length 1) (by omega) u (by omega)
      have b1 := wNumN 255 1
      have b2 := wNumR (numB 255 1) (by omega) u.length 2
      have b3 := wRawR (numB 255 1 ++ numB u.length 2) (by rw [List.length_append]; omega) u (by omega)
      rw [show szN 1 = 1 from rfl] at a1 b1
      rw [show szN 2 = 2 from rfl] at b2
      refine DCall.of_awp tok mixed fn25 (Nat.le_of_ble_eq_true rfl) ?_
      (conv => whnf); (repeat' first | ((with_reducible refine Box.mk ?_); conv => whnf) | ((with_reducible refine And.intro (fun _ => ?_) (fun _ => ?_)) <;> conv => whnf) | ((with_reducible show AYld _ _ _ _ _); (refine AYld.of tok mixed ?_); conv => whnf) | ((with_reducible show forceH _ _); (refine (forceH_eq _ _).mpr ?_); conv => whnf) | ((with_reducible show ACall _ _ _ _ _); (refine ACall.of_pure (by assumption) (by rfl) ?_); conv => whnf) | ((with_reducible show Exists _); (refine ⟨_, ACall.of_pure (by assumption) (by rfl) ⟨rfl, rfl⟩, ?_⟩); conv => whnf) | ((with_reducible show _ ∧ _ ∧ _); (refine ⟨by omega, by omega, ?_⟩); conv => whnf) | fail)
      all_goals try (exfalso; omega)
      refine ⟨bcl_all _, ?_⟩
      rw [ht]
      (conv => whnf); (repeat' first | ((with_reducible refine Box.mk ?_); conv => whnf) | ((with_reducible refine And.intro (fun _ => ?_) (fun _ => ?_)) <;> conv => whnf) | ((with_reducible show AYld _ _ _ _ _); (refine AYld.of tok mixed ?_); conv => whnf) | ((with_reducible show forceH _ _); (refine (forceH_eq _ _).mpr ?_); conv => whnf) | ((with_reducible show ACall _ _ _ _ _); (refine ACall.of_pure (by assumption) (by rfl) ?_); conv => whnf) | ((with_reducible show Exists _); (refine ⟨_, ACall.of_pure (by assumption) (by rfl) ⟨rfl, rfl⟩, ?_⟩); conv => whnf) | ((with_reducible show _ ∧ _ ∧ _); (refine ⟨by omega, by omega, ?_⟩); conv => whnf) | fail)
      · rename_i h5
        rw [if_pos (by omega), hbl2, w1]
        refine aW [0] a1 rfl rfl rfl ?_
        (conv => whnf); (repeat' first | ((with_reducible refine Box.mk ?_); conv => whnf) | ((with_reducible refine And.intro (fun _ => ?_) (fun _ => ?_)) <;> conv => whnf) | ((with_reducible show AYld _ _ _ _ _); (refine AYld.of tok mixed ?_); conv => whnf) | ((with_reducible show forceH _ _); (refine (forceH_eq _ _).mpr ?_); conv => whnf) | ((with_reducible show ACall _ _ _ _ _); (refine ACall.of_pure (by assumption) (by rfl) ?_); conv => whnf) | ((with_reducible show Exists _); (refine ⟨_, ACall.of_pure (by assumption) (by rfl) ⟨rfl, rfl⟩, ?_⟩); conv => whnf) | ((with_reducible show _ ∧ _ ∧ _); (refine ⟨by omega, by omega, ?_⟩); conv => whnf) | fail)
        refine aW [0, 2] a2 rfl rfl rfl ?_
        (conv => whnf); (repeat' first | ((with_reducible refine Box.mk ?_); conv => whnf) | ((with_reducible refine And.intro (fun _ => ?_) (fun _ => ?_)) <;> conv => whnf) | ((with_reducible show AYld _ _ _ _ _); (refine AYld.of tok mixed ?_); conv => whnf) | ((with_reducible show forceH _ _); (refine (forceH_eq _ _).mpr ?_); conv => whnf) | ((with_reducible show ACall _ _ _ _ _); (refine ACall.of_pure (by assumption) (by rfl) ?_); conv => whnf) | ((with_reducible show Exists _); (refine ⟨_, ACall.of_pure (by assumption) (by rfl) ⟨rfl, rfl⟩, ?_⟩); conv => whnf) | ((with_reducible show _ ∧ _ ∧ _); (refine ⟨by omega, by omega, ?_⟩); conv => whnf) | fail)
        exact weak_ren_to [(0, true), (3, true)] rfl rfl rfl ⟨rfl, trivial⟩
      · rename_i h5
        rw [if_neg (by omega)]
        refine aW [0] b1 rfl rfl rfl ?_
        (conv => whnf); (repeat' first | ((with_reducible refine Box.mk ?_); conv => whnf) | ((with_reducible refine And.intro (fun _ => ?_) (fun _ => ?_)) <;> conv => whnf) | ((with_reducible show AYld _ _ _ _ _); (refine AYld.of tok mixed ?_); conv => whnf) | ((with_reducible show forceH _ _); (refine (forceH_eq _ _).mpr ?_); conv => whnf) | ((with_reducible show ACall _ _ _ _ _); (refine ACall.of_pure (by assumption) (by rfl) ?_); conv => whnf) | ((with_reducible show Exists _); (refine ⟨_, ACall.of_pure (by assumption) (by rfl) ⟨rfl, rfl⟩, ?_⟩); conv => whnf) | ((with_reducible show _ ∧ _ ∧ _); (refine ⟨by omega, by omega, ?_⟩); conv => whnf) | fail)
        rw [hbl2, w1]
        refine aW [0, 2] b2 rfl rfl rfl ?_
        (conv => whnf); (repeat' first | ((with_reducible refine Box.mk ?_); conv => whnf) | ((with_reducible refine And.intro (fun _ => ?_) (fun _ => ?_)) <;> conv => whnf) | ((with_reducible show AYld _ _ _ _ _); (refine AYld.of tok mixed ?_); conv => whnf) | ((with_reducible show forceH _ _); (refine (forceH_eq _ _).mpr ?_); conv => whnf) | ((with_reducible show ACall _ _ _ _ _); (refine ACall.of_pure (by assumption) (by rfl) ?_); conv => whnf) | ((with_reducible show Exists _); (refine ⟨_, ACall.of_pure (by assumption) (by rfl) ⟨rfl, rfl⟩, ?_⟩); conv => whnf) | ((with_reducible show _ ∧ _ ∧ _); (refine ⟨by omega, by omega, ?_⟩); conv => whnf) | fail)
        refine aW [0, 3] b3 rfl rfl rfl ?_
        (conv => whnf); (repeat' first | ((with_reducible refine Box.mk ?_); conv => whnf) | ((with_reducible refine And.intro (fun _ => ?_) (fun _ => ?_)) <;> conv => whnf) | ((with_reducible show AYld _ _ _ _ _); (refine AYld.of tok mixed ?_); conv => whnf) | ((with_reducible show forceH _ _); (refine (forceH_eq _ _).mpr ?_); conv => whnf) | ((with_reducible show ACall _ _ _ _ _); (refine ACall.of_pure (by assumption) (by rfl) ?_); conv => whnf) | ((with_reducible show Exists _); (refine ⟨_, ACall.of_pure (by assumption) (by rfl) ⟨rfl, rfl⟩, ?_⟩); conv => whnf) | ((with_reducible show _ ∧ _ ∧ _); (refine ⟨by omega, by omega, ?_⟩); conv => whnf) | fail)
        exact weak_ren_to [(0, true), (4, true)] rfl rfl rfl ⟨rfl, trivial⟩
    · rw [if_neg h6]
      obtain ⟨n, hn⟩ := nat_of (show 0 ≤ s.len by omega)
      have ht : List.drop 0 (List.take (min (((bcl v).length : Nat) : Int) s.len).toNat (bcl v)) = bcl (v.take n) := by
        rw [cut_bcl]
        congr 1
        rcases Nat.le_total v.length n with h | h
        · rw [List.take_of_length_le (by omega), List.take_of_length_le h]
        · congr 1; omega
      have hz : IntKind.i64.wrap (s.len - min (((bcl v).length : Nat) : Int) s.len) = ((n - v.length : Nat) : Int) := by rw [wrap_i64 (by omega) (by omega)]; omega
      have a1 := wRawN (v.take n) (by rw [List.length_take]; omega)
      have a2 := wRawR (v.take n) (by rw [List.length_take]; omega) (List.replicate (n - v.length) 0) (by rw [List.length_replicate]; omega)
      rw [hn, Int.toNat_natCast]
      unfold padB
      refine DCall.of_awp tok mixed fn25 (Nat.le_of_ble_eq_true rfl) ?_
      (conv => whnf); (repeat' first | ((with_reducible refine Box.mk ?_); conv => whnf) | ((with_reducible refine And.intro (fun _ => ?_) (fun _ => ?_)) <;> conv => whnf) | ((with_reducible show AYld _ _ _ _ _); (refine AYld.of tok mixed ?_); conv => whnf) | ((with_reducible show forceH _ _); (refine (forceH_eq _ _).mpr ?_); conv => whnf) | ((with_reducible show ACall _ _ _ _ _); (refine ACall.of_pure (by assumption) (by rfl) ?_); conv => whnf) | ((with_reducible show Exists _); (refine ⟨_, ACall.of_pure (by assumption) (by rfl) ⟨rfl, rfl⟩, ?_⟩); conv => whnf) | ((with_reducible show _ ∧ _ ∧ _); (refine ⟨by omega, by omega, ?_⟩); conv => whnf) | fail)
      all_goals try (exfalso; omega)
      refine ⟨[(2004, []), (2010, []), (3006, [4])], by kernel_rfl, ?_⟩
      (conv => whnf); (repeat' first | ((with_reducible refine Box.mk ?_); conv => whnf) | ((with_reducible refine And.intro (fun _ => ?_) (fun _ => ?_)) <;> conv => whnf) | ((with_reducible show AYld _ _ _ _ _); (refine AYld.of tok mixed ?_); conv => whnf) | ((with_reducible show forceH _ _); (refine (forceH_eq _ _).mpr ?_); conv => whnf) | ((with_reducible show ACall _ _ _ _ _); (refine ACall.of_pure (by assumption) (by rfl) ?_); conv => whnf) | ((with_reducible show Exists _); (refine ⟨_, ACall.of_pure (by assumption) (by rfl) ⟨rfl, rfl⟩, ?_⟩); conv => whnf) | ((with_reducible show _ ∧ _ ∧ _); (refine ⟨by omega, by omega, ?_⟩); conv => whnf) | fail)
      refine ⟨bcl_all _, ?_⟩
      rw [ht]
      (conv => whnf); (repeat' first | ((with_reducible refine Box.mk ?_); conv => whnf) | ((with_reducible refine And.intro (fun _ => ?_) (fun _ => ?_)) <;> conv => whnf) | ((with_reducible show AYld _ _ _ _ _); (refine AYld.of tok mixed ?_); conv => whnf) | ((with_reducible show forceH _ _); (refine (forceH_eq _ _).mpr ?_); conv => whnf) | ((with_reducible show ACall _ _ _ _ _); (refine ACall.of_pure (by assumption) (by rfl) ?_); conv => whnf) | ((with_reducible show Exists _); (refine ⟨_, ACall.of_pure (by assumption) (by rfl) ⟨rfl, rfl⟩, ?_⟩); conv => whnf) | ((with_reducible show _ ∧ _ ∧ _); (refine ⟨by omega, by omega, ?_⟩); conv => whnf) | fail)
      refine aDw [0] a1 rfl rfl rfl ?_
      (conv => whnf); (repeat' first | ((with_reducible refine Box.mk ?_); conv => whnf) | ((with_reducible refine And.intro (fun _ => ?_) (fun _ => ?_)) <;> conv => whnf) | ((with_reducible show AYld _ _ _ _ _); (refine AYld.of tok mixed ?_); conv => whnf) | ((with_reducible show forceH _ _); (refine (forceH_eq _ _).mpr ?_); conv => whnf) | ((with_reducible show ACall _ _ _ _ _); (refine ACall.of_pure (by assumption) (by rfl) ?_); conv => whnf) | ((with_reducible show Exists _); (refine ⟨_, ACall.of_pure (by assumption) (by rfl) ⟨rfl, rfl⟩, ?_⟩); conv => whnf) | ((with_reducible show _ ∧ _ ∧ _); (refine ⟨by omega, by omega, ?_⟩); conv => whnf) | fail)
      (refine And.intro ?_ ?_); (focus ((conv => whnf); (repeat' first | exact trivial | ((refine And.intro ?_ ?_); (focus ((conv => whnf); (first | exact ⟨rfl, rfl⟩ | exact ⟨by decide, by decide, rfl, rfl⟩ | exact ⟨by omega, by omega, rfl, rfl⟩ | exact ⟨by (simp only [List.length_drop, List.length_take]; omega), rfl, rfl⟩ | exact ⟨_, rfl, rfl, rfl⟩ | exact ⟨by omega, _, by assumption, rfl, rfl, rfl⟩ | ((refine ACall.of_pure (by assumption) (by rfl) ?_); (refine And.intro ?_ ?_ <;> rfl))))); (conv => whnf)))))
      (conv => whnf); (repeat' first | ((with_reducible refine Box.mk ?_); conv => whnf) | ((with_reducible refine And.intro (fun _ => ?_) (fun _ => ?_)) <;> conv => whnf) | ((with_reducible show AYld _ _ _ _ _); (refine AYld.of tok mixed ?_); conv => whnf) | ((with_reducible show forceH _ _); (refine (forceH_eq _ _).mpr ?_); conv => whnf) | ((with_reducible show ACall _ _ _ _ _); (refine ACall.of_pure (by assumption) (by rfl) ?_); conv => whnf) | ((with_reducible show Exists _); (refine ⟨_, ACall.of_pure (by assumption) (by rfl) ⟨rfl, rfl⟩, ?_⟩); conv => whnf) | ((with_reducible show _ ∧ _ ∧ _); (refine ⟨by omega, by omega, ?_⟩); conv => whnf) | fail)
      rw [hz]
      refine ⟨by show ((n - v.length : Nat) : Int) * ((1 : Nat) : Int) ≤ _; omega, by omega, ?_⟩
      (conv => whnf); (repeat' first | ((with_reducible refine Box.mk ?_); conv => whnf) | ((with_reducible refine And.intro (fun _ => ?_) (fun _ => ?_)) <;> conv => whnf) | ((with_reducible show AYld _ _ _ _ _); (refine AYld.of tok mixed ?_); conv => whnf) | ((with_reducible show forceH _ _); (refine (forceH_eq _ _).mpr ?_); conv => whnf) | ((with_reducible show ACall _ _ _ _ _); (refine ACall.of_pure (by assumption) (by rfl) ?_); conv => whnf) | ((with_reducible show Exists _); (refine ⟨_, ACall.of_pure (by assumption) (by rfl) ⟨rfl, rfl⟩, ?_⟩); conv => whnf) | ((with_reducible show _ ∧ _ ∧ _); (refine ⟨by omega, by omega, ?_⟩); conv => whnf) | fail)
      rw [Int.toNat_natCast, zeros_bcl]
      refine aDw [0, 2] a2 rfl rfl rfl ?_
      (conv => whnf); (repeat' first | ((with_reducible refine Box.mk ?_); conv => whnf) | ((with_reducible refine And.intro (fun _ => ?_) (fun _ => ?_)) <;> conv => whnf) | ((with_reducible show AYld _ _ _ _ _); (refine AYld.of tok mixed ?_); conv => whnf) | ((with_reducible show forceH _ _); (refine (forceH_eq _ _).mpr ?_); conv => whnf) | ((with_reducible show ACall _ _ _ _ _); (refine ACall.of_pure (by assumption) (by rfl) ?_); conv => whnf) | ((with_reducible show Exists _); (refine ⟨_, ACall.of_pure (by assumption) (by rfl) ⟨rfl, rfl⟩, ?_⟩); conv => whnf) | ((with_reducible show _ ∧ _ ∧ _); (refine ⟨by omega, by omega, ?_⟩); conv => whnf) | fail)
      exact weak_ren_to [(0, true), (3, true)] rfl rfl rfl ⟨rfl, trivial⟩
  · rw [hb] at q0
    have e : putB s v = [] := by unfold putB; rw [if_pos hR]
    rw [e]
    refine DCall.of_awp tok mixed fn25 (Nat.le_of_ble_eq_true rfl) ?_
    (conv => whnf); (repeat' first | ((with_reducible refine Box.mk ?_); conv => whnf) | ((with_reducible refine And.intro (fun _ => ?_) (fun _ => ?_)) <;> conv => whnf) | ((with_reducible show AYld _ _ _ _ _); (refine AYld.of tok mixed ?_); conv => whnf) | ((with_reducible show forceH _ _); (refine (forceH_eq _ _).mpr ?_); conv => whnf) | ((with_reducible show ACall _ _ _ _ _); (refine ACall.of_pure (by assumption) (by rfl) ?_); conv => whnf) | ((with_reducible show Exists _); (refine ⟨_, ACall.of_pure (by assumption) (by rfl) ⟨rfl, rfl⟩, ?_⟩); conv => whnf) | ((with_reducible show _ ∧ _ ∧ _); (refine ⟨by omega, by omega, ?_⟩); conv => whnf) | fail)
    exact (weak_ren_to (l := [(0, mkRes [])]) (H' := wN) [(0, true)] rfl rfl rfl ⟨rfl, trivial⟩).trans (weak_nilrow (s := ⟨envL [(0, mkRes [])], wN⟩) (l := [(0, mkRes [])]) (H' := [.box 26 [.own 1]]) _ 1 (by decide) ⟨.inl rfl, trivial⟩ (nrBox 1 _))
end Go.Proofs.YtnajpmepcffnaaaDoor
end

section
/- label: the walk of the statement on joined labels. -/
namespace Go.Proofs.YtnajpmepcffnaaaDoor
open Go.Ve

theorem joinR_bad {l : List Bs} (h : l.all isLabel = false) : joinR l = .tup [.str [], .int .i64 3] := by
  have : l.any (fun s => !isLabel s) = true := by simpa [List.all_eq_false] using h
  unfold joinR; rw [this]; rfl
theorem joinR_long {l : List Bs} (h : l.all isLabel = true) (h8 : 8 < l.length) : joinR l = .tup [.str [], .int .i64 2] := by
  have : l.any (fun s => !isLabel s) = false := by simpa [List.all_eq_true] using h
  unfold joinR; rw [this, decide_eq_true h8]; rfl
theorem joinR_good {l : List Bs} (h : l.all isLabel = true) (h8 : ¬ 8 < l.length) : joinR l = .tup [.str (joinD l), .int .i64 0] := by
  have : l.any (fun s => !isLabel s) = false := by simpa [List.all_eq_true] using h
  unfold joinR; rw [this, decide_eq_false h8]; rfl

end Go.Proofs.YtnajpmepcffnaaaDoor
end

section
/- label: there and back: the walk of the statement. -/
namespace Go.Proofs.YtnajpmepcffnaaaDoor
open Go.Ve

theorem pNil {f : FuncId} {rest : List AV} {r : AV} (h : PCall P f (.sl [] :: rest) r) : PCall P f (.nils :: rest) r := by
  unfold PCall at *
  refine ⟨h.1, fun M0 w vs hM hG hv => h.2 M0 w vs hM hG ⟨hv.1, fun i x hx => ?_⟩⟩
  cases i with
  | zero =>
    cases hx
    have e := (hv.2 0 .nils rfl).nils_inv
    rw [e]; exact .sl0 _
  | succ i => exact hv.2 (i + 1) x hx

theorem splitDot_app : ∀ {x : Bs} (s : Bs), (∀ c ∈ x, c ≠ 46) → splitDot (x ++ 46 :: s) = x :: splitDot s
  | [], s, _ => by simp [splitDot]
  | c :: x, s, h => by
    have hc := h c List.mem_cons_self
    simp [splitDot, hc, splitDot_app s fun d hd => h d (List.mem_cons_of_mem _ hd)]
theorem splitDot_one : ∀ {x : Bs}, (∀ c ∈ x, c ≠ 46) → splitDot x = [x]
  | [], _ => rfl
  | c :: x, h => by
    have hc := h c List.mem_cons_self
    simp [splitDot, hc, splitDot_one fun d hd => h d (List.mem_cons_of_mem _ hd)]
theorem splitDot_join : ∀ {L : List Bs}, L ≠ [] → (∀ x ∈ L, ∀ c ∈ x, c ≠ 46) → splitDot (joinD L) = L
  | [], h, _ => absurd rfl h
  | [x], _, h => splitDot_one (h x List.mem_cons_self)
  | x :: y :: r, _, h => by
    rw [joinD, splitDot_app _ (h x List.mem_cons_self), splitDot_join (by simp) fun z hz => h z (List.mem_cons_of_mem _ hz)]
theorem label_nodot {x : Bs} (h : isLabel x = true) : ∀ c ∈ x, c ≠ 46 := by
  simp only [isLabel, Bool.and_eq_true, List.all_eq_true, decide_eq_true_eq] at h
  intro c hc e
  have := h.1 c hc
  subst e
  revert this
  decide
theorem labs_join {L : List Bs} (h : ∀ x ∈ L, isLabel x = true) (h8 : L.length ≤ 8) : okPath (joinD L) = true ∧ labs (joinD L) = L := by
  by_cases hne : L = []
  · subst hne; exact ⟨rfl, rfl⟩
  · have hs := splitDot_join hne fun x hx => label_nodot (h x hx)
    have hj : joinD L ≠ [] := by
      intro e
      rw [e] at hs
      have : ([] : Bs) ∈ L := by rw [← hs]; simp [splitDot]
      have := h [] this
      simp [isLabel] at this
    obtain ⟨h1, h2⟩ := okPath_true hj (by rw [hs]; exact h) (by rw [hs]; exact h8)
    refine ⟨h1, ?_⟩
    unfold labs
    have : (joinD L).isEmpty = false := by cases e : joinD L with | nil => exact absurd e hj | cons => rfl
    rw [this, h1]; exact hs
theorem labs_lab {p : Bs} : ∀ x ∈ labs p, isLabel x = true := by
  rcases path_cases p with ⟨_, e⟩ | ⟨_, e, e3, e4⟩
  · rw [e]; simp
  · have hp : p.isEmpty = false := by cases p with | nil => exact absurd rfl e3 | cons => rfl
    simp [okPath, hp] at e4
    rw [e]; exact e4.2
theorem join_labs {p : Bs} (h : okPath p = true) : joinD (labs p) = p := by
  by_cases hp : p = []
  · subst hp; rfl
  · have : p.isEmpty = false := by cases p with | nil => exact absurd rfl hp | cons => rfl
    unfold labs
    rw [this, h]; exact joinD_split p
theorem cpl_comm : ∀ (l m : List Bs), cpl l m = cpl m l
  | [], [] => rfl
  | [], _ :: _ => rfl
  | _ :: _, [] => rfl
  | x :: l, y :: m => by
    simp only [cpl]
    by_cases h : x = y
    · subst h; simp [cpl_comm l m]
    · rw [if_neg h, if_neg fun e => h e.symm]
theorem cpl_self : ∀ (l : List Bs), cpl l l = l.length
  | [] => rfl
  | x :: l => by simp [cpl, cpl_self l]
theorem cpl_take : ∀ (l m : List Bs), l.take (cpl l m) = m.take (cpl l m)
  | [], [] => rfl
  | [], _ :: _ => rfl
  | _ :: _, [] => rfl
  | x :: l, y :: m => by
    simp only [cpl]
    by_cases h : x = y
    · subst h; simp [cpl_take l m]
    · simp [h]
theorem cpl_next : ∀ {l m : List Bs}, l.take (cpl l m + 1) = m.take (cpl l m + 1) → l = m
  | [], [], _ => rfl
  | [], _ :: _, h => by simp [cpl] at h
  | _ :: _, [], h => by simp [cpl] at h
  | x :: l, y :: m, h => by
    simp only [cpl] at h
    by_cases e : x = y
    · subst e
      simp only [if_true, List.take_succ_cons, List.cons.injEq, true_and] at h
      rw [cpl_next h]
    · simp [e] at h

end Go.Proofs.YtnajpmepcffnaaaDoor
end

section
/- field: what is set, and what is told of it (plain). -/
namespace Go.Proofs.YtnajpmepcffnaaaDoor
open Go.Ve

def placeF (x : Int) : Int := if x = 5 ∨ x = 6 then x - 2 else x
theorem says_ten (s : Sc) : saysS s = -1 ∨ saysS s = 0 ∨ saysS s = 1 ∨ saysS s = 2 ∨ saysS s = 3 ∨ saysS s = 4 ∨ saysS s = 5 ∨ saysS s = 6 ∨ saysS s = 7 ∨ saysS s = 8 := by
  rcases says_cases s with h | h | ⟨_, h⟩ <;> omega
theorem upd_idem (s : Sc) (b : Bs) (r : Rc) : updR s b (updR s b r) = updR s b r := by
  unfold updR
  rcases says_ten s with h | h | h | h | h | h | h | h | h | h <;> rw [h] <;> rfl
theorem upd_comm {s t : Sc} (b c : Bs) (r : Rc) (h : placeF (saysS s) ≠ placeF (saysS t)) : updR s b (updR t c r) = updR t c (updR s b r) := by
  unfold updR
  rcases says_ten s with h1 | h1 | h1 | h1 | h1 | h1 | h1 | h1 | h1 | h1 <;> rcases says_ten t with h2 | h2 | h2 | h2 | h2 | h2 | h2 | h2 | h2 | h2 <;> rw [h1, h2] at h ⊢ <;> first | rfl | exact absurd (by decide) h
theorem upd_zero {s : Sc} (h : saysS s = 0) (b : Bs) (r : Rc) : updR s b r = r := by
  unfold updR; rw [h]; rfl
theorem set_ok0 {s : Sc} {b : Bs} (h : setE s b = 0) (r : Rc) : setR s b r = updR s b r := by unfold setR; rw [if_pos h]
/-! ### bytes and numbers -/
theorem nb_val : ∀ (v : Bs), numB (valB v) v.length = v := by
  intro v
  induction v with
  | nil => rfl
  | cons c v ih =>
    have h : valB (c :: v) = c.toNat * 256 ^ v.length + valB v := by
      have := valB_app [c] v
      exact this.trans (by
        congr 2
        show 0 * 256 + c.toNat = _
        omega)
    have hv := valB_lt v
    have hp : 0 < 256 ^ v.length := Nat.pow_pos (by decide)
    have low : ∀ k, k ≤ v.length → numB (valB (c :: v)) k = numB (valB v) k := by
      intro k
      induction k with
      | zero => intro _; rfl
      | succ k ih2 =>
        intro hk
        show _ :: _ = _ :: _
        rw [ih2 (by omega)]
        congr 1
        rw [h]
        have e : c.toNat * 256 ^ v.length = 256 ^ k * (c.toNat * 256 ^ (v.length - k)) := by
          rw [← Nat.mul_assoc, Nat.mul_comm (256 ^ k), Nat.mul_assoc, ← Nat.pow_add, show k + (v.length - k) = v.length by omega]
        rw [e, Nat.add_comm, Nat.add_mul_div_left _ _ (Nat.pow_pos (by decide))]
        have e2 : 256 ^ (v.length - k) = 256 * 256 ^ (v.length - k - 1) := by
          rw [← Nat.pow_succ', show (v.length - k - 1).succ = v.length - k by omega]
        rw [e2, ← Nat.mul_assoc, Nat.mul_comm c.toNat, Nat.mul_assoc]
        apply UInt8.toNat_inj.1
        show (_ + 256 * _) % 256 = _ % 256
        rw [Nat.add_mul_mod_self_left]
    rw [List.length_cons]
    show _ :: _ = _
    rw [low _ (Nat.le_refl _), ih]
    congr 1
    rw [h, Nat.add_comm, Nat.add_mul_div_right _ _ hp, Nat.div_eq_of_lt hv, Nat.zero_add]
    exact UInt8.ofNat_toNat
theorem nb_of {v : Bs} {k : Nat} (h : v.length = k) : numB (valB v) k = v := by subst h; exact nb_val v
theorem bytesK_len (k : Ky) (kind : Int) (n : Nat) (hn : n ≤ 16) : (bytesK k kind n).length = n := by
  unfold bytesK
  split
  · rw [List.length_take, List.length_append, numB_len, numB_len]; omega
  · exact List.length_replicate
theorem four_bytes {v : Bs} (h : v.length = 4) : bytesK (addrK v) 1 4 = v := by
  unfold addrK
  rw [if_pos h]
  unfold bytesK fourK
  rw [if_pos rfl]
  show ((numB (valB v * 2 ^ 96 / H64) 8 ++ numB (valB v * 2 ^ 96 % H64) 8).take 4) = v
  have e : valB v * 2 ^ 96 / H64 = valB v * 2 ^ 32 := by
    rw [h64, show (96 : Nat) = 32 + 64 from rfl, Nat.pow_add, ← Nat.mul_assoc, Nat.mul_div_cancel _ (Nat.two_pow_pos 64)]
  rw [e, List.take_append_of_le_length (by rw [numB_len]; decide)]
  have hb : ∀ j, valB v * 2 ^ 32 / 256 ^ (4 + j) = valB v / 256 ^ j := fun j => by
    rw [Nat.pow_add, show (256 : Nat) ^ 4 = 2 ^ 32 by decide, Nat.mul_comm, Nat.mul_div_mul_left _ _ (Nat.two_pow_pos 32)]
  have h4 := nb_of h
  refine Eq.trans ?_ h4
  show [_, _, _, _] = [_, _, _, _]
  rw [show valB v * 2 ^ 32 / 256 ^ 7 = _ from hb 3, show valB v * 2 ^ 32 / 256 ^ 6 = _ from hb 2, show valB v * 2 ^ 32 / 256 ^ 5 = _ from hb 1, show valB v * 2 ^ 32 / 256 ^ 4 = _ from hb 0]
theorem six_bytes {v : Bs} (h : v.length = 16) : bytesK (addrK v) 2 16 = v := by
  unfold addrK
  rw [if_neg (by omega)]
  unfold bytesK sixK
  rw [if_pos rfl]
  show ((numB (valB v / H64) 8 ++ numB (valB v % H64) 8).take 16) = v
  have e : v = v.take 8 ++ v.drop 8 := (List.take_append_drop 8 v).symm
  have l1 : (v.take 8).length = 8 := by rw [List.length_take]; omega
  have l2 : (v.drop 8).length = 8 := by rw [List.length_drop]; omega
  obtain ⟨_, h1, h2⟩ := val16 (v.take 8) (v.drop 8) l1 l2
  rw [← e] at h1 h2
  rw [h1, h2, nb_of l1, nb_of l2, ← e, List.take_of_length_le (by omega)]
/-! ### paths -/
theorem joinD_mem : ∀ {l : List Bs} {c : UInt8}, c ∈ joinD l → c = 46 ∨ ∃ x ∈ l, c ∈ x
  | [], c, h => by simp [joinD] at h
  | [x], c, h => by simp [joinD] at h; exact .inr ⟨x, by simp, h⟩
  | x :: y :: l, c, h => by
    rw [joinD, List.mem_append, List.mem_cons] at h
    rcases h with h | h | h
    · exact .inr ⟨x, by simp, h⟩
    · exact .inl h
    · rcases joinD_mem h with h | ⟨z, hz, h⟩
      · exact .inl h
      · exact .inr ⟨z, List.mem_cons_of_mem _ hz, h⟩
theorem path_nz {p : Bs} (h : okPath p = true) : (0 : UInt8) ∉ p := by
  intro hc
  rw [← join_labs h] at hc
  rcases joinD_mem hc with hc | ⟨x, hx, hcx⟩
  · cases hc
  · have := labs_lab x hx
    unfold isLabel at this
    rw [Bool.and_eq_true, List.all_eq_true] at this
    have h3 := of_decide_eq_true (this.1 0 hcx)
    unfold okByte at h3
    revert h3; decide
theorem trimN_nz {p : Bs} (h : (0 : UInt8) ∉ p) : ∀ k, k ≤ p.length → trimN p k = k
  | 0, _ => rfl
  | k + 1, hk => by
    unfold trimN
    rw [if_neg fun hc => h (List.mem_of_getElem? hc)]
theorem trimZ_ok {p : Bs} (h : okPath p = true) : trimZ p = p := by
  unfold trimZ
  rw [trimN_nz (path_nz h) _ (Nat.le_refl _), List.take_of_length_le (Nat.le_refl _)]
theorem textK_ok (k : Ky) : okPath (textK k) = true := by
  unfold textK
  split
  · rename_i h; exact h.2
  · rfl
theorem pathT_ok {p : Bs} (s : Sc) (h : okPath p = true) : pathT s p = p := by
  unfold pathT
  split
  · rfl
  · exact trimZ_ok h
/-! ### what is told, set -/
theorem set_copy (f : Rc) {s : Sc} (h1 : 1 ≤ saysS s) (hl : s.len ≠ 65535 → ((ofR f s).length : Int) = s.len) : setE s (ofR f s) = 0 := by
  unfold setE
  rw [if_neg (fun hc => hc.elim (fun h => by omega) (fun h => h.2 (hl h.1))), if_neg]
  rintro ⟨h, hp⟩
  have : okPath (ofR f s) = true := by
    unfold ofR
    rcases h with h | h <;> rw [h]
    · exact textK_ok f.p0
    · exact textK_ok f.p1
  rw [pathT_ok s this, this] at hp; cases hp
theorem of_copy (f g : Rc) {s : Sc} (h1 : 1 ≤ saysS s) : ofR (updR s (ofR f s) g) s = ofR f s := by
  have hp : ∀ k : Ky, textK (ofPathK (pathT s (textK k))) = textK k := fun k => by
    rw [pathT_ok s (textK_ok k)]
    unfold textK ofPathK
    have := textK_ok k
    unfold textK at this
    rw [if_pos ⟨rfl, this⟩]
  have hn : ∀ n k : Nat, numB (valB (numB n k)) k = numB n k := fun n k => nb_of (numB_len n k)
  have h4 : ∀ k : Ky, bytesK (addrK (bytesK k 1 4)) 1 4 = bytesK k 1 4 := fun k => four_bytes (bytesK_len k 1 4 (by decide))
  have h6 : ∀ k : Ky, bytesK (addrK (bytesK k 2 16)) 2 16 = bytesK k 2 16 := fun k => six_bytes (bytesK_len k 2 16 (by decide))
  unfold ofR updR
  rcases says_ten s with h | h | h | h | h | h | h | h | h | h
  · omega
  · omega
  all_goals rw [h]
  · exact hn _ _
  · exact hn _ _
  · exact h4 _
  · exact h4 _
  · exact h6 _
  · exact h6 _
  · exact hp _
  · exact hp _
/-! ### flows that may be -/
def okA (k : Ky) : Bool := decide (k = zeroK) || (decide (k.kind ≠ 3) && rightK k && decide (k.len = widthK k.kind))
def okP (k : Ky) : Bool := decide (k = zeroK) || (decide (k.kind = 3) && rightK k)
def rightR (r : Rc) : Bool := okA r.a0 && okP r.p0 && (okA r.a1 && okP r.p1)
theorem okA_addr {v : Bs} (h : v.length = 4 ∨ v.length = 16) : okA (addrK v) = true := by
  unfold okA
  rw [Bool.or_eq_true]
  refine .inr ?_
  unfold addrK
  rcases h with h | h
  · rw [if_pos h]
    have h0 : valB v * 2 ^ 96 = topN (valB v * 2 ^ 96) (min (32 : Int) 128).toNat := by
      show _ = valB v * 2 ^ 96 / 2 ^ 96 * 2 ^ 96
      rw [Nat.mul_div_cancel _ (Nat.two_pow_pos 96)]
    have hr : rightK (fourK v) = true := by
      unfold rightK fourK
      dsimp only
      rw [if_pos (.inl rfl)]
      exact decide_eq_true ⟨by decide, by decide, h0, rfl⟩
    rw [hr]; rfl
  · rw [if_neg (by omega)]
    have h0 : valB v = topN (valB v) (min (128 : Int) 128).toNat := by
      show _ = valB v / 2 ^ (128 - 128) * 2 ^ (128 - 128)
      simp
    have hr : rightK (sixK v) = true := by
      unfold rightK sixK
      dsimp only
      rw [if_pos (.inr rfl)]
      exact decide_eq_true ⟨by decide, by decide, h0, rfl⟩
    rw [hr]; rfl
theorem okP_path {p : Bs} (h : okPath p = true) : okP (ofPathK p) = true := by
  unfold okP
  rw [Bool.or_eq_true]
  refine .inr ?_
  have hr : rightK (ofPathK p) = true := by
    unfold rightK ofPathK
    dsimp only
    rw [if_neg (by decide), if_pos rfl, h]
    exact decide_eq_true ⟨rfl, rfl⟩
  rw [hr]; rfl
theorem right_upd {s : Sc} {v : Bs} {g : Rc} (h : setE s v = 0) (hg : rightR g = true) : rightR (updR s v g) = true := by
  unfold rightR at *
  rw [Bool.and_eq_true, Bool.and_eq_true, Bool.and_eq_true] at *
  obtain ⟨⟨g1, g2⟩, g3, g4⟩ := hg
  unfold setE at h
  have hl : ¬ (saysS s = -1 ∨ s.len ≠ 65535 ∧ (v.length : Int) ≠ s.len) := fun hc => by rw [if_pos hc] at h; cases h
  rw [if_neg hl] at h
  have hp : saysS s = 7 ∨ saysS s = 8 → okPath (pathT s v) = true := fun hs => by
    cases hb : okPath (pathT s v) with
    | true => rfl
    | false => rw [if_pos ⟨hs, hb⟩] at h; cases h
  unfold updR
  rcases says_cases s with hs | hs | ⟨_, hs | hs | hs | hs | hs | hs | hs | hs⟩
  · omega
  · rw [hs]; exact ⟨⟨g1, g2⟩, g3, g4⟩
  · rw [hs.1]; exact ⟨⟨g1, g2⟩, g3, g4⟩
  · rw [hs.1]; exact ⟨⟨g1, g2⟩, g3, g4⟩
  · have := okA_addr (v := v) (.inl (by omega))
    rw [hs.1]; exact ⟨⟨this, g2⟩, g3, g4⟩
  · have := okA_addr (v := v) (.inl (by omega))
    rw [hs.1]; exact ⟨⟨g1, g2⟩, this, g4⟩
  · have := okA_addr (v := v) (.inr (by omega))
    rw [hs.1]; exact ⟨⟨this, g2⟩, g3, g4⟩
  · have := okA_addr (v := v) (.inr (by omega))
    rw [hs.1]; exact ⟨⟨g1, g2⟩, this, g4⟩
  · have := okP_path (hp (.inl hs))
    rw [hs]; exact ⟨⟨g1, this⟩, g3, g4⟩
  · have := okP_path (hp (.inr hs))
    rw [hs]; exact ⟨⟨g1, g2⟩, g3, this⟩
end Go.Proofs.YtnajpmepcffnaaaDoor
end

section
/- field: flows that may be. -/
namespace Go.Proofs.YtnajpmepcffnaaaDoor
open Go.Ve

theorem zK_iff {k : Ky} : (k.kind = 0 ∧ k.len = 0 ∧ ((k.n / H64 : Nat) : Int) = 0 ∧ ((k.n % H64 : Nat) : Int) = 0 ∧ k.path = []) ↔ k = zeroK := by
  have h := @kv_eq k zeroK
  have e1 : ((zeroK.n / H64 : Nat) : Int) = 0 := by show (((0 : Nat) / H64 : Nat) : Int) = 0; rw [Nat.zero_div]; rfl
  have e2 : ((zeroK.n % H64 : Nat) : Int) = 0 := by show (((0 : Nat) % H64 : Nat) : Int) = 0; rw [Nat.zero_mod]; rfl
  rw [e1, e2] at h
  exact h
set_option maxHeartbeats 4000000 in
theorem fRightAddr_ok (k : Ky) (hn : k.n < 2 ^ 128) (hp : k.path.length < 4294967281) : PCall P 50 [kv k] (.bool (okA k)) := by
  have q1 := keyRight_ok k hn hp
  have q2 := width_ok k.kind
  unfold okA
  by_cases hz : k = zeroK
  · have hz2 := zK_iff.2 hz
    rw [decide_eq_true hz, Bool.true_or]
    refine PCall.of_awp tok mixed fn50 (Nat.le_of_ble_eq_true rfl) ?_
    (conv => whnf); (repeat' first | ((with_reducible refine Box.mk ?_); conv => whnf) | ((with_reducible refine And.intro (fun _ => ?_) (fun _ => ?_)) <;> conv => whnf) | ((with_reducible show AYld _ _ _ _ _); (refine AYld.of tok mixed ?_); conv => whnf) | ((with_reducible show forceH _ _); (refine (forceH_eq _ _).mpr ?_); conv => whnf) | ((with_reducible show ACall _ _ _ _ _); (refine ACall.of_pure (by assumption) (by rfl) ?_); conv => whnf) | ((with_reducible show Exists _); (refine ⟨_, ACall.of_pure (by assumption) (by rfl) ⟨rfl, rfl⟩, ?_⟩); conv => whnf) | ((with_reducible show _ ∧ _ ∧ _); (refine ⟨by omega, by omega, ?_⟩); conv => whnf) | fail)
    all_goals first
      | rfl
      | (exfalso; contradiction)
  · have hz2 := fun h => hz (zK_iff.1 h)
    rw [decide_eq_false hz, Bool.false_or]
    generalize hrr : rightK k = rr at *
    generalize hww : widthK k.kind = ww at *
    refine PCall.of_awp tok mixed fn50 (Nat.le_of_ble_eq_true rfl) ?_
    cases rr
    all_goals (
      (conv => whnf); (repeat' first | ((with_reducible refine Box.mk ?_); conv => whnf) | ((with_reducible refine And.intro (fun _ => ?_) (fun _ => ?_)) <;> conv => whnf) | ((with_reducible show AYld _ _ _ _ _); (refine AYld.of tok mixed ?_); conv => whnf) | ((with_reducible show forceH _ _); (refine (forceH_eq _ _).mpr ?_); conv => whnf) | ((with_reducible show ACall _ _ _ _ _); (refine ACall.of_pure (by assumption) (by rfl) ?_); conv => whnf) | ((with_reducible show Exists _); (refine ⟨_, ACall.of_pure (by assumption) (by rfl) ⟨rfl, rfl⟩, ?_⟩); conv => whnf) | ((with_reducible show _ ∧ _ ∧ _); (refine ⟨by omega, by omega, ?_⟩); conv => whnf) | fail)
      all_goals try (rename_i hbad; exact absurd hbad hz2)
      refine ⟨[], by kernel_rfl, ?_⟩
      (conv => whnf); (repeat' first | ((with_reducible refine Box.mk ?_); conv => whnf) | ((with_reducible refine And.intro (fun _ => ?_) (fun _ => ?_)) <;> conv => whnf) | ((with_reducible show AYld _ _ _ _ _); (refine AYld.of tok mixed ?_); conv => whnf) | ((with_reducible show forceH _ _); (refine (forceH_eq _ _).mpr ?_); conv => whnf) | ((with_reducible show ACall _ _ _ _ _); (refine ACall.of_pure (by assumption) (by rfl) ?_); conv => whnf) | ((with_reducible show Exists _); (refine ⟨_, ACall.of_pure (by assumption) (by rfl) ⟨rfl, rfl⟩, ?_⟩); conv => whnf) | ((with_reducible show _ ∧ _ ∧ _); (refine ⟨by omega, by omega, ?_⟩); conv => whnf) | fail)
      all_goals (first | (simp [*]; done) | (simp [*]; rfl)))
set_option maxHeartbeats 4000000 in
theorem fRightPath_ok (k : Ky) (hn : k.n < 2 ^ 128) (hp : k.path.length < 4294967281) : PCall P 51 [kv k] (.bool (okP k)) := by
  have q1 := keyRight_ok k hn hp
  unfold okP
  by_cases hz : k = zeroK
  · have hz2 := zK_iff.2 hz
    rw [decide_eq_true hz, Bool.true_or]
    refine PCall.of_awp tok mixed fn51 (Nat.le_of_ble_eq_true rfl) ?_
    (conv => whnf); (repeat' first | ((with_reducible refine Box.mk ?_); conv => whnf) | ((with_reducible refine And.intro (fun _ => ?_) (fun _ => ?_)) <;> conv => whnf) | ((with_reducible show AYld _ _ _ _ _); (refine AYld.of tok mixed ?_); conv => whnf) | ((with_reducible show forceH _ _); (refine (forceH_eq _ _).mpr ?_); conv => whnf) | ((with_reducible show ACall _ _ _ _ _); (refine ACall.of_pure (by assumption) (by rfl) ?_); conv => whnf) | ((with_reducible show Exists _); (refine ⟨_, ACall.of_pure (by assumption) (by rfl) ⟨rfl, rfl⟩, ?_⟩); conv => whnf) | ((with_reducible show _ ∧ _ ∧ _); (refine ⟨by omega, by omega, ?_⟩); conv => whnf) | fail)
    all_goals first
      | rfl
      | (exfalso; contradiction)
  · have hz2 := fun h => hz (zK_iff.1 h)
    rw [decide_eq_false hz, Bool.false_or]
    generalize hrr : rightK k = rr at *
    refine PCall.of_awp tok mixed fn51 (Nat.le_of_ble_eq_true rfl) ?_
    cases rr
    all_goals (
      (conv => whnf); (repeat' first | ((with_reducible refine Box.mk ?_); conv => whnf) | ((with_reducible refine And.intro (fun _ => ?_) (fun _ => ?_)) <;> conv => whnf) | ((with_reducible show AYld _ _ _ _ _); (refine AYld.of tok mixed ?_); conv => whnf) | ((with_reducible show forceH _ _); (refine (forceH_eq _ _).mpr ?_); conv => whnf) | ((with_reducible show ACall _ _ _ _ _); (refine ACall.of_pure (by assumption) (by rfl) ?_); conv => whnf) | ((with_reducible show Exists _); (refine ⟨_, ACall.of_pure (by assumption) (by rfl) ⟨rfl, rfl⟩, ?_⟩); conv => whnf) | ((with_reducible show _ ∧ _ ∧ _); (refine ⟨by omega, by omega, ?_⟩); conv => whnf) | fail)
      all_goals try (rename_i hbad; exact absurd hbad hz2)
      all_goals (first | (simp [*]; done) | (simp [*]; rfl)))
structure RSm (r : Rc) : Prop where
  a0 : r.a0.n < 2 ^ 128 ∧ r.a0.path.length < 4294967281
  a1 : r.a1.n < 2 ^ 128 ∧ r.a1.path.length < 4294967281
  p0 : r.p0.n < 2 ^ 128 ∧ r.p0.path.length < 4294967281
  p1 : r.p1.n < 2 ^ 128 ∧ r.p1.path.length < 4294967281
set_option maxHeartbeats 4000000 in
theorem fFlowRight_ok (r : Rc) (h : RSm r) : PCall P 30 [rcv r] (.bool (rightR r)) := by
  have q1 := fRightAddr_ok r.a0 h.a0.1 h.a0.2
  have q2 := fRightPath_ok r.p0 h.p0.1 h.p0.2
  have q3 := fRightAddr_ok r.a1 h.a1.1 h.a1.2
  have q4 := fRightPath_ok r.p1 h.p1.1 h.p1.2
  unfold rightR
  generalize okA r.a0 = b1 at *
  generalize okP r.p0 = b2 at *
  generalize okA r.a1 = b3 at *
  generalize okP r.p1 = b4 at *
  refine PCall.of_awp tok mixed fn30 (Nat.le_of_ble_eq_true rfl) ?_
  (conv => whnf); (repeat' first | ((with_reducible refine Box.mk ?_); conv => whnf) | ((with_reducible refine And.intro (fun _ => ?_) (fun _ => ?_)) <;> conv => whnf) | ((with_reducible show AYld _ _ _ _ _); (refine AYld.of tok mixed ?_); conv => whnf) | ((with_reducible show forceH _ _); (refine (forceH_eq _ _).mpr ?_); conv => whnf) | ((with_reducible show ACall _ _ _ _ _); (refine ACall.of_pure (by assumption) (by rfl) ?_); conv => whnf) | ((with_reducible show Exists _); (refine ⟨_, ACall.of_pure (by assumption) (by rfl) ⟨rfl, rfl⟩, ?_⟩); conv => whnf) | ((with_reducible show _ ∧ _ ∧ _); (refine ⟨by omega, by omega, ?_⟩); conv => whnf) | fail)
  refine aloop (fun i : Nat => i ≤ 2 ∧ (1 ≤ i → b1 = true ∧ b2 = true) ∧ (2 ≤ i → b3 = true ∧ b4 = true)) (fun i => ⟨envL [(1, .ptr 0 0), (4, .int .i64 i)], [.box 58 (rcc r)]⟩) (fun i => 2 - i) 0 ⟨Nat.zero_le _, fun h => by omega, fun h => by omega⟩ (weak_to ⟨rfl, rfl, trivial⟩ rfl) ?_
  rintro i ⟨hi, h1, h2⟩
  match i, hi with
  | 0, _ =>
    cases b1
    · (conv => whnf); (repeat' first | ((with_reducible refine Box.mk ?_); conv => whnf) | ((with_reducible refine And.intro (fun _ => ?_) (fun _ => ?_)) <;> conv => whnf) | ((with_reducible show AYld _ _ _ _ _); (refine AYld.of tok mixed ?_); conv => whnf) | ((with_reducible show forceH _ _); (refine (forceH_eq _ _).mpr ?_); conv => whnf) | ((with_reducible show ACall _ _ _ _ _); (refine ACall.of_pure (by assumption) (by rfl) ?_); conv => whnf) | ((with_reducible show Exists _); (refine ⟨_, ACall.of_pure (by assumption) (by rfl) ⟨rfl, rfl⟩, ?_⟩); conv => whnf) | ((with_reducible show _ ∧ _ ∧ _); (refine ⟨by omega, by omega, ?_⟩); conv => whnf) | fail)
      all_goals try (exfalso; omega)
      all_goals rfl
    · cases b2
      · (conv => whnf); (repeat' first | ((with_reducible refine Box.mk ?_); conv => whnf) | ((with_reducible refine And.intro (fun _ => ?_) (fun _ => ?_)) <;> conv => whnf) | ((with_reducible show AYld _ _ _ _ _); (refine AYld.of tok mixed ?_); conv => whnf) | ((with_reducible show forceH _ _); (refine (forceH_eq _ _).mpr ?_); conv => whnf) | ((with_reducible show ACall _ _ _ _ _); (refine ACall.of_pure (by assumption) (by rfl) ?_); conv => whnf) | ((with_reducible show Exists _); (refine ⟨_, ACall.of_pure (by assumption) (by rfl) ⟨rfl, rfl⟩, ?_⟩); conv => whnf) | ((with_reducible show _ ∧ _ ∧ _); (refine ⟨by omega, by omega, ?_⟩); conv => whnf) | fail)
        all_goals try (exfalso; omega)
        all_goals rfl
      · (conv => whnf); (repeat' first | ((with_reducible refine Box.mk ?_); conv => whnf) | ((with_reducible refine And.intro (fun _ => ?_) (fun _ => ?_)) <;> conv => whnf) | ((with_reducible show AYld _ _ _ _ _); (refine AYld.of tok mixed ?_); conv => whnf) | ((with_reducible show forceH _ _); (refine (forceH_eq _ _).mpr ?_); conv => whnf) | ((with_reducible show ACall _ _ _ _ _); (refine ACall.of_pure (by assumption) (by rfl) ?_); conv => whnf) | ((with_reducible show Exists _); (refine ⟨_, ACall.of_pure (by assumption) (by rfl) ⟨rfl, rfl⟩, ?_⟩); conv => whnf) | ((with_reducible show _ ∧ _ ∧ _); (refine ⟨by omega, by omega, ?_⟩); conv => whnf) | fail)
        all_goals try (exfalso; omega)
        exact ⟨1, ⟨by omega, fun _ => ⟨rfl, rfl⟩, fun h => by omega⟩, by decide, weak_to ⟨rfl, rfl, trivial⟩ rfl⟩
  | 1, _ =>
    obtain ⟨e1, e2⟩ := h1 (by omega)
    subst e1 e2
    cases b3
    · (conv => whnf); (repeat' first | ((with_reducible refine Box.mk ?_); conv => whnf) | ((with_reducible refine And.intro (fun _ => ?_) (fun _ => ?_)) <;> conv => whnf) | ((with_reducible show AYld _ _ _ _ _); (refine AYld.of tok mixed ?_); conv => whnf) | ((with_reducible show forceH _ _); (refine (forceH_eq _ _).mpr ?_); conv => whnf) | ((with_reducible show ACall _ _ _ _ _); (refine ACall.of_pure (by assumption) (by rfl) ?_); conv => whnf) | ((with_reducible show Exists _); (refine ⟨_, ACall.of_pure (by assumption) (by rfl) ⟨rfl, rfl⟩, ?_⟩); conv => whnf) | ((with_reducible show _ ∧ _ ∧ _); (refine ⟨by omega, by omega, ?_⟩); conv => whnf) | fail)
      all_goals try (exfalso; omega)
      all_goals rfl
    · cases b4
      · (conv => whnf); (repeat' first | ((with_reducible refine Box.mk ?_); conv => whnf) | ((with_reducible refine And.intro (fun _ => ?_) (fun _ => ?_)) <;> conv => whnf) | ((with_reducible show AYld _ _ _ _ _); (refine AYld.of tok mixed ?_); conv => whnf) | ((with_reducible show forceH _ _); (refine (forceH_eq _ _).mpr ?_); conv => whnf) | ((with_reducible show ACall _ _ _ _ _); (refine ACall.of_pure (by assumption) (by rfl) ?_); conv => whnf) | ((with_reducible show Exists _); (refine ⟨_, ACall.of_pure (by assumption) (by rfl) ⟨rfl, rfl⟩, ?_⟩); conv => whnf) | ((with_reducible show _ ∧ _ ∧ _); (refine ⟨by omega, by omega, ?_⟩); conv => whnf) | fail)
        all_goals try (exfalso; omega)
        all_goals rfl
      · (conv => whnf); (repeat' first | ((with_reducible refine Box.mk ?_); conv => whnf) | ((with_reducible refine And.intro (fun _ => ?_) (fun _ => ?_)) <;> conv => whnf) | ((with_reducible show AYld _ _ _ _ _); (refine AYld.of tok mixed ?_); conv => whnf) | ((with_reducible show forceH _ _); (refine (forceH_eq _ _).mpr ?_); conv => whnf) | ((with_reducible show ACall _ _ _ _ _); (refine ACall.of_pure (by assumption) (by rfl) ?_); conv => whnf) | ((with_reducible show Exists _); (refine ⟨_, ACall.of_pure (by assumption) (by rfl) ⟨rfl, rfl⟩, ?_⟩); conv => whnf) | ((with_reducible show _ ∧ _ ∧ _); (refine ⟨by omega, by omega, ?_⟩); conv => whnf) | fail)
        all_goals try (exfalso; omega)
        exact ⟨2, ⟨by omega, fun _ => ⟨rfl, rfl⟩, fun _ => ⟨rfl, rfl⟩⟩, by decide, weak_to ⟨rfl, rfl, trivial⟩ rfl⟩
  | 2, _ =>
    obtain ⟨e1, e2⟩ := h1 (by omega)
    obtain ⟨e3, e4⟩ := h2 (by omega)
    subst e1 e2 e3 e4
    (conv => whnf); (repeat' first | ((with_reducible refine Box.mk ?_); conv => whnf) | ((with_reducible refine And.intro (fun _ => ?_) (fun _ => ?_)) <;> conv => whnf) | ((with_reducible show AYld _ _ _ _ _); (refine AYld.of tok mixed ?_); conv => whnf) | ((with_reducible show forceH _ _); (refine (forceH_eq _ _).mpr ?_); conv => whnf) | ((with_reducible show ACall _ _ _ _ _); (refine ACall.of_pure (by assumption) (by rfl) ?_); conv => whnf) | ((with_reducible show Exists _); (refine ⟨_, ACall.of_pure (by assumption) (by rfl) ⟨rfl, rfl⟩, ?_⟩); conv => whnf) | ((with_reducible show _ ∧ _ ∧ _); (refine ⟨by omega, by omega, ?_⟩); conv => whnf) | fail)
    all_goals try (exfalso; omega)
    all_goals rfl
end Go.Proofs.YtnajpmepcffnaaaDoor
end

section
/- field: what a value changes, and what it doesn't. -/
namespace Go.Proofs.YtnajpmepcffnaaaDoor
open Go.Ve

theorem place_ok (x : Int) : PCall P 28 [.int .i64 x] (.int .i64 (placeF x)) := by
  unfold placeF
  refine PCall.of_awp tok mixed fn28 (Nat.le_of_ble_eq_true rfl) ?_
  (conv => whnf); (repeat' first | ((with_reducible refine Box.mk ?_); conv => whnf) | ((with_reducible refine And.intro (fun _ => ?_) (fun _ => ?_)) <;> conv => whnf) | ((with_reducible show AYld _ _ _ _ _); (refine AYld.of tok mixed ?_); conv => whnf) | ((with_reducible show forceH _ _); (refine (forceH_eq _ _).mpr ?_); conv => whnf) | ((with_reducible show ACall _ _ _ _ _); (refine ACall.of_pure (by assumption) (by rfl) ?_); conv => whnf) | ((with_reducible show Exists _); (refine ⟨_, ACall.of_pure (by assumption) (by rfl) ⟨rfl, rfl⟩, ?_⟩); conv => whnf) | ((with_reducible show _ ∧ _ ∧ _); (refine ⟨by omega, by omega, ?_⟩); conv => whnf) | fail)
  all_goals try (refine res1_eq (congrArg (AV.int .i64) ?_))
  · rw [if_pos (by omega), wrap_i64 (by omega) (by omega)]
  · rw [if_pos (by omega), wrap_i64 (by omega) (by omega)]
  · rw [if_neg (by omega)]
set_option maxHeartbeats 8000000 in
theorem FieldAlone_ok (f : Rc) (s t : Sc) (b c : Bs) (hb : b.length ≤ 1048576) (hc : c.length ≤ 1048576) : PCall P 6 [rcv f, sv s, sv t, .sl (bcl b), .sl (bcl c)] (.bool true) := by
  have q0 := alive15_ok
  have q1 := fSet_ok s b f (by omega)
  have q2 := fSays_ok s
  have q3 := fSays_ok t
  have q4 := place_ok (saysS s)
  have q5 := place_ok (saysS t)
  by_cases he : setE s b = 0
  · rw [he, set_ok0 he] at q1
    have p1 := fSet_ok t c (updR s b f) (by omega)
    have p2 := fSet_ok t c f (by omega)
    have p3 := fSet_ok s b (setR t c f) (by omega)
    rw [he, set_ok0 he] at p3
    have hz : saysS s = 0 → updR s b f = f := fun h => upd_zero h b f
    have hB : saysS s = 0 → setR t c (updR s b f) = setR t c f := fun h => by rw [hz h]
    have hcm : setE t c = 0 → placeF (saysS s) ≠ placeF (saysS t) → updR s b (setR t c f) = setR t c (updR s b f) := fun h1 h2 => by
      rw [set_ok0 h1, set_ok0 h1]; exact upd_comm b c f h2
    generalize updR s b (setR t c f) = U at *
    generalize setR t c (updR s b f) = B at *
    generalize setR t c f = T2 at *
    generalize updR s b f = F1 at *
    generalize setE t c = e2 at *
    generalize placeF (saysS s) = x1 at *
    generalize placeF (saysS t) = x2 at *
    generalize saysS s = y1 at *
    generalize saysS t = y2 at *
    by_cases h2 : e2 = 0
    · have hcm2 := hcm h2
      clear hcm
      subst h2
      by_cases h3 : x1 = x2
      · subst h3
        by_cases h0 : y1 = 0
        · have := hz h0
          have hB2 := hB h0
          clear hB
          subst this hB2 h0
          refine PCall.of_awp tok mixed fn6 (Nat.le_of_ble_eq_true rfl) ?_
          (conv => whnf); (repeat' first | ((with_reducible refine Box.mk ?_); conv => whnf) | ((with_reducible refine And.intro (fun _ => ?_) (fun _ => ?_)) <;> conv => whnf) | ((with_reducible show AYld _ _ _ _ _); (refine AYld.of tok mixed ?_); conv => whnf) | ((with_reducible show forceH _ _); (refine (forceH_eq _ _).mpr ?_); conv => whnf) | ((with_reducible show ACall _ _ _ _ _); (refine ACall.of_pure (by assumption) (by rfl) ?_); conv => whnf) | ((with_reducible show Exists _); (refine ⟨_, ACall.of_pure (by assumption) (by rfl) ⟨rfl, rfl⟩, ?_⟩); conv => whnf) | ((with_reducible show _ ∧ _ ∧ _); (refine ⟨by omega, by omega, ?_⟩); conv => whnf) | fail)
          all_goals try (exfalso; contradiction)
          all_goals try (rename_i hbad; exact absurd rfl hbad)
          all_goals try (rename_i hbad; exfalso; refine absurd ?_ hbad; repeat' (first | refine And.intro ?_ ?_ | rfl))
          all_goals first
            | rfl
            | (refine ⟨[], by kernel_rfl, ?_⟩
               (conv => whnf); (repeat' first | ((with_reducible refine Box.mk ?_); conv => whnf) | ((with_reducible refine And.intro (fun _ => ?_) (fun _ => ?_)) <;> conv => whnf) | ((with_reducible show AYld _ _ _ _ _); (refine AYld.of tok mixed ?_); conv => whnf) | ((with_reducible show forceH _ _); (refine (forceH_eq _ _).mpr ?_); conv => whnf) | ((with_reducible show ACall _ _ _ _ _); (refine ACall.of_pure (by assumption) (by rfl) ?_); conv => whnf) | ((with_reducible show Exists _); (refine ⟨_, ACall.of_pure (by assumption) (by rfl) ⟨rfl, rfl⟩, ?_⟩); conv => whnf) | ((with_reducible show _ ∧ _ ∧ _); (refine ⟨by omega, by omega, ?_⟩); conv => whnf) | fail)
               all_goals first
                 | rfl
                 | (exfalso; contradiction)
                 | (rename_i hbad; exact absurd rfl hbad)
                 | (rename_i hbad; exfalso; refine absurd ?_ hbad; repeat' (first | refine And.intro ?_ ?_ | rfl)))
        · clear hz hcm2 hB
          refine PCall.of_awp tok mixed fn6 (Nat.le_of_ble_eq_true rfl) ?_
          (conv => whnf); (repeat' first | ((with_reducible refine Box.mk ?_); conv => whnf) | ((with_reducible refine And.intro (fun _ => ?_) (fun _ => ?_)) <;> conv => whnf) | ((with_reducible show AYld _ _ _ _ _); (refine AYld.of tok mixed ?_); conv => whnf) | ((with_reducible show forceH _ _); (refine (forceH_eq _ _).mpr ?_); conv => whnf) | ((with_reducible show ACall _ _ _ _ _); (refine ACall.of_pure (by assumption) (by rfl) ?_); conv => whnf) | ((with_reducible show Exists _); (refine ⟨_, ACall.of_pure (by assumption) (by rfl) ⟨rfl, rfl⟩, ?_⟩); conv => whnf) | ((with_reducible show _ ∧ _ ∧ _); (refine ⟨by omega, by omega, ?_⟩); conv => whnf) | fail)
          all_goals try (exfalso; contradiction)
          all_goals try (rename_i hbad; exact absurd rfl hbad)
          all_goals try (rename_i hbad; exfalso; refine absurd ?_ hbad; repeat' (first | refine And.intro ?_ ?_ | rfl))
          all_goals first
            | rfl
            | (refine ⟨[], by kernel_rfl, ?_⟩
               (conv => whnf); (repeat' first | ((with_reducible refine Box.mk ?_); conv => whnf) | ((with_reducible refine And.intro (fun _ => ?_) (fun _ => ?_)) <;> conv => whnf) | ((with_reducible show AYld _ _ _ _ _); (refine AYld.of tok mixed ?_); conv => whnf) | ((with_reducible show forceH _ _); (refine (forceH_eq _ _).mpr ?_); conv => whnf) | ((with_reducible show ACall _ _ _ _ _); (refine ACall.of_pure (by assumption) (by rfl) ?_); conv => whnf) | ((with_reducible show Exists _); (refine ⟨_, ACall.of_pure (by assumption) (by rfl) ⟨rfl, rfl⟩, ?_⟩); conv => whnf) | ((with_reducible show _ ∧ _ ∧ _); (refine ⟨by omega, by omega, ?_⟩); conv => whnf) | fail)
               all_goals first
                 | rfl
                 | (exfalso; contradiction)
                 | (rename_i hbad; exact absurd rfl hbad)
                 | (rename_i hbad; exfalso; refine absurd ?_ hbad; repeat' (first | refine And.intro ?_ ?_ | rfl)))
      · have := hcm2 h3
        subst this
        by_cases h0 : y1 = 0
        · have := hz h0
          have hB2 := hB h0
          clear hB
          subst this hB2 h0
          refine PCall.of_awp tok mixed fn6 (Nat.le_of_ble_eq_true rfl) ?_
          (conv => whnf); (repeat' first | ((with_reducible refine Box.mk ?_); conv => whnf) | ((with_reducible refine And.intro (fun _ => ?_) (fun _ => ?_)) <;> conv => whnf) | ((with_reducible show AYld _ _ _ _ _); (refine AYld.of tok mixed ?_); conv => whnf) | ((with_reducible show forceH _ _); (refine (forceH_eq _ _).mpr ?_); conv => whnf) | ((with_reducible show ACall _ _ _ _ _); (refine ACall.of_pure (by assumption) (by rfl) ?_); conv => whnf) | ((with_reducible show Exists _); (refine ⟨_, ACall.of_pure (by assumption) (by rfl) ⟨rfl, rfl⟩, ?_⟩); conv => whnf) | ((with_reducible show _ ∧ _ ∧ _); (refine ⟨by omega, by omega, ?_⟩); conv => whnf) | fail)
          all_goals try (exfalso; contradiction)
          all_goals try (rename_i hbad; exact absurd rfl hbad)
          all_goals try (rename_i hbad; exfalso; refine absurd ?_ hbad; repeat' (first | refine And.intro ?_ ?_ | rfl))
          all_goals first
            | rfl
            | (refine ⟨[], by kernel_rfl, ?_⟩
               (conv => whnf); (repeat' first | ((with_reducible refine Box.mk ?_); conv => whnf) | ((with_reducible refine And.intro (fun _ => ?_) (fun _ => ?_)) <;> conv => whnf) | ((with_reducible show AYld _ _ _ _ _); (refine AYld.of tok mixed ?_); conv => whnf) | ((with_reducible show forceH _ _); (refine (forceH_eq _ _).mpr ?_); conv => whnf) | ((with_reducible show ACall _ _ _ _ _); (refine ACall.of_pure (by assumption) (by rfl) ?_); conv => whnf) | ((with_reducible show Exists _); (refine ⟨_, ACall.of_pure (by assumption) (by rfl) ⟨rfl, rfl⟩, ?_⟩); conv => whnf) | ((with_reducible show _ ∧ _ ∧ _); (refine ⟨by omega, by omega, ?_⟩); conv => whnf) | fail)
               all_goals first
                 | rfl
                 | (exfalso; contradiction)
                 | (rename_i hbad; exact absurd rfl hbad)
                 | (rename_i hbad; exfalso; refine absurd ?_ hbad; repeat' (first | refine And.intro ?_ ?_ | rfl)))
        · clear hz hcm2 hB
          refine PCall.of_awp tok mixed fn6 (Nat.le_of_ble_eq_true rfl) ?_
          (conv => whnf); (repeat' first | ((with_reducible refine Box.mk ?_); conv => whnf) | ((with_reducible refine And.intro (fun _ => ?_) (fun _ => ?_)) <;> conv => whnf) | ((with_reducible show AYld _ _ _ _ _); (refine AYld.of tok mixed ?_); conv => whnf) | ((with_reducible show forceH _ _); (refine (forceH_eq _ _).mpr ?_); conv => whnf) | ((with_reducible show ACall _ _ _ _ _); (refine ACall.of_pure (by assumption) (by rfl) ?_); conv => whnf) | ((with_reducible show Exists _); (refine ⟨_, ACall.of_pure (by assumption) (by rfl) ⟨rfl, rfl⟩, ?_⟩); conv => whnf) | ((with_reducible show _ ∧ _ ∧ _); (refine ⟨by omega, by omega, ?_⟩); conv => whnf) | fail)
          all_goals try (exfalso; contradiction)
          all_goals try (rename_i hbad; exact absurd rfl hbad)
          all_goals try (rename_i hbad; exfalso; refine absurd ?_ hbad; repeat' (first | refine And.intro ?_ ?_ | rfl))
          all_goals first
            | rfl
            | (refine ⟨[], by kernel_rfl, ?_⟩
               (conv => whnf); (repeat' first | ((with_reducible refine Box.mk ?_); conv => whnf) | ((with_reducible refine And.intro (fun _ => ?_) (fun _ => ?_)) <;> conv => whnf) | ((with_reducible show AYld _ _ _ _ _); (refine AYld.of tok mixed ?_); conv => whnf) | ((with_reducible show forceH _ _); (refine (forceH_eq _ _).mpr ?_); conv => whnf) | ((with_reducible show ACall _ _ _ _ _); (refine ACall.of_pure (by assumption) (by rfl) ?_); conv => whnf) | ((with_reducible show Exists _); (refine ⟨_, ACall.of_pure (by assumption) (by rfl) ⟨rfl, rfl⟩, ?_⟩); conv => whnf) | ((with_reducible show _ ∧ _ ∧ _); (refine ⟨by omega, by omega, ?_⟩); conv => whnf) | fail)
               all_goals first
                 | rfl
                 | (exfalso; contradiction)
                 | (rename_i hbad; exact absurd rfl hbad)
                 | (rename_i hbad; exfalso; refine absurd ?_ hbad; repeat' (first | refine And.intro ?_ ?_ | rfl)))
    · clear hcm
      by_cases h0 : y1 = 0
      · have := hz h0
        have hB2 := hB h0
        clear hB
        subst this hB2 h0
        refine PCall.of_awp tok mixed fn6 (Nat.le_of_ble_eq_true rfl) ?_
        (conv => whnf); (repeat' first | ((with_reducible refine Box.mk ?_); conv => whnf) | ((with_reducible refine And.intro (fun _ => ?_) (fun _ => ?_)) <;> conv => whnf) | ((with_reducible show AYld _ _ _ _ _); (refine AYld.of tok mixed ?_); conv => whnf) | ((with_reducible show forceH _ _); (refine (forceH_eq _ _).mpr ?_); conv => whnf) | ((with_reducible show ACall _ _ _ _ _); (refine ACall.of_pure (by assumption) (by rfl) ?_); conv => whnf) | ((with_reducible show Exists _); (refine ⟨_, ACall.of_pure (by assumption) (by rfl) ⟨rfl, rfl⟩, ?_⟩); conv => whnf) | ((with_reducible show _ ∧ _ ∧ _); (refine ⟨by omega, by omega, ?_⟩); conv => whnf) | fail)
        all_goals try (exfalso; contradiction)
        all_goals try (rename_i hbad; exact absurd rfl hbad)
        all_goals try (rename_i hbad; exfalso; refine absurd ?_ hbad; repeat' (first | refine And.intro ?_ ?_ | rfl))
        all_goals first
          | rfl
          | (refine ⟨[], by kernel_rfl, ?_⟩
             (conv => whnf); (repeat' first | ((with_reducible refine Box.mk ?_); conv => whnf) | ((with_reducible refine And.intro (fun _ => ?_) (fun _ => ?_)) <;> conv => whnf) | ((with_reducible show AYld _ _ _ _ _); (refine AYld.of tok mixed ?_); conv => whnf) | ((with_reducible show forceH _ _); (refine (forceH_eq _ _).mpr ?_); conv => whnf) | ((with_reducible show ACall _ _ _ _ _); (refine ACall.of_pure (by assumption) (by rfl) ?_); conv => whnf) | ((with_reducible show Exists _); (refine ⟨_, ACall.of_pure (by assumption) (by rfl) ⟨rfl, rfl⟩, ?_⟩); conv => whnf) | ((with_reducible show _ ∧ _ ∧ _); (refine ⟨by omega, by omega, ?_⟩); conv => whnf) | fail)
             all_goals first
               | rfl
               | (exfalso; contradiction)
               | (rename_i hbad; exact absurd rfl hbad)
               | (rename_i hbad; exfalso; refine absurd ?_ hbad; repeat' (first | refine And.intro ?_ ?_ | rfl)))
      · clear hz hB
        refine PCall.of_awp tok mixed fn6 (Nat.le_of_ble_eq_true rfl) ?_
        (conv => whnf); (repeat' first | ((with_reducible refine Box.mk ?_); conv => whnf) | ((with_reducible refine And.intro (fun _ => ?_) (fun _ => ?_)) <;> conv => whnf) | ((with_reducible show AYld _ _ _ _ _); (refine AYld.of tok mixed ?_); conv => whnf) | ((with_reducible show forceH _ _); (refine (forceH_eq _ _).mpr ?_); conv => whnf) | ((with_reducible show ACall _ _ _ _ _); (refine ACall.of_pure (by assumption) (by rfl) ?_); conv => whnf) | ((with_reducible show Exists _); (refine ⟨_, ACall.of_pure (by assumption) (by rfl) ⟨rfl, rfl⟩, ?_⟩); conv => whnf) | ((with_reducible show _ ∧ _ ∧ _); (refine ⟨by omega, by omega, ?_⟩); conv => whnf) | fail)
        all_goals try (exfalso; contradiction)
        all_goals try (rename_i hbad; exact absurd rfl hbad)
        all_goals try (rename_i hbad; exfalso; refine absurd ?_ hbad; repeat' (first | refine And.intro ?_ ?_ | rfl))
        all_goals first
          | rfl
          | (refine ⟨[], by kernel_rfl, ?_⟩
             (conv => whnf); (repeat' first | ((with_reducible refine Box.mk ?_); conv => whnf) | ((with_reducible refine And.intro (fun _ => ?_) (fun _ => ?_)) <;> conv => whnf) | ((with_reducible show AYld _ _ _ _ _); (refine AYld.of tok mixed ?_); conv => whnf) | ((with_reducible show forceH _ _); (refine (forceH_eq _ _).mpr ?_); conv => whnf) | ((with_reducible show ACall _ _ _ _ _); (refine ACall.of_pure (by assumption) (by rfl) ?_); conv => whnf) | ((with_reducible show Exists _); (refine ⟨_, ACall.of_pure (by assumption) (by rfl) ⟨rfl, rfl⟩, ?_⟩); conv => whnf) | ((with_reducible show _ ∧ _ ∧ _); (refine ⟨by omega, by omega, ?_⟩); conv => whnf) | fail)
             all_goals first
               | rfl
               | (exfalso; contradiction)
               | (rename_i hbad; exact absurd rfl hbad)
               | (rename_i hbad; exfalso; refine absurd ?_ hbad; repeat' (first | refine And.intro ?_ ?_ | rfl)))
  · have e1 : setR s b f = zeroR := by unfold setR; rw [if_neg he]
    rw [e1] at q1
    generalize setE s b = e at *
    refine PCall.of_awp tok mixed fn6 (Nat.le_of_ble_eq_true rfl) ?_
    (conv => whnf); (repeat' first | ((with_reducible refine Box.mk ?_); conv => whnf) | ((with_reducible refine And.intro (fun _ => ?_) (fun _ => ?_)) <;> conv => whnf) | ((with_reducible show AYld _ _ _ _ _); (refine AYld.of tok mixed ?_); conv => whnf) | ((with_reducible show forceH _ _); (refine (forceH_eq _ _).mpr ?_); conv => whnf) | ((with_reducible show ACall _ _ _ _ _); (refine ACall.of_pure (by assumption) (by rfl) ?_); conv => whnf) | ((with_reducible show Exists _); (refine ⟨_, ACall.of_pure (by assumption) (by rfl) ⟨rfl, rfl⟩, ?_⟩); conv => whnf) | ((with_reducible show _ ∧ _ ∧ _); (refine ⟨by omega, by omega, ?_⟩); conv => whnf) | fail)
    all_goals try contradiction
    all_goals first
      | rfl
      | (rename_i hbad; refine absurd ?_ hbad; repeat' (first | refine And.intro ?_ ?_ | rfl))
end Go.Proofs.YtnajpmepcffnaaaDoor
end

section
/- field: what is told of a flow, set into another. -/
namespace Go.Proofs.YtnajpmepcffnaaaDoor
open Go.Ve

theorem ofR_len (r : Rc) (s : Sc) (h0 : r.p0.path.length ≤ 1048576) (h1 : r.p1.path.length ≤ 1048576) : (ofR r s).length ≤ 1048576 := by
  have hz := szN_pos s.len
  have ht : ∀ k : Ky, k.path.length ≤ 1048576 → (textK k).length ≤ 1048576 := fun k hk => by
    unfold textK
    split
    · exact hk
    · exact Nat.zero_le _
  have hb : ∀ k kind n, n ≤ 16 → (bytesK k kind n).length ≤ 1048576 := fun k kind n hn => by rw [bytesK_len k kind n hn]; omega
  have hn : ∀ n, (numB n (szN s.len)).length ≤ 1048576 := fun n => by rw [numB_len]; omega
  unfold ofR
  repeat' split
  all_goals first
    | exact hn _
    | exact hb _ _ _ (by decide)
    | exact ht _ h0
    | exact ht _ h1
    | exact Nat.zero_le _
structure RSm2 (r : Rc) : Prop where
  a0 : r.a0.n < 2 ^ 128 ∧ r.a0.path.length ≤ 1048576
  a1 : r.a1.n < 2 ^ 128 ∧ r.a1.path.length ≤ 1048576
  p0 : r.p0.n < 2 ^ 128 ∧ r.p0.path.length ≤ 1048576
  p1 : r.p1.n < 2 ^ 128 ∧ r.p1.path.length ≤ 1048576
theorem RSm2.small {r : Rc} (h : RSm2 r) : RSm r := ⟨⟨h.a0.1, by have := h.a0.2; omega⟩, ⟨h.a1.1, by have := h.a1.2; omega⟩, ⟨h.p0.1, by have := h.p0.2; omega⟩, ⟨h.p1.1, by have := h.p1.2; omega⟩⟩
theorem addrK_small {v : Bs} (h : v.length = 4 ∨ v.length = 16) : (addrK v).n < 2 ^ 128 ∧ (addrK v).path.length ≤ 1048576 := by
  have hv := valB_lt v
  unfold addrK
  rcases h with h | h
  · rw [if_pos h]
    rw [h] at hv
    refine ⟨?_, Nat.zero_le _⟩
    show valB v * 2 ^ 96 < 2 ^ 128
    have : (2 : Nat) ^ 128 = 2 ^ 32 * 2 ^ 96 := by decide
    rw [this]
    exact Nat.mul_lt_mul_of_pos_right hv (Nat.two_pow_pos 96)
  · rw [if_neg (by omega)]
    rw [h] at hv
    exact ⟨hv, Nat.zero_le _⟩
theorem upd_small {s : Sc} {v : Bs} {g : Rc} (h : setE s v = 0) (hv : v.length ≤ 1048576) (hg : RSm2 g) : RSm2 (updR s v g) := by
  obtain ⟨g1, g2, g3, g4⟩ := hg
  unfold setE at h
  have hl : ¬ (saysS s = -1 ∨ s.len ≠ 65535 ∧ (v.length : Int) ≠ s.len) := fun hc => by rw [if_pos hc] at h; cases h
  have hp : (ofPathK (pathT s v)).n < 2 ^ 128 ∧ (ofPathK (pathT s v)).path.length ≤ 1048576 := ⟨Nat.two_pow_pos 128, Nat.le_trans (pathT_len s v) hv⟩
  unfold updR
  rcases says_cases s with hs | hs | ⟨_, hs | hs | hs | hs | hs | hs | hs | hs⟩
  · omega
  · rw [hs]; exact ⟨g1, g2, g3, g4⟩
  · rw [hs.1]; exact ⟨g1, g2, g3, g4⟩
  · rw [hs.1]; exact ⟨g1, g2, g3, g4⟩
  · have := addrK_small (v := v) (.inl (by omega))
    rw [hs.1]; exact ⟨this, g2, g3, g4⟩
  · have := addrK_small (v := v) (.inl (by omega))
    rw [hs.1]; exact ⟨g1, this, g3, g4⟩
  · have := addrK_small (v := v) (.inr (by omega))
    rw [hs.1]; exact ⟨this, g2, g3, g4⟩
  · have := addrK_small (v := v) (.inr (by omega))
    rw [hs.1]; exact ⟨g1, this, g3, g4⟩
  · rw [hs]; exact ⟨g1, g2, hp, g4⟩
  · rw [hs]; exact ⟨g1, g2, g3, hp⟩
set_option maxHeartbeats 8000000 in
theorem FieldCopies_ok (f g : Rc) (s : Sc) (hf : RSm2 f) (hg : RSm2 g) : PCall P 7 [rcv f, rcv g, sv s] (.bool true) := by
  have q0 := alive15_ok
  have hvl := ofR_len f s hf.p0.2 hf.p1.2
  have q1 := fOf_ok f s (by have := hf.p0.2; omega) (by have := hf.p1.2; omega)
  have q2 := fFlowRight_ok f hf.small
  have q3 := fSays_ok s
  by_cases h1 : 1 ≤ saysS s
  · by_cases hl : s.len ≠ 65535 → ((ofR f s).length : Int) = s.len
    · have he := set_copy f h1 hl
      have hh := upd_small he hvl hg
      have p1 := fSet_ok s (ofR f s) g (by omega)
      rw [he, set_ok0 he] at p1
      have p2 := fSet_ok s (ofR f s) (updR s (ofR f s) g) (by omega)
      rw [he, set_ok0 he, upd_idem] at p2
      have p3 := fOf_ok (updR s (ofR f s) g) s (by have := hh.p0.2; omega) (by have := hh.p1.2; omega)
      rw [of_copy f g h1] at p3
      have p4 := fFlowRight_ok (updR s (ofR f s) g) hh.small
      have p5 := fFlowRight_ok g hg.small
      have hr : rightR g = true → rightR (updR s (ofR f s) g) = true := right_upd he
      generalize updR s (ofR f s) g = h at *
      generalize ofR f s = v at *
      generalize rightR f = b1 at *
      generalize rightR g = b2 at *
      generalize rightR h = b3 at *
      have hbl := bcl_len v
      cases b1
      · refine PCall.of_awp tok mixed fn7 (Nat.le_of_ble_eq_true rfl) ?_
        (conv => whnf); (repeat' first | ((with_reducible refine Box.mk ?_); conv => whnf) | ((with_reducible refine And.intro (fun _ => ?_) (fun _ => ?_)) <;> conv => whnf) | ((with_reducible show AYld _ _ _ _ _); (refine AYld.of tok mixed ?_); conv => whnf) | ((with_reducible show forceH _ _); (refine (forceH_eq _ _).mpr ?_); conv => whnf) | ((with_reducible show ACall _ _ _ _ _); (refine ACall.of_pure (by assumption) (by rfl) ?_); conv => whnf) | ((with_reducible show Exists _); (refine ⟨_, ACall.of_pure (by assumption) (by rfl) ⟨rfl, rfl⟩, ?_⟩); conv => whnf) | ((with_reducible show _ ∧ _ ∧ _); (refine ⟨by omega, by omega, ?_⟩); conv => whnf) | fail)
        refine aW [] q1 rfl rfl rfl ?_
        (conv => whnf); (repeat' first | ((with_reducible refine Box.mk ?_); conv => whnf) | ((with_reducible refine And.intro (fun _ => ?_) (fun _ => ?_)) <;> conv => whnf) | ((with_reducible show AYld _ _ _ _ _); (refine AYld.of tok mixed ?_); conv => whnf) | ((with_reducible show forceH _ _); (refine (forceH_eq _ _).mpr ?_); conv => whnf) | ((with_reducible show ACall _ _ _ _ _); (refine ACall.of_pure (by assumption) (by rfl) ?_); conv => whnf) | ((with_reducible show Exists _); (refine ⟨_, ACall.of_pure (by assumption) (by rfl) ⟨rfl, rfl⟩, ?_⟩); conv => whnf) | ((with_reducible show _ ∧ _ ∧ _); (refine ⟨by omega, by omega, ?_⟩); conv => whnf) | fail)
        all_goals rfl
      · cases b3
        · have hb2 : b2 = false := by
            cases b2
            · rfl
            · exact absurd (hr rfl) (by decide)
          subst hb2
          refine PCall.of_awp tok mixed fn7 (Nat.le_of_ble_eq_true rfl) ?_
          (conv => whnf); (repeat' first | ((with_reducible refine Box.mk ?_); conv => whnf) | ((with_reducible refine And.intro (fun _ => ?_) (fun _ => ?_)) <;> conv => whnf) | ((with_reducible show AYld _ _ _ _ _); (refine AYld.of tok mixed ?_); conv => whnf) | ((with_reducible show forceH _ _); (refine (forceH_eq _ _).mpr ?_); conv => whnf) | ((with_reducible show ACall _ _ _ _ _); (refine ACall.of_pure (by assumption) (by rfl) ?_); conv => whnf) | ((with_reducible show Exists _); (refine ⟨_, ACall.of_pure (by assumption) (by rfl) ⟨rfl, rfl⟩, ?_⟩); conv => whnf) | ((with_reducible show _ ∧ _ ∧ _); (refine ⟨by omega, by omega, ?_⟩); conv => whnf) | fail)
          refine aW [] q1 rfl rfl rfl ?_
          (conv => whnf); (repeat' first | ((with_reducible refine Box.mk ?_); conv => whnf) | ((with_reducible refine And.intro (fun _ => ?_) (fun _ => ?_)) <;> conv => whnf) | ((with_reducible show AYld _ _ _ _ _); (refine AYld.of tok mixed ?_); conv => whnf) | ((with_reducible show forceH _ _); (refine (forceH_eq _ _).mpr ?_); conv => whnf) | ((with_reducible show ACall _ _ _ _ _); (refine ACall.of_pure (by assumption) (by rfl) ?_); conv => whnf) | ((with_reducible show Exists _); (refine ⟨_, ACall.of_pure (by assumption) (by rfl) ⟨rfl, rfl⟩, ?_⟩); conv => whnf) | ((with_reducible show _ ∧ _ ∧ _); (refine ⟨by omega, by omega, ?_⟩); conv => whnf) | fail)
          all_goals try (exfalso; omega)
          all_goals (
            refine ⟨[], by kernel_rfl, ?_⟩
            (conv => whnf); (repeat' first | ((with_reducible refine Box.mk ?_); conv => whnf) | ((with_reducible refine And.intro (fun _ => ?_) (fun _ => ?_)) <;> conv => whnf) | ((with_reducible show AYld _ _ _ _ _); (refine AYld.of tok mixed ?_); conv => whnf) | ((with_reducible show forceH _ _); (refine (forceH_eq _ _).mpr ?_); conv => whnf) | ((with_reducible show ACall _ _ _ _ _); (refine ACall.of_pure (by assumption) (by rfl) ?_); conv => whnf) | ((with_reducible show Exists _); (refine ⟨_, ACall.of_pure (by assumption) (by rfl) ⟨rfl, rfl⟩, ?_⟩); conv => whnf) | ((with_reducible show _ ∧ _ ∧ _); (refine ⟨by omega, by omega, ?_⟩); conv => whnf) | fail)
            all_goals try (exfalso; contradiction)
            all_goals try (rename_i hbad; refine absurd ?_ hbad; repeat' (first | refine And.intro ?_ ?_ | rfl))
            refine aDr [] p3 rfl rfl rfl rfl ?_
            (conv => whnf); (repeat' first | ((with_reducible refine Box.mk ?_); conv => whnf) | ((with_reducible refine And.intro (fun _ => ?_) (fun _ => ?_)) <;> conv => whnf) | ((with_reducible show AYld _ _ _ _ _); (refine AYld.of tok mixed ?_); conv => whnf) | ((with_reducible show forceH _ _); (refine (forceH_eq _ _).mpr ?_); conv => whnf) | ((with_reducible show ACall _ _ _ _ _); (refine ACall.of_pure (by assumption) (by rfl) ?_); conv => whnf) | ((with_reducible show Exists _); (refine ⟨_, ACall.of_pure (by assumption) (by rfl) ⟨rfl, rfl⟩, ?_⟩); conv => whnf) | ((with_reducible show _ ∧ _ ∧ _); (refine ⟨by omega, by omega, ?_⟩); conv => whnf) | fail)
            refine ⟨_, rfl, ?_⟩
            (conv => whnf); (repeat' first | ((with_reducible refine Box.mk ?_); conv => whnf) | ((with_reducible refine And.intro (fun _ => ?_) (fun _ => ?_)) <;> conv => whnf) | ((with_reducible show AYld _ _ _ _ _); (refine AYld.of tok mixed ?_); conv => whnf) | ((with_reducible show forceH _ _); (refine (forceH_eq _ _).mpr ?_); conv => whnf) | ((with_reducible show ACall _ _ _ _ _); (refine ACall.of_pure (by assumption) (by rfl) ?_); conv => whnf) | ((with_reducible show Exists _); (refine ⟨_, ACall.of_pure (by assumption) (by rfl) ⟨rfl, rfl⟩, ?_⟩); conv => whnf) | ((with_reducible show _ ∧ _ ∧ _); (refine ⟨by omega, by omega, ?_⟩); conv => whnf) | fail)
            refine ⟨_, rfl, ?_⟩
            (conv => whnf); (repeat' first | ((with_reducible refine Box.mk ?_); conv => whnf) | ((with_reducible refine And.intro (fun _ => ?_) (fun _ => ?_)) <;> conv => whnf) | ((with_reducible show AYld _ _ _ _ _); (refine AYld.of tok mixed ?_); conv => whnf) | ((with_reducible show forceH _ _); (refine (forceH_eq _ _).mpr ?_); conv => whnf) | ((with_reducible show ACall _ _ _ _ _); (refine ACall.of_pure (by assumption) (by rfl) ?_); conv => whnf) | ((with_reducible show Exists _); (refine ⟨_, ACall.of_pure (by assumption) (by rfl) ⟨rfl, rfl⟩, ?_⟩); conv => whnf) | ((with_reducible show _ ∧ _ ∧ _); (refine ⟨by omega, by omega, ?_⟩); conv => whnf) | fail)
            all_goals try (rename_i hbad; exact absurd rfl hbad)
            all_goals rfl)
        · refine PCall.of_awp tok mixed fn7 (Nat.le_of_ble_eq_true rfl) ?_
          (conv => whnf); (repeat' first | ((with_reducible refine Box.mk ?_); conv => whnf) | ((with_reducible refine And.intro (fun _ => ?_) (fun _ => ?_)) <;> conv => whnf) | ((with_reducible show AYld _ _ _ _ _); (refine AYld.of tok mixed ?_); conv => whnf) | ((with_reducible show forceH _ _); (refine (forceH_eq _ _).mpr ?_); conv => whnf) | ((with_reducible show ACall _ _ _ _ _); (refine ACall.of_pure (by assumption) (by rfl) ?_); conv => whnf) | ((with_reducible show Exists _); (refine ⟨_, ACall.of_pure (by assumption) (by rfl) ⟨rfl, rfl⟩, ?_⟩); conv => whnf) | ((with_reducible show _ ∧ _ ∧ _); (refine ⟨by omega, by omega, ?_⟩); conv => whnf) | fail)
          refine aW [] q1 rfl rfl rfl ?_
          (conv => whnf); (repeat' first | ((with_reducible refine Box.mk ?_); conv => whnf) | ((with_reducible refine And.intro (fun _ => ?_) (fun _ => ?_)) <;> conv => whnf) | ((with_reducible show AYld _ _ _ _ _); (refine AYld.of tok mixed ?_); conv => whnf) | ((with_reducible show forceH _ _); (refine (forceH_eq _ _).mpr ?_); conv => whnf) | ((with_reducible show ACall _ _ _ _ _); (refine ACall.of_pure (by assumption) (by rfl) ?_); conv => whnf) | ((with_reducible show Exists _); (refine ⟨_, ACall.of_pure (by assumption) (by rfl) ⟨rfl, rfl⟩, ?_⟩); conv => whnf) | ((with_reducible show _ ∧ _ ∧ _); (refine ⟨by omega, by omega, ?_⟩); conv => whnf) | fail)
          all_goals try (exfalso; omega)
          all_goals (
            refine ⟨[], by kernel_rfl, ?_⟩
            (conv => whnf); (repeat' first | ((with_reducible refine Box.mk ?_); conv => whnf) | ((with_reducible refine And.intro (fun _ => ?_) (fun _ => ?_)) <;> conv => whnf) | ((with_reducible show AYld _ _ _ _ _); (refine AYld.of tok mixed ?_); conv => whnf) | ((with_reducible show forceH _ _); (refine (forceH_eq _ _).mpr ?_); conv => whnf) | ((with_reducible show ACall _ _ _ _ _); (refine ACall.of_pure (by assumption) (by rfl) ?_); conv => whnf) | ((with_reducible show Exists _); (refine ⟨_, ACall.of_pure (by assumption) (by rfl) ⟨rfl, rfl⟩, ?_⟩); conv => whnf) | ((with_reducible show _ ∧ _ ∧ _); (refine ⟨by omega, by omega, ?_⟩); conv => whnf) | fail)
            all_goals try (exfalso; contradiction)
            all_goals try (rename_i hbad; refine absurd ?_ hbad; repeat' (first | refine And.intro ?_ ?_ | rfl))
            refine aDr [] p3 rfl rfl rfl rfl ?_
            (conv => whnf); (repeat' first | ((with_reducible refine Box.mk ?_); conv => whnf) | ((with_reducible refine And.intro (fun _ => ?_) (fun _ => ?_)) <;> conv => whnf) | ((with_reducible show AYld _ _ _ _ _); (refine AYld.of tok mixed ?_); conv => whnf) | ((with_reducible show forceH _ _); (refine (forceH_eq _ _).mpr ?_); conv => whnf) | ((with_reducible show ACall _ _ _ _ _); (refine ACall.of_pure (by assumption) (by rfl) ?_); conv => whnf) | ((with_reducible show Exists _); (refine ⟨_, ACall.of_pure (by assumption) (by rfl) ⟨rfl, rfl⟩, ?_⟩); conv => whnf) | ((with_reducible show _ ∧ _ ∧ _); (refine ⟨by omega, by omega, ?_⟩); conv => whnf) | fail)
            refine ⟨_, rfl, ?_⟩
            (conv => whnf); (repeat' first | ((with_reducible refine Box.mk ?_); conv => whnf) | ((with_reducible refine And.intro (fun _ => ?_) (fun _ => ?_)) <;> conv => whnf) | ((with_reducible show AYld _ _ _ _ _); (refine AYld.of tok mixed ?_); conv => whnf) | ((with_reducible show forceH _ _); (refine (forceH_eq _ _).mpr ?_); conv => whnf) | ((with_reducible show ACall _ _ _ _ _); (refine ACall.of_pure (by assumption) (by rfl) ?_); conv => whnf) | ((with_reducible show Exists _); (refine ⟨_, ACall.of_pure (by assumption) (by rfl) ⟨rfl, rfl⟩, ?_⟩); conv => whnf) | ((with_reducible show _ ∧ _ ∧ _); (refine ⟨by omega, by omega, ?_⟩); conv => whnf) | fail)
            refine ⟨_, rfl, ?_⟩
            (conv => whnf); (repeat' first | ((with_reducible refine Box.mk ?_); conv => whnf) | ((with_reducible refine And.intro (fun _ => ?_) (fun _ => ?_)) <;> conv => whnf) | ((with_reducible show AYld _ _ _ _ _); (refine AYld.of tok mixed ?_); conv => whnf) | ((with_reducible show forceH _ _); (refine (forceH_eq _ _).mpr ?_); conv => whnf) | ((with_reducible show ACall _ _ _ _ _); (refine ACall.of_pure (by assumption) (by rfl) ?_); conv => whnf) | ((with_reducible show Exists _); (refine ⟨_, ACall.of_pure (by assumption) (by rfl) ⟨rfl, rfl⟩, ?_⟩); conv => whnf) | ((with_reducible show _ ∧ _ ∧ _); (refine ⟨by omega, by omega, ?_⟩); conv => whnf) | fail)
            all_goals try (rename_i hbad; exact absurd rfl hbad)
            all_goals rfl)
    · generalize ofR f s = v at *
      generalize rightR f = b1 at *
      have hbl := bcl_len v
      have hl1 : s.len ≠ 65535 := fun h => hl fun hc => absurd h hc
      have hl2 : (v.length : Int) ≠ s.len := fun h => hl fun _ => h
      cases b1
      all_goals (
        refine PCall.of_awp tok mixed fn7 (Nat.le_of_ble_eq_true rfl) ?_
        (conv => whnf); (repeat' first | ((with_reducible refine Box.mk ?_); conv => whnf) | ((with_reducible refine And.intro (fun _ => ?_) (fun _ => ?_)) <;> conv => whnf) | ((with_reducible show AYld _ _ _ _ _); (refine AYld.of tok mixed ?_); conv => whnf) | ((with_reducible show forceH _ _); (refine (forceH_eq _ _).mpr ?_); conv => whnf) | ((with_reducible show ACall _ _ _ _ _); (refine ACall.of_pure (by assumption) (by rfl) ?_); conv => whnf) | ((with_reducible show Exists _); (refine ⟨_, ACall.of_pure (by assumption) (by rfl) ⟨rfl, rfl⟩, ?_⟩); conv => whnf) | ((with_reducible show _ ∧ _ ∧ _); (refine ⟨by omega, by omega, ?_⟩); conv => whnf) | fail)
        refine aW [] q1 rfl rfl rfl ?_
        (conv => whnf); (repeat' first | ((with_reducible refine Box.mk ?_); conv => whnf) | ((with_reducible refine And.intro (fun _ => ?_) (fun _ => ?_)) <;> conv => whnf) | ((with_reducible show AYld _ _ _ _ _); (refine AYld.of tok mixed ?_); conv => whnf) | ((with_reducible show forceH _ _); (refine (forceH_eq _ _).mpr ?_); conv => whnf) | ((with_reducible show ACall _ _ _ _ _); (refine ACall.of_pure (by assumption) (by rfl) ?_); conv => whnf) | ((with_reducible show Exists _); (refine ⟨_, ACall.of_pure (by assumption) (by rfl) ⟨rfl, rfl⟩, ?_⟩); conv => whnf) | ((with_reducible show _ ∧ _ ∧ _); (refine ⟨by omega, by omega, ?_⟩); conv => whnf) | fail)
        all_goals try (exfalso; omega)
        all_goals rfl)
  · generalize ofR f s = v at *
    generalize rightR f = b1 at *
    generalize saysS s = y at *
    cases b1
    all_goals (
      refine PCall.of_awp tok mixed fn7 (Nat.le_of_ble_eq_true rfl) ?_
      (conv => whnf); (repeat' first | ((with_reducible refine Box.mk ?_); conv => whnf) | ((with_reducible refine And.intro (fun _ => ?_) (fun _ => ?_)) <;> conv => whnf) | ((with_reducible show AYld _ _ _ _ _); (refine AYld.of tok mixed ?_); conv => whnf) | ((with_reducible show forceH _ _); (refine (forceH_eq _ _).mpr ?_); conv => whnf) | ((with_reducible show ACall _ _ _ _ _); (refine ACall.of_pure (by assumption) (by rfl) ?_); conv => whnf) | ((with_reducible show Exists _); (refine ⟨_, ACall.of_pure (by assumption) (by rfl) ⟨rfl, rfl⟩, ?_⟩); conv => whnf) | ((with_reducible show _ ∧ _ ∧ _); (refine ⟨by omega, by omega, ?_⟩); conv => whnf) | fail)
      refine aW [] q1 rfl rfl rfl ?_
      (conv => whnf); (repeat' first | ((with_reducible refine Box.mk ?_); conv => whnf) | ((with_reducible refine And.intro (fun _ => ?_) (fun _ => ?_)) <;> conv => whnf) | ((with_reducible show AYld _ _ _ _ _); (refine AYld.of tok mixed ?_); conv => whnf) | ((with_reducible show forceH _ _); (refine (forceH_eq _ _).mpr ?_); conv => whnf) | ((with_reducible show ACall _ _ _ _ _); (refine ACall.of_pure (by assumption) (by rfl) ?_); conv => whnf) | ((with_reducible show Exists _); (refine ⟨_, ACall.of_pure (by assumption) (by rfl) ⟨rfl, rfl⟩, ?_⟩); conv => whnf) | ((with_reducible show _ ∧ _ ∧ _); (refine ⟨by omega, by omega, ?_⟩); conv => whnf) | fail)
      all_goals try (exfalso; omega)
      all_goals rfl)
end Go.Proofs.YtnajpmepcffnaaaDoor
end

section
/- key: arguments read as data. -/
namespace Go.Proofs.YtnajpmepcffnaaaDoor
open Go.Ve

theorem lit_rng {k : IntKind} {n : Int} (h : (Lit.int k n).wf = true) : k.min ≤ n ∧ n ≤ k.max := by
  simpa [Lit.wf] using h
theorem u64_lit {n : Int} (h : (Lit.int .u64 n).wf = true) : ∃ m : Nat, n = (m : Int) ∧ m < H64 := by
  have h1 : (0 : Int) ≤ n ∧ n ≤ 18446744073709551615 := lit_rng h
  exact ⟨n.toNat, by omega, by show n.toNat < 18446744073709551616; omega⟩
theorem u32_lit {n : Int} (h : (Lit.int .u32 n).wf = true) : ∃ m : Nat, n = (m : Int) ∧ m < 4294967296 := by
  have h1 : (0 : Int) ≤ n ∧ n ≤ 4294967295 := lit_rng h
  exact ⟨n.toNat, by omega, by omega⟩
theorem i64_lit {n : Int} (h : (Lit.int .i64 n).wf = true) : -9223372036854775808 ≤ n ∧ n ≤ 9223372036854775807 := lit_rng h
theorem halvesA {a b : Nat} (hb : b < H64) : (a * H64 + b) / H64 = a ∧ (a * H64 + b) % H64 = b := by
  refine ⟨?_, ?_⟩
  · rw [Nat.mul_comm, Nat.mul_add_div (by decide), Nat.div_eq_of_lt hb, Nat.add_zero]
  · rw [Nat.mul_comm, Nat.mul_add_mod, Nat.mod_eq_of_lt hb]
theorem halves_lt {a b : Nat} (ha : a < H64) (hb : b < H64) : a * H64 + b < 2 ^ 128 := by
  have h1 : (a + 1) * H64 ≤ H64 * H64 := Nat.mul_le_mul_right _ ha
  rw [hh, Nat.add_mul, Nat.one_mul] at h1
  omega
theorem wide_inv {B : Nat} {x : AV} (h : WfV ty B 92 x) : ∃ W : Nat, x = wv W ∧ W < 2 ^ 128 := by
  obtain ⟨xs, rfl, h1⟩ := h.struct_inv rfl
  obtain ⟨x1, r1, rfl, ha, h2⟩ := h1.cons_inv
  obtain ⟨x2, r2, rfl, hb, h3⟩ := h2.cons_inv
  obtain rfl := h3.nil_inv
  obtain ⟨a', rfl, ha2⟩ := ha.int_inv rfl
  obtain ⟨b', rfl, hb2⟩ := hb.int_inv rfl
  obtain ⟨a, rfl, ha3⟩ := u64_lit ha2
  obtain ⟨b, rfl, hb3⟩ := u64_lit hb2
  obtain ⟨e1, e2⟩ := halvesA (a := a) hb3
  exact ⟨a * H64 + b, by unfold wv; rw [e1, e2]; rfl, halves_lt ha3 hb3⟩
/-- A key as data. -/
structure KOk (B : Nat) (k : Ky) : Prop where
  n : k.n < 2 ^ 128
  path : k.path.length ≤ B
  kind : -9223372036854775808 ≤ k.kind ∧ k.kind ≤ 9223372036854775807
  len : -9223372036854775808 ≤ k.len ∧ k.len ≤ 9223372036854775807
theorem key_wf {B : Nat} {xs : List AV} (h : Wf ty B 55 xs) : ∃ k : Ky, xs = [.int .i64 k.kind, .int .i64 k.len, .int .u64 ((k.n / H64 : Nat) : Int), .int .u64 ((k.n % H64 : Nat) : Int), .str k.path] ∧ KOk B k := by
  have h0 := h.struct_inv rfl
  obtain ⟨x1, r1, rfl, hk, h1⟩ := h0.cons_inv
  obtain ⟨x2, r2, rfl, hl, h2⟩ := h1.cons_inv
  obtain ⟨x3, r3, rfl, ha, h3⟩ := h2.cons_inv
  obtain ⟨x4, r4, rfl, hb, h4⟩ := h3.cons_inv
  obtain ⟨x5, r5, rfl, hp, h5⟩ := h4.cons_inv
  obtain rfl := h5.nil_inv
  obtain ⟨kd, rfl, hk2⟩ := hk.int_inv rfl
  obtain ⟨ln, rfl, hl2⟩ := hl.int_inv rfl
  obtain ⟨a', rfl, ha2⟩ := ha.int_inv rfl
  obtain ⟨b', rfl, hb2⟩ := hb.int_inv rfl
  obtain ⟨p, rfl, hp2⟩ := hp.str_inv rfl
  obtain ⟨a, rfl, ha3⟩ := u64_lit ha2
  obtain ⟨b, rfl, hb3⟩ := u64_lit hb2
  obtain ⟨e1, e2⟩ := halvesA (a := a) hb3
  exact ⟨⟨kd, ln, a * H64 + b, p⟩, by show _ = [_, _, AV.int _ (((a * H64 + b) / H64 : Nat) : Int), AV.int _ (((a * H64 + b) % H64 : Nat) : Int), _]; rw [e1, e2]; rfl, halves_lt ha3 hb3, hp2, i64_lit hk2, i64_lit hl2⟩
theorem key_inv {B : Nat} {x : AV} (h : WfV ty B 55 x) : ∃ k : Ky, x = kv k ∧ KOk B k := by
  obtain ⟨i, xs, h1, h2, h3⟩ := h
  obtain ⟨k, rfl, hk⟩ := key_wf h2
  rcases h3 with ⟨_, rfl⟩ | ⟨ha, _⟩
  · exact ⟨k, rfl, hk⟩
  · cases h1; cases ha
end Go.Proofs.YtnajpmepcffnaaaDoor
end

section
/- field: arguments read as data. -/
namespace Go.Proofs.YtnajpmepcffnaaaDoor
open Go.Ve

theorem bytes_inv {B : Nat} : ∀ (es : List (List AV)), (∀ c ∈ es, Wf ty B 5 c) → ∃ l : Bs, es = bcl l
  | [], _ => ⟨[], rfl⟩
  | c :: r, h => by
    obtain ⟨l, hl⟩ := bytes_inv r fun c hc => h c (List.mem_cons_of_mem _ hc)
    obtain ⟨n, rfl, hw⟩ := (h c List.mem_cons_self).int_inv (k := .u8) rfl
    have h2 : (0 : Int) ≤ n ∧ n ≤ 255 := by
      have := hw
      simp [Lit.wf] at this
      rw [show IntKind.u8.min = 0 from rfl, show IntKind.u8.max = 255 from rfl] at this
      exact this
    refine ⟨UInt8.ofNat n.toNat :: l, ?_⟩
    have e : ((UInt8.ofNat n.toNat).toNat : Int) = n := by
      show (((n.toNat % 256 : Nat)) : Int) = n
      omega
    rw [hl]
    show _ = [AV.int .u8 ((UInt8.ofNat n.toNat).toNat : Int)] :: bcl l
    rw [e]
theorem bs_inv {B : Nat} {x : AV} (h : WfV ty B 23 x) : ∃ l : Bs, mpA nlN x = .sl (bcl l) ∧ l.length ≤ B := by
  rcases h.slice_inv rfl with rfl | ⟨es, rfl, hl, he⟩
  · exact ⟨[], rfl, Nat.zero_le _⟩
  · obtain ⟨l, rfl⟩ := bytes_inv es he
    exact ⟨l, rfl, by rw [bcl_len] at hl; exact hl⟩
theorem spec_wf {B : Nat} {xs : List AV} (h : Wf ty B 30 xs) : ∃ s : Sc, xs = scc s ∧ EntOk s := by
  have h0 := h.struct_inv rfl
  obtain ⟨x1, r1, rfl, g1, h1⟩ := h0.cons_inv
  obtain ⟨x2, r2, rfl, g2, h2⟩ := h1.cons_inv
  obtain ⟨x3, r3, rfl, g3, h3⟩ := h2.cons_inv
  obtain rfl := h3.nil_inv
  obtain ⟨id, rfl, _⟩ := g1.int_inv rfl
  obtain ⟨e, rfl, he⟩ := g2.int_inv rfl
  obtain ⟨n, rfl, _⟩ := g3.int_inv rfl
  obtain ⟨m, rfl, hm⟩ := u32_lit he
  exact ⟨⟨id, m, n⟩, rfl, by unfold EntOk; dsimp only; omega⟩
theorem spec_inv {B : Nat} {x : AV} (h : WfV ty B 30 x) : ∃ s : Sc, x = sv s ∧ EntOk s := by
  obtain ⟨i, xs, h1, h2, h3⟩ := h
  obtain ⟨s, rfl, hs⟩ := spec_wf h2
  rcases h3 with ⟨_, rfl⟩ | ⟨ha, _⟩
  · exact ⟨s, rfl, hs⟩
  · cases h1; cases ha
theorem specs_inv {B : Nat} : ∀ (es : List (List AV)), (∀ c ∈ es, Wf ty B 30 c) → ∃ l : List Sc, es = scl l ∧ ∀ p ∈ l, EntOk p
  | [], _ => ⟨[], rfl, fun p hp => by cases hp⟩
  | c :: r, h => by
    obtain ⟨l, rfl, hl⟩ := specs_inv r fun c hc => h c (List.mem_cons_of_mem _ hc)
    obtain ⟨p, rfl, hp⟩ := spec_wf (h c List.mem_cons_self)
    exact ⟨p :: l, rfl, fun q hq => by
      rcases List.mem_cons.1 hq with rfl | hq
      · exact hp
      · exact hl q hq⟩
structure ROk (B : Nat) (r : Rc) : Prop where
  a0 : KOk B r.a0
  a1 : KOk B r.a1
  p0 : KOk B r.p0
  p1 : KOk B r.p1
theorem ROk.small {r : Rc} (h : ROk 1048576 r) : RSm2 r := ⟨⟨h.a0.n, h.a0.path⟩, ⟨h.a1.n, h.a1.path⟩, ⟨h.p0.n, h.p0.path⟩, ⟨h.p1.n, h.p1.path⟩⟩
theorem rec_inv {B : Nat} {x : AV} (h : WfV ty B 58 x) : ∃ r : Rc, x = rcv r ∧ ROk B r := by
  obtain ⟨xs, rfl, h0⟩ := h.struct_inv rfl
  obtain ⟨x1, r1, rfl, g1, h1⟩ := h0.cons_inv
  obtain ⟨x2, r2, rfl, g2, h2⟩ := h1.cons_inv
  obtain ⟨x3, r3, rfl, g3, h3⟩ := h2.cons_inv
  obtain ⟨x4, r4, rfl, g4, h4⟩ := h3.cons_inv
  obtain rfl := h4.nil_inv
  have a0 := g1.arr_inv rfl
  obtain ⟨y1, s1, rfl, k1, a1⟩ := a0.cons_inv
  obtain ⟨y2, s2, rfl, k2, a2⟩ := a1.cons_inv
  obtain rfl := a2.nil_inv
  have p0 := g2.arr_inv rfl
  obtain ⟨z1, t1, rfl, l1, p1⟩ := p0.cons_inv
  obtain ⟨z2, t2, rfl, l2, p2⟩ := p1.cons_inv
  obtain rfl := p2.nil_inv
  obtain ⟨n1, rfl, hn1⟩ := g3.int_inv rfl
  obtain ⟨n2, rfl, hn2⟩ := g4.int_inv rfl
  obtain ⟨m1, rfl, hm1⟩ := u64_lit hn1
  obtain ⟨m2, rfl, hm2⟩ := u64_lit hn2
  obtain ⟨ka, rfl, va⟩ := key_wf k1
  obtain ⟨kb, rfl, vb⟩ := key_wf k2
  obtain ⟨kc, rfl, vc⟩ := key_wf l1
  obtain ⟨kd, rfl, vd⟩ := key_wf l2
  exact ⟨⟨ka, kb, kc, kd, m1, m2⟩, rfl, va, vb, vc, vd⟩
theorem FieldSpecs_args (xs : List AV) (h : WfA ty 1048576 [22, 23] xs) : PCall P 3 xs (.bool true) := by
  obtain ⟨y1, r1, rfl, g1, h1⟩ := h.cons_inv
  obtain ⟨y2, r2, rfl, g2, h2⟩ := h1.cons_inv
  obtain rfl := h2.nil_inv
  obtain ⟨b, eb, hb⟩ := bs_inv g2
  refine PCall.nils ?_
  show PCall P _ [mpA nlN y1, mpA nlN y2] _
  rw [eb]
  rcases g1.slice_inv rfl with rfl | ⟨es, rfl, hl, he⟩
  · exact FieldSpecs_ok [] (fun p hp => by cases hp) (Nat.zero_le _) b hb
  · obtain ⟨l, rfl, hs⟩ := specs_inv es he
    exact FieldSpecs_ok l hs (by rw [scl_len] at hl; exact hl) b hb
theorem FieldValues_args (xs : List AV) (h : WfA ty 1048576 [30, 23, 23] xs) : PCall P 4 xs (.bool true) := by
  obtain ⟨y1, r1, rfl, g1, h1⟩ := h.cons_inv
  obtain ⟨y2, r2, rfl, g2, h2⟩ := h1.cons_inv
  obtain ⟨y3, r3, rfl, g3, h3⟩ := h2.cons_inv
  obtain rfl := h3.nil_inv
  obtain ⟨s, rfl, hs⟩ := spec_inv g1
  obtain ⟨b, eb, hb⟩ := bs_inv g2
  obtain ⟨v, ev, hv⟩ := bs_inv g3
  refine PCall.nils ?_
  show PCall P _ [sv s, mpA nlN y2, mpA nlN y3] _
  rw [eb, ev]
  exact FieldValues_ok s b v hb hv
theorem FieldBack_args (xs : List AV) (h : WfA ty 1048576 [30, 23, 3] xs) : PCall P 5 xs (.bool true) := by
  obtain ⟨y1, r1, rfl, g1, h1⟩ := h.cons_inv
  obtain ⟨y2, r2, rfl, g2, h2⟩ := h1.cons_inv
  obtain ⟨y3, r3, rfl, g3, h3⟩ := h2.cons_inv
  obtain rfl := h3.nil_inv
  obtain ⟨s, rfl, hs⟩ := spec_inv g1
  obtain ⟨v, ev, hv⟩ := bs_inv g2
  obtain ⟨n, rfl, hn⟩ := g3.int_inv rfl
  refine PCall.nils ?_
  show PCall P _ [sv s, mpA nlN y2, _] _
  rw [ev]
  exact FieldBack_ok s hs v hv n
theorem FieldAlone_args (xs : List AV) (h : WfA ty 1048576 [58, 30, 30, 23, 23] xs) : PCall P 6 xs (.bool true) := by
  obtain ⟨y1, r1, rfl, g1, h1⟩ := h.cons_inv
  obtain ⟨y2, r2, rfl, g2, h2⟩ := h1.cons_inv
  obtain ⟨y3, r3, rfl, g3, h3⟩ := h2.cons_inv
  obtain ⟨y4, r4, rfl, g4, h4⟩ := h3.cons_inv
  obtain ⟨y5, r5, rfl, g5, h5⟩ := h4.cons_inv
  obtain rfl := h5.nil_inv
  obtain ⟨f, rfl, hf⟩ := rec_inv g1
  obtain ⟨s, rfl, hs⟩ := spec_inv g2
  obtain ⟨t, rfl, ht⟩ := spec_inv g3
  obtain ⟨b, eb, hb⟩ := bs_inv g4
  obtain ⟨c, ec, hc⟩ := bs_inv g5
  refine PCall.nils ?_
  show PCall P _ [rcv f, sv s, sv t, mpA nlN y4, mpA nlN y5] _
  rw [eb, ec]
  exact FieldAlone_ok f s t b c hb hc
theorem FieldCopies_args (xs : List AV) (h : WfA ty 1048576 [58, 58, 30] xs) : PCall P 7 xs (.bool true) := by
  obtain ⟨y1, r1, rfl, g1, h1⟩ := h.cons_inv
  obtain ⟨y2, r2, rfl, g2, h2⟩ := h1.cons_inv
  obtain ⟨y3, r3, rfl, g3, h3⟩ := h2.cons_inv
  obtain rfl := h3.nil_inv
  obtain ⟨f, rfl, hf⟩ := rec_inv g1
  obtain ⟨g, rfl, hg⟩ := rec_inv g2
  obtain ⟨s, rfl, hs⟩ := spec_inv g3
  exact FieldCopies_ok f g s hf.small hg.small
end Go.Proofs.YtnajpmepcffnaaaDoor
end

section
/- field: what was written is read: any value. -/
namespace Go.Proofs.YtnajpmepcffnaaaDoor
open Go.Ve

set_option maxHeartbeats 8000000 in
theorem FieldBack_big (s : Sc) (he : EntOk s) (v : Bs) (hv : v.length ≤ 9223372036854775807) (cut : Int) : PCall P 5 [sv s, .sl (bcl v), .int .i64 cut] (.bool true) := by
  have q0 := alive15_ok
  have q1 := fRight_ok s
  have p1 := fWriteN s he
  have p2 := fPutR2 (specB s) (by have := specB_len s; omega) s v hv
  have p3 := specB_len s
  have p4 := putB_len s v
  have p5 := wBytesR (specB s ++ putB s v) (by rw [List.length_append]; omega)
  have hbl := bcl_len v
  have hwl := bcl_len (specB s ++ putB s v)
  rw [List.length_append] at hwl
  refine PCall.of_awp tok mixed fn5 (Nat.le_of_ble_eq_true rfl) ?_
  rcases right_cases s with ⟨hR, hb⟩ | ⟨hR, hb⟩
  · rw [hb] at q1
    by_cases hF : FitV s v
    · have f1 := read_full hR he (putB s v)
      have f2 := value_full hR hF []
      rw [List.append_nil] at f2
      have f3 := fun c => back_short (c := c) hR he hF
      have g1 := hF.1
      have g2 := hF.2
      have n1 : (specB s ++ putB s v).length = (specB s).length + (putB s v).length := List.length_append
      generalize specB s ++ putB s v = W at *
      have q3 := from_sl W (by omega)
      have r1 := fRead_ok W 0 (by omega)
      rw [f1] at r1
      have r2 := fValue_ok s (putB s v) 0 (by omega)
      rw [f2] at r2
      have r3 := rEnd_ok [] 0
      dsimp only at r1 r2
      rw [show endN [] 0 = 0 from rfl] at r3
      (conv => whnf); (repeat' first | ((with_reducible refine Box.mk ?_); conv => whnf) | ((with_reducible refine And.intro (fun _ => ?_) (fun _ => ?_)) <;> conv => whnf) | ((with_reducible show AYld _ _ _ _ _); (refine AYld.of tok mixed ?_); conv => whnf) | ((with_reducible show forceH _ _); (refine (forceH_eq _ _).mpr ?_); conv => whnf) | ((with_reducible show ACall _ _ _ _ _); (refine ACall.of_pure (by assumption) (by rfl) ?_); conv => whnf) | ((with_reducible show Exists _); (refine ⟨_, ACall.of_pure (by assumption) (by rfl) ⟨rfl, rfl⟩, ?_⟩); conv => whnf) | ((with_reducible show _ ∧ _ ∧ _); (refine ⟨by omega, by omega, ?_⟩); conv => whnf) | fail)
      all_goals try (exfalso; omega)
      all_goals (
        refine aW [1] p1 rfl rfl rfl ?_
        (conv => whnf); (repeat' first | ((with_reducible refine Box.mk ?_); conv => whnf) | ((with_reducible refine And.intro (fun _ => ?_) (fun _ => ?_)) <;> conv => whnf) | ((with_reducible show AYld _ _ _ _ _); (refine AYld.of tok mixed ?_); conv => whnf) | ((with_reducible show forceH _ _); (refine (forceH_eq _ _).mpr ?_); conv => whnf) | ((with_reducible show ACall _ _ _ _ _); (refine ACall.of_pure (by assumption) (by rfl) ?_); conv => whnf) | ((with_reducible show Exists _); (refine ⟨_, ACall.of_pure (by assumption) (by rfl) ⟨rfl, rfl⟩, ?_⟩); conv => whnf) | ((with_reducible show _ ∧ _ ∧ _); (refine ⟨by omega, by omega, ?_⟩); conv => whnf) | fail)
        refine aW [1, 2] p2 rfl rfl rfl ?_
        (conv => whnf); (repeat' first | ((with_reducible refine Box.mk ?_); conv => whnf) | ((with_reducible refine And.intro (fun _ => ?_) (fun _ => ?_)) <;> conv => whnf) | ((with_reducible show AYld _ _ _ _ _); (refine AYld.of tok mixed ?_); conv => whnf) | ((with_reducible show forceH _ _); (refine (forceH_eq _ _).mpr ?_); conv => whnf) | ((with_reducible show ACall _ _ _ _ _); (refine ACall.of_pure (by assumption) (by rfl) ?_); conv => whnf) | ((with_reducible show Exists _); (refine ⟨_, ACall.of_pure (by assumption) (by rfl) ⟨rfl, rfl⟩, ?_⟩); conv => whnf) | ((with_reducible show _ ∧ _ ∧ _); (refine ⟨by omega, by omega, ?_⟩); conv => whnf) | fail)
        refine aW [1, 3] p5 rfl rfl rfl ?_
        (conv => whnf); (repeat' first | ((with_reducible refine Box.mk ?_); conv => whnf) | ((with_reducible refine And.intro (fun _ => ?_) (fun _ => ?_)) <;> conv => whnf) | ((with_reducible show AYld _ _ _ _ _); (refine AYld.of tok mixed ?_); conv => whnf) | ((with_reducible show forceH _ _); (refine (forceH_eq _ _).mpr ?_); conv => whnf) | ((with_reducible show ACall _ _ _ _ _); (refine ACall.of_pure (by assumption) (by rfl) ?_); conv => whnf) | ((with_reducible show Exists _); (refine ⟨_, ACall.of_pure (by assumption) (by rfl) ⟨rfl, rfl⟩, ?_⟩); conv => whnf) | ((with_reducible show _ ∧ _ ∧ _); (refine ⟨by omega, by omega, ?_⟩); conv => whnf) | fail)
        all_goals try (exfalso; omega))
      all_goals (
        refine aW [] q3 rfl rfl rfl ?_
        (conv => whnf); (repeat' first | ((with_reducible refine Box.mk ?_); conv => whnf) | ((with_reducible refine And.intro (fun _ => ?_) (fun _ => ?_)) <;> conv => whnf) | ((with_reducible show AYld _ _ _ _ _); (refine AYld.of tok mixed ?_); conv => whnf) | ((with_reducible show forceH _ _); (refine (forceH_eq _ _).mpr ?_); conv => whnf) | ((with_reducible show ACall _ _ _ _ _); (refine ACall.of_pure (by assumption) (by rfl) ?_); conv => whnf) | ((with_reducible show Exists _); (refine ⟨_, ACall.of_pure (by assumption) (by rfl) ⟨rfl, rfl⟩, ?_⟩); conv => whnf) | ((with_reducible show _ ∧ _ ∧ _); (refine ⟨by omega, by omega, ?_⟩); conv => whnf) | fail)
        refine ⟨[(2001, []), (2007, []), (3002, [1]), (3010, [7])], by kernel_rfl, ?_⟩
        (conv => whnf); (repeat' first | ((with_reducible refine Box.mk ?_); conv => whnf) | ((with_reducible refine And.intro (fun _ => ?_) (fun _ => ?_)) <;> conv => whnf) | ((with_reducible show AYld _ _ _ _ _); (refine AYld.of tok mixed ?_); conv => whnf) | ((with_reducible show forceH _ _); (refine (forceH_eq _ _).mpr ?_); conv => whnf) | ((with_reducible show ACall _ _ _ _ _); (refine ACall.of_pure (by assumption) (by rfl) ?_); conv => whnf) | ((with_reducible show Exists _); (refine ⟨_, ACall.of_pure (by assumption) (by rfl) ⟨rfl, rfl⟩, ?_⟩); conv => whnf) | ((with_reducible show _ ∧ _ ∧ _); (refine ⟨by omega, by omega, ?_⟩); conv => whnf) | fail)
        refine aDw [4] r1 rfl rfl rfl ?_
        (conv => whnf); (repeat' first | ((with_reducible refine Box.mk ?_); conv => whnf) | ((with_reducible refine And.intro (fun _ => ?_) (fun _ => ?_)) <;> conv => whnf) | ((with_reducible show AYld _ _ _ _ _); (refine AYld.of tok mixed ?_); conv => whnf) | ((with_reducible show forceH _ _); (refine (forceH_eq _ _).mpr ?_); conv => whnf) | ((with_reducible show ACall _ _ _ _ _); (refine ACall.of_pure (by assumption) (by rfl) ?_); conv => whnf) | ((with_reducible show Exists _); (refine ⟨_, ACall.of_pure (by assumption) (by rfl) ⟨rfl, rfl⟩, ?_⟩); conv => whnf) | ((with_reducible show _ ∧ _ ∧ _); (refine ⟨by omega, by omega, ?_⟩); conv => whnf) | fail)
        (refine And.intro ?_ ?_); (focus ((conv => whnf); (repeat' first | exact trivial | ((refine And.intro ?_ ?_); (focus ((conv => whnf); (first | exact ⟨rfl, rfl⟩ | exact ⟨by decide, by decide, rfl, rfl⟩ | exact ⟨by omega, by omega, rfl, rfl⟩ | exact ⟨by (simp only [List.length_drop, List.length_take]; omega), rfl, rfl⟩ | exact ⟨_, rfl, rfl, rfl⟩ | exact ⟨by omega, _, by assumption, rfl, rfl, rfl⟩ | ((refine ACall.of_pure (by assumption) (by rfl) ?_); (refine And.intro ?_ ?_ <;> rfl))))); (conv => whnf)))))
        (conv => whnf); (repeat' first | ((with_reducible refine Box.mk ?_); conv => whnf) | ((with_reducible refine And.intro (fun _ => ?_) (fun _ => ?_)) <;> conv => whnf) | ((with_reducible show AYld _ _ _ _ _); (refine AYld.of tok mixed ?_); conv => whnf) | ((with_reducible show forceH _ _); (refine (forceH_eq _ _).mpr ?_); conv => whnf) | ((with_reducible show ACall _ _ _ _ _); (refine ACall.of_pure (by assumption) (by rfl) ?_); conv => whnf) | ((with_reducible show Exists _); (refine ⟨_, ACall.of_pure (by assumption) (by rfl) ⟨rfl, rfl⟩, ?_⟩); conv => whnf) | ((with_reducible show _ ∧ _ ∧ _); (refine ⟨by omega, by omega, ?_⟩); conv => whnf) | fail)
        all_goals try (rename_i hbad; exact absurd ⟨rfl, rfl, rfl⟩ hbad)
        refine aDw [4] r2 rfl rfl rfl ?_
        (conv => whnf); (repeat' first | ((with_reducible refine Box.mk ?_); conv => whnf) | ((with_reducible refine And.intro (fun _ => ?_) (fun _ => ?_)) <;> conv => whnf) | ((with_reducible show AYld _ _ _ _ _); (refine AYld.of tok mixed ?_); conv => whnf) | ((with_reducible show forceH _ _); (refine (forceH_eq _ _).mpr ?_); conv => whnf) | ((with_reducible show ACall _ _ _ _ _); (refine ACall.of_pure (by assumption) (by rfl) ?_); conv => whnf) | ((with_reducible show Exists _); (refine ⟨_, ACall.of_pure (by assumption) (by rfl) ⟨rfl, rfl⟩, ?_⟩); conv => whnf) | ((with_reducible show _ ∧ _ ∧ _); (refine ⟨by omega, by omega, ?_⟩); conv => whnf) | fail))
      all_goals (
        refine ⟨_, rfl, ?_⟩
        (conv => whnf); (repeat' first | ((with_reducible refine Box.mk ?_); conv => whnf) | ((with_reducible refine And.intro (fun _ => ?_) (fun _ => ?_)) <;> conv => whnf) | ((with_reducible show AYld _ _ _ _ _); (refine AYld.of tok mixed ?_); conv => whnf) | ((with_reducible show forceH _ _); (refine (forceH_eq _ _).mpr ?_); conv => whnf) | ((with_reducible show ACall _ _ _ _ _); (refine ACall.of_pure (by assumption) (by rfl) ?_); conv => whnf) | ((with_reducible show Exists _); (refine ⟨_, ACall.of_pure (by assumption) (by rfl) ⟨rfl, rfl⟩, ?_⟩); conv => whnf) | ((with_reducible show _ ∧ _ ∧ _); (refine ⟨by omega, by omega, ?_⟩); conv => whnf) | fail)
        refine ⟨_, rfl, ?_⟩
        (conv => whnf); (repeat' first | ((with_reducible refine Box.mk ?_); conv => whnf) | ((with_reducible refine And.intro (fun _ => ?_) (fun _ => ?_)) <;> conv => whnf) | ((with_reducible show AYld _ _ _ _ _); (refine AYld.of tok mixed ?_); conv => whnf) | ((with_reducible show forceH _ _); (refine (forceH_eq _ _).mpr ?_); conv => whnf) | ((with_reducible show ACall _ _ _ _ _); (refine ACall.of_pure (by assumption) (by rfl) ?_); conv => whnf) | ((with_reducible show Exists _); (refine ⟨_, ACall.of_pure (by assumption) (by rfl) ⟨rfl, rfl⟩, ?_⟩); conv => whnf) | ((with_reducible show _ ∧ _ ∧ _); (refine ⟨by omega, by omega, ?_⟩); conv => whnf) | fail)
        (refine And.intro ?_ ?_); (focus ((conv => whnf); (repeat' first | exact trivial | ((refine And.intro ?_ ?_); (focus ((conv => whnf); (first | exact ⟨rfl, rfl⟩ | exact ⟨by decide, by decide, rfl, rfl⟩ | exact ⟨by omega, by omega, rfl, rfl⟩ | exact ⟨by (simp only [List.length_drop, List.length_take]; omega), rfl, rfl⟩ | exact ⟨_, rfl, rfl, rfl⟩ | exact ⟨by omega, _, by assumption, rfl, rfl, rfl⟩ | ((refine ACall.of_pure (by assumption) (by rfl) ?_); (refine And.intro ?_ ?_ <;> rfl))))); (conv => whnf)))))
        (conv => whnf); (repeat' first | ((with_reducible refine Box.mk ?_); conv => whnf) | ((with_reducible refine And.intro (fun _ => ?_) (fun _ => ?_)) <;> conv => whnf) | ((with_reducible show AYld _ _ _ _ _); (refine AYld.of tok mixed ?_); conv => whnf) | ((with_reducible show forceH _ _); (refine (forceH_eq _ _).mpr ?_); conv => whnf) | ((with_reducible show ACall _ _ _ _ _); (refine ACall.of_pure (by assumption) (by rfl) ?_); conv => whnf) | ((with_reducible show Exists _); (refine ⟨_, ACall.of_pure (by assumption) (by rfl) ⟨rfl, rfl⟩, ?_⟩); conv => whnf) | ((with_reducible show _ ∧ _ ∧ _); (refine ⟨by omega, by omega, ?_⟩); conv => whnf) | fail)
        all_goals try (rename_i hbad; exact absurd rfl hbad)
        refine aDr [4] r3 rfl rfl rfl rfl ?_
        (conv => whnf); (repeat' first | ((with_reducible refine Box.mk ?_); conv => whnf) | ((with_reducible refine And.intro (fun _ => ?_) (fun _ => ?_)) <;> conv => whnf) | ((with_reducible show AYld _ _ _ _ _); (refine AYld.of tok mixed ?_); conv => whnf) | ((with_reducible show forceH _ _); (refine (forceH_eq _ _).mpr ?_); conv => whnf) | ((with_reducible show ACall _ _ _ _ _); (refine ACall.of_pure (by assumption) (by rfl) ?_); conv => whnf) | ((with_reducible show Exists _); (refine ⟨_, ACall.of_pure (by assumption) (by rfl) ⟨rfl, rfl⟩, ?_⟩); conv => whnf) | ((with_reducible show _ ∧ _ ∧ _); (refine ⟨by omega, by omega, ?_⟩); conv => whnf) | fail)
        all_goals try (rename_i hbad; exact absurd rfl hbad)
        all_goals try rfl)
      all_goals (
        rename_i hc1 hc2
        obtain ⟨c, hc⟩ := nat_of (show 0 ≤ cut by omega)
        subst hc
        have g := f3 c (by omega)
        have hcut : List.drop 0 (List.take ((c : Nat) : Int).toNat (bcl W)) = bcl (W.take c) := cut_bcl W c
        have hl2 : (W.take c).length ≤ 1048576 := by rw [List.length_take]; omega
        refine ⟨bcl_all _, ?_⟩
        rw [hcut]
        generalize W.take c = U at *
        have u1 := from_sl U (by omega)
        have u2 := fRead_ok U 0 (by omega)
        obtain ⟨pre', hp', _⟩ := xfRead_ok [] U 0 (by show U.length ≤ _; omega)
        have hp2 := congrArg List.length hp'
        rw [List.length_append, List.length_append, List.length_nil] at hp2
        generalize readF U 0 = z at *
        obtain ⟨s', U', e'⟩ := z
        dsimp only at u2 g hp2
        have u3 := fValue_ok s U' e' (by omega)
        generalize valueF s U' e' = z2 at *
        obtain ⟨v', U2, e2⟩ := z2
        dsimp only at u3 g
        subst g
        have u4 := rEnd_ok U2 8
        have u5 : endN U2 8 = 8 := by unfold endN restN; rw [if_neg (by simp)]
        rw [u5] at u4
        (conv => whnf); (repeat' first | ((with_reducible refine Box.mk ?_); conv => whnf) | ((with_reducible refine And.intro (fun _ => ?_) (fun _ => ?_)) <;> conv => whnf) | ((with_reducible show AYld _ _ _ _ _); (refine AYld.of tok mixed ?_); conv => whnf) | ((with_reducible show forceH _ _); (refine (forceH_eq _ _).mpr ?_); conv => whnf) | ((with_reducible show ACall _ _ _ _ _); (refine ACall.of_pure (by assumption) (by rfl) ?_); conv => whnf) | ((with_reducible show Exists _); (refine ⟨_, ACall.of_pure (by assumption) (by rfl) ⟨rfl, rfl⟩, ?_⟩); conv => whnf) | ((with_reducible show _ ∧ _ ∧ _); (refine ⟨by omega, by omega, ?_⟩); conv => whnf) | fail)
        refine aW [] u1 rfl rfl rfl ?_
        (conv => whnf); (repeat' first | ((with_reducible refine Box.mk ?_); conv => whnf) | ((with_reducible refine And.intro (fun _ => ?_) (fun _ => ?_)) <;> conv => whnf) | ((with_reducible show AYld _ _ _ _ _); (refine AYld.of tok mixed ?_); conv => whnf) | ((with_reducible show forceH _ _); (refine (forceH_eq _ _).mpr ?_); conv => whnf) | ((with_reducible show ACall _ _ _ _ _); (refine ACall.of_pure (by assumption) (by rfl) ?_); conv => whnf) | ((with_reducible show Exists _); (refine ⟨_, ACall.of_pure (by assumption) (by rfl) ⟨rfl, rfl⟩, ?_⟩); conv => whnf) | ((with_reducible show _ ∧ _ ∧ _); (refine ⟨by omega, by omega, ?_⟩); conv => whnf) | fail)
        refine aW [5] u2 rfl rfl rfl ?_
        (conv => whnf); (repeat' first | ((with_reducible refine Box.mk ?_); conv => whnf) | ((with_reducible refine And.intro (fun _ => ?_) (fun _ => ?_)) <;> conv => whnf) | ((with_reducible show AYld _ _ _ _ _); (refine AYld.of tok mixed ?_); conv => whnf) | ((with_reducible show forceH _ _); (refine (forceH_eq _ _).mpr ?_); conv => whnf) | ((with_reducible show ACall _ _ _ _ _); (refine ACall.of_pure (by assumption) (by rfl) ?_); conv => whnf) | ((with_reducible show Exists _); (refine ⟨_, ACall.of_pure (by assumption) (by rfl) ⟨rfl, rfl⟩, ?_⟩); conv => whnf) | ((with_reducible show _ ∧ _ ∧ _); (refine ⟨by omega, by omega, ?_⟩); conv => whnf) | fail)
        refine aW [5] u3 rfl rfl rfl ?_
        (conv => whnf); (repeat' first | ((with_reducible refine Box.mk ?_); conv => whnf) | ((with_reducible refine And.intro (fun _ => ?_) (fun _ => ?_)) <;> conv => whnf) | ((with_reducible show AYld _ _ _ _ _); (refine AYld.of tok mixed ?_); conv => whnf) | ((with_reducible show forceH _ _); (refine (forceH_eq _ _).mpr ?_); conv => whnf) | ((with_reducible show ACall _ _ _ _ _); (refine ACall.of_pure (by assumption) (by rfl) ?_); conv => whnf) | ((with_reducible show Exists _); (refine ⟨_, ACall.of_pure (by assumption) (by rfl) ⟨rfl, rfl⟩, ?_⟩); conv => whnf) | ((with_reducible show _ ∧ _ ∧ _); (refine ⟨by omega, by omega, ?_⟩); conv => whnf) | fail)
        refine aW [5] u4 rfl rfl rfl ?_
        (conv => whnf); (repeat' first | ((with_reducible refine Box.mk ?_); conv => whnf) | ((with_reducible refine And.intro (fun _ => ?_) (fun _ => ?_)) <;> conv => whnf) | ((with_reducible show AYld _ _ _ _ _); (refine AYld.of tok mixed ?_); conv => whnf) | ((with_reducible show forceH _ _); (refine (forceH_eq _ _).mpr ?_); conv => whnf) | ((with_reducible show ACall _ _ _ _ _); (refine ACall.of_pure (by assumption) (by rfl) ?_); conv => whnf) | ((with_reducible show Exists _); (refine ⟨_, ACall.of_pure (by assumption) (by rfl) ⟨rfl, rfl⟩, ?_⟩); conv => whnf) | ((with_reducible show _ ∧ _ ∧ _); (refine ⟨by omega, by omega, ?_⟩); conv => whnf) | fail)
        all_goals try (rename_i hbad; exact absurd rfl hbad)
        all_goals rfl)
    · have g1 : ¬ (s.len ≠ 65535 → (v.length : Int) = s.len) ∨ 65535 < v.length := by
        rcases Nat.lt_or_ge 65535 v.length with h | h
        · exact .inr h
        · exact .inl fun hc => hF ⟨hc, h⟩
      (conv => whnf); (repeat' first | ((with_reducible refine Box.mk ?_); conv => whnf) | ((with_reducible refine And.intro (fun _ => ?_) (fun _ => ?_)) <;> conv => whnf) | ((with_reducible show AYld _ _ _ _ _); (refine AYld.of tok mixed ?_); conv => whnf) | ((with_reducible show forceH _ _); (refine (forceH_eq _ _).mpr ?_); conv => whnf) | ((with_reducible show ACall _ _ _ _ _); (refine ACall.of_pure (by assumption) (by rfl) ?_); conv => whnf) | ((with_reducible show Exists _); (refine ⟨_, ACall.of_pure (by assumption) (by rfl) ⟨rfl, rfl⟩, ?_⟩); conv => whnf) | ((with_reducible show _ ∧ _ ∧ _); (refine ⟨by omega, by omega, ?_⟩); conv => whnf) | fail)
      refine aW [1] p1 rfl rfl rfl ?_
      (conv => whnf); (repeat' first | ((with_reducible refine Box.mk ?_); conv => whnf) | ((with_reducible refine And.intro (fun _ => ?_) (fun _ => ?_)) <;> conv => whnf) | ((with_reducible show AYld _ _ _ _ _); (refine AYld.of tok mixed ?_); conv => whnf) | ((with_reducible show forceH _ _); (refine (forceH_eq _ _).mpr ?_); conv => whnf) | ((with_reducible show ACall _ _ _ _ _); (refine ACall.of_pure (by assumption) (by rfl) ?_); conv => whnf) | ((with_reducible show Exists _); (refine ⟨_, ACall.of_pure (by assumption) (by rfl) ⟨rfl, rfl⟩, ?_⟩); conv => whnf) | ((with_reducible show _ ∧ _ ∧ _); (refine ⟨by omega, by omega, ?_⟩); conv => whnf) | fail)
      refine aW [1, 2] p2 rfl rfl rfl ?_
      (conv => whnf); (repeat' first | ((with_reducible refine Box.mk ?_); conv => whnf) | ((with_reducible refine And.intro (fun _ => ?_) (fun _ => ?_)) <;> conv => whnf) | ((with_reducible show AYld _ _ _ _ _); (refine AYld.of tok mixed ?_); conv => whnf) | ((with_reducible show forceH _ _); (refine (forceH_eq _ _).mpr ?_); conv => whnf) | ((with_reducible show ACall _ _ _ _ _); (refine ACall.of_pure (by assumption) (by rfl) ?_); conv => whnf) | ((with_reducible show Exists _); (refine ⟨_, ACall.of_pure (by assumption) (by rfl) ⟨rfl, rfl⟩, ?_⟩); conv => whnf) | ((with_reducible show _ ∧ _ ∧ _); (refine ⟨by omega, by omega, ?_⟩); conv => whnf) | fail)
      refine aW [1, 3] p5 rfl rfl rfl ?_
      (conv => whnf); (repeat' first | ((with_reducible refine Box.mk ?_); conv => whnf) | ((with_reducible refine And.intro (fun _ => ?_) (fun _ => ?_)) <;> conv => whnf) | ((with_reducible show AYld _ _ _ _ _); (refine AYld.of tok mixed ?_); conv => whnf) | ((with_reducible show forceH _ _); (refine (forceH_eq _ _).mpr ?_); conv => whnf) | ((with_reducible show ACall _ _ _ _ _); (refine ACall.of_pure (by assumption) (by rfl) ?_); conv => whnf) | ((with_reducible show Exists _); (refine ⟨_, ACall.of_pure (by assumption) (by rfl) ⟨rfl, rfl⟩, ?_⟩); conv => whnf) | ((with_reducible show _ ∧ _ ∧ _); (refine ⟨by omega, by omega, ?_⟩); conv => whnf) | fail)
      all_goals try (exfalso; omega)
      all_goals rfl
  · rw [hb] at q1
    have e : putB s v = [] := by unfold putB; rw [if_pos hR]
    have e2 : specB s = [] := by unfold specB; rw [if_pos hR]
    rw [e, e2] at p5 hwl
    rw [e2] at p1 p2
    rw [e] at p2
    (conv => whnf); (repeat' first | ((with_reducible refine Box.mk ?_); conv => whnf) | ((with_reducible refine And.intro (fun _ => ?_) (fun _ => ?_)) <;> conv => whnf) | ((with_reducible show AYld _ _ _ _ _); (refine AYld.of tok mixed ?_); conv => whnf) | ((with_reducible show forceH _ _); (refine (forceH_eq _ _).mpr ?_); conv => whnf) | ((with_reducible show ACall _ _ _ _ _); (refine ACall.of_pure (by assumption) (by rfl) ?_); conv => whnf) | ((with_reducible show Exists _); (refine ⟨_, ACall.of_pure (by assumption) (by rfl) ⟨rfl, rfl⟩, ?_⟩); conv => whnf) | ((with_reducible show _ ∧ _ ∧ _); (refine ⟨by omega, by omega, ?_⟩); conv => whnf) | fail)
    refine aW [1] p1 rfl rfl rfl ?_
    (conv => whnf); (repeat' first | ((with_reducible refine Box.mk ?_); conv => whnf) | ((with_reducible refine And.intro (fun _ => ?_) (fun _ => ?_)) <;> conv => whnf) | ((with_reducible show AYld _ _ _ _ _); (refine AYld.of tok mixed ?_); conv => whnf) | ((with_reducible show forceH _ _); (refine (forceH_eq _ _).mpr ?_); conv => whnf) | ((with_reducible show ACall _ _ _ _ _); (refine ACall.of_pure (by assumption) (by rfl) ?_); conv => whnf) | ((with_reducible show Exists _); (refine ⟨_, ACall.of_pure (by assumption) (by rfl) ⟨rfl, rfl⟩, ?_⟩); conv => whnf) | ((with_reducible show _ ∧ _ ∧ _); (refine ⟨by omega, by omega, ?_⟩); conv => whnf) | fail)
    refine aW [1, 2] p2 rfl rfl rfl ?_
    (conv => whnf); (repeat' first | ((with_reducible refine Box.mk ?_); conv => whnf) | ((with_reducible refine And.intro (fun _ => ?_) (fun _ => ?_)) <;> conv => whnf) | ((with_reducible show AYld _ _ _ _ _); (refine AYld.of tok mixed ?_); conv => whnf) | ((with_reducible show forceH _ _); (refine (forceH_eq _ _).mpr ?_); conv => whnf) | ((with_reducible show ACall _ _ _ _ _); (refine ACall.of_pure (by assumption) (by rfl) ?_); conv => whnf) | ((with_reducible show Exists _); (refine ⟨_, ACall.of_pure (by assumption) (by rfl) ⟨rfl, rfl⟩, ?_⟩); conv => whnf) | ((with_reducible show _ ∧ _ ∧ _); (refine ⟨by omega, by omega, ?_⟩); conv => whnf) | fail)
    refine aW [1, 3] p5 rfl rfl rfl ?_
    (conv => whnf); (repeat' first | ((with_reducible refine Box.mk ?_); conv => whnf) | ((with_reducible refine And.intro (fun _ => ?_) (fun _ => ?_)) <;> conv => whnf) | ((with_reducible show AYld _ _ _ _ _); (refine AYld.of tok mixed ?_); conv => whnf) | ((with_reducible show forceH _ _); (refine (forceH_eq _ _).mpr ?_); conv => whnf) | ((with_reducible show ACall _ _ _ _ _); (refine ACall.of_pure (by assumption) (by rfl) ?_); conv => whnf) | ((with_reducible show Exists _); (refine ⟨_, ACall.of_pure (by assumption) (by rfl) ⟨rfl, rfl⟩, ?_⟩); conv => whnf) | ((with_reducible show _ ∧ _ ∧ _); (refine ⟨by omega, by omega, ?_⟩); conv => whnf) | fail)
    all_goals try (rename_i hbad; exact absurd rfl hbad)
    all_goals rfl
theorem FieldBack_all (xs : List AV) (h : WfA ty 9223372036854775807 [30, 23, 3] xs) : PCall P 5 xs (.bool true) := by
  obtain ⟨y1, r1, rfl, g1, h1⟩ := h.cons_inv
  obtain ⟨y2, r2, rfl, g2, h2⟩ := h1.cons_inv
  obtain ⟨y3, r3, rfl, g3, h3⟩ := h2.cons_inv
  obtain rfl := h3.nil_inv
  obtain ⟨s, rfl, hs⟩ := spec_inv g1
  obtain ⟨v, ev, hv⟩ := bs_inv g2
  obtain ⟨n, rfl, hn⟩ := g3.int_inv rfl
  refine PCall.nils ?_
  show PCall P _ [sv s, mpA nlN y2, _] _
  rw [ev]
  exact FieldBack_big s hs v hv n
end Go.Proofs.YtnajpmepcffnaaaDoor
end
