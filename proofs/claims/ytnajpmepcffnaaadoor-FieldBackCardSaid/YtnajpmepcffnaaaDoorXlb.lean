/- The program's contracts: texts joined into one: Field5 Lib Label Label2 Label3 Label4 LawLabel Key Key2 Field6 Field7 Field8 Field9 LawField LawField2 LawField3. -/
import Derived.Test.YtnajpmepcffnaaaDoorXla
import Derived.Test.YtnajpmepcffnaaaDoorXFns
import Derived.Test.YtnajpmepcffnaaaDoorXShelf

section
/- field: a value, written. -/
namespace Go.Proofs.YtnajpmepcffnaaaDoor
open Go.Ve

/-- A value's first bytes, filled up with zeros. -/
def padB (v : Bs) (k : Nat) : Bs := v.take k ++ List.replicate (k - v.length) 0
theorem pad_len (v : Bs) (k : Nat) : (padB v k).length = k := by
  unfold padB
  rw [List.length_append, List.length_take, List.length_replicate]; omega
theorem pad_in {v : Bs} {k : Nat} {c : UInt8} (h : v[k]? = some c) : padB v (k + 1) = padB v k ++ [c] := by
  have hlt := (List.getElem?_eq_some_iff.1 h).1
  unfold padB
  rw [List.take_add_one, h, show k + 1 - v.length = 0 by omega, show k - v.length = 0 by omega]
  simp
theorem pad_out {v : Bs} {k : Nat} (h : v.length ≤ k) : padB v (k + 1) = padB v k ++ [0] := by
  unfold padB
  rw [List.take_of_length_le (by omega), List.take_of_length_le h, show k + 1 - v.length = (k - v.length) + 1 by omega, List.replicate_succ', List.append_assoc]
theorem pad0 (v : Bs) : padB v 0 = [] := List.eq_nil_of_length_eq_zero (pad_len v 0)
/-- A value's bytes. -/
def putB (s : Sc) (v : Bs) : Bs :=
  if ¬ RightS s then [] else if s.len = 65535 then (if (v.take 65535).length < 255 then numB (v.take 65535).length 1 ++ v.take 65535 else numB 255 1 ++ numB (v.take 65535).length 2 ++ v.take 65535)
  else padB v s.len.toNat
theorem putB_len (s : Sc) (v : Bs) : (putB s v).length ≤ 65540 := by
  have h : (v.take 65535).length ≤ 65535 := by rw [List.length_take]; omega
  unfold putB RightS
  split
  · exact Nat.zero_le _
  · split
    · split
      · rw [List.length_append, numB_len]; omega
      · rw [List.length_append, List.length_append, numB_len, numB_len]; omega
    · rw [pad_len]; omega
theorem zeros_bcl (k : Nat) : List.replicate k [AV.int .u8 0] = bcl (List.replicate k 0) := by
  unfold bcl
  rw [List.map_replicate]; rfl
theorem cut_bcl (v : Bs) (k : Nat) : List.drop 0 (List.take k (bcl v)) = bcl (v.take k) := by
  rw [List.drop_zero]; exact (List.map_take ..).symm
set_option maxHeartbeats 8000000 in
theorem fPutR (cs : Bs) (hcs : cs.length ≤ 900000000) (s : Sc) (v : Bs) (hv : v.length ≤ 1000000000) : DCall P 25 [.ptr 0 0, sv s, .sl (bcl v)] (wR cs) (mkRes []) (wQ (cs ++ putB s v)) := by
  have q0 := fRight_ok s
  have hbl := bcl_len v
  rcases right_cases s with ⟨hR, hb⟩ | ⟨hR, hb⟩
  · rw [hb] at q0
    unfold putB
    rw [if_neg (fun h => h hR)]
    unfold RightS at hR
    by_cases h6 : s.len = 65535
    · rw [if_pos h6]
      have ht : List.drop 0 (List.take (min (((bcl v).length : Nat) : Int) 65535).toNat (bcl v)) = bcl (v.take 65535) := by
        rw [cut_bcl]
        congr 1
        rcases Nat.le_total v.length 65535 with h | h
        · rw [List.take_of_length_le (by omega), List.take_of_length_le h]
        · congr 1; omega
      have hl2 : (v.take 65535).length ≤ 65535 := by rw [List.length_take]; omega
      have hbl2 := bcl_len (v.take 65535)
      generalize v.take 65535 = u at *
      have w1 : IntKind.u64.wrap ((u.length : Nat) : Int) = ((u.length : Nat) : Int) := wrap_u64 (by omega) (by omega)
      have n1 := numB_len u.length 1
      have n2 := numB_len 255 1
      have n3 := numB_len u.length 2
      have a1 := wNumR cs (by omega) u.length 1
      have a2 := wRawR (cs ++ numB u.length 1) (by rw [List.length_append]; omega) u (by omega)
      have b1 := wNumR cs (by omega) 255 1
      have b2 := wNumR (cs ++ numB 255 1) (by rw [List.length_append]; omega) u.length 2
      have b3 := wRawR (cs ++ numB 255 1 ++ numB u.length 2) (by rw [List.length_append, List.length_append]; omega) u (by omega)
      rw [show szN 1 = 1 from rfl] at a1 b1
      rw [show szN 2 = 2 from rfl] at b2
      refine DCall.of_awp tok mixed fn25 (Nat.le_of_ble_eq_true rfl) ?_
      (conv => whnf); (repeat' first | ((with_reducible refine Box.mk ?_); conv => whnf) | ((with_reducible refine And.intro (fun _ => ?_) (fun _ => ?_)) <;> conv => whnf) | ((with_reducible show AYld _ _ _ _ _); (refine AYld.of tok mixed ?_); conv => whnf) | ((with_reducible show forceH _ _); (refine (forceH_eq _ _).mpr ?_); conv => whnf) | ((with_reducible show ACall _ _ _ _ _); (refine ACall.of_pure (by assumption) (by rfl) ?_); conv => whnf) | ((with_reducible show Exists _); (refine ⟨_, ACall.of_pure (by assumption) (by rfl) ⟨rfl, rfl⟩, ?_⟩); conv => whnf) | ((with_reducible show _ ∧ _ ∧ _); (refine ⟨by omega, by omega, ?_⟩); conv => whnf) | fail)
      all_goals try (exfalso; omega)
      refine ⟨bcl_all _, ?_⟩
      rw [ht]
      (conv => whnf); (repeat' first | ((with_reducible refine Box.mk ?_); conv => whnf) | ((with_reducible refine And.intro (fun _ => ?_) (fun _ => ?_)) <;> conv => whnf) | ((with_reducible show AYld _ _ _ _ _); (refine AYld.of tok mixed ?_); conv => whnf) | ((with_reducible show forceH _ _); (refine (forceH_eq _ _).mpr ?_); conv => whnf) | ((with_reducible show ACall _ _ _ _ _); (refine ACall.of_pure (by assumption) (by rfl) ?_); conv => whnf) | ((with_reducible show Exists _); (refine ⟨_, ACall.of_pure (by assumption) (by rfl) ⟨rfl, rfl⟩, ?_⟩); conv => whnf) | ((with_reducible show _ ∧ _ ∧ _); (refine ⟨by omega, by omega, ?_⟩); conv => whnf) | fail)
      · rename_i h5
        rw [if_pos (by omega), ← List.append_assoc, hbl2, w1]
        refine aW [0, 1] a1 rfl rfl rfl ?_
        (conv => whnf); (repeat' first | ((with_reducible refine Box.mk ?_); conv => whnf) | ((with_reducible refine And.intro (fun _ => ?_) (fun _ => ?_)) <;> conv => whnf) | ((with_reducible show AYld _ _ _ _ _); (refine AYld.of tok mixed ?_); conv => whnf) | ((with_reducible show forceH _ _); (refine (forceH_eq _ _).mpr ?_); conv => whnf) | ((with_reducible show ACall _ _ _ _ _); (refine ACall.of_pure (by assumption) (by rfl) ?_); conv => whnf) | ((with_reducible show Exists _); (refine ⟨_, ACall.of_pure (by assumption) (by rfl) ⟨rfl, rfl⟩, ?_⟩); conv => whnf) | ((with_reducible show _ ∧ _ ∧ _); (refine ⟨by omega, by omega, ?_⟩); conv => whnf) | fail)
        refine aW [0, 3] a2 rfl rfl rfl ?_
        (conv => whnf); (repeat' first | ((with_reducible refine Box.mk ?_); conv => whnf) | ((with_reducible refine And.intro (fun _ => ?_) (fun _ => ?_)) <;> conv => whnf) | ((with_reducible show AYld _ _ _ _ _); (refine AYld.of tok mixed ?_); conv => whnf) | ((with_reducible show forceH _ _); (refine (forceH_eq _ _).mpr ?_); conv => whnf) | ((with_reducible show ACall _ _ _ _ _); (refine ACall.of_pure (by assumption) (by rfl) ?_); conv => whnf) | ((with_reducible show Exists _); (refine ⟨_, ACall.of_pure (by assumption) (by rfl) ⟨rfl, rfl⟩, ?_⟩); conv => whnf) | ((with_reducible show _ ∧ _ ∧ _); (refine ⟨by omega, by omega, ?_⟩); conv => whnf) | fail)
        exact weak_ren_to [(0, true), (1, false), (4, true)] rfl rfl rfl ⟨rfl, trivial⟩
      · rename_i h5
        rw [if_neg (by omega), ← List.append_assoc, ← List.append_assoc]
        refine aW [0, 1] b1 rfl rfl rfl ?_
        (conv => whnf); (repeat' first | ((with_reducible refine Box.mk ?_); conv => whnf) | ((with_reducible refine And.intro (fun _ => ?_) (fun _ => ?_)) <;> conv => whnf) | ((with_reducible show AYld _ _ _ _ _); (refine AYld.of tok mixed ?_); conv => whnf) | ((with_reducible show forceH _ _); (refine (forceH_eq _ _).mpr ?_); conv => whnf) | ((with_reducible show ACall _ _ _ _ _); (refine ACall.of_pure (by assumption) (by rfl) ?_); conv => whnf) | ((with_reducible show Exists _); (refine ⟨_, ACall.of_pure (by assumption) (by rfl) ⟨rfl, rfl⟩, ?_⟩); conv => whnf) | ((with_reducible show _ ∧ _ ∧ _); (refine ⟨by omega, by omega, ?_⟩); conv => whnf) | fail)
        rw [hbl2, w1]
        refine aW [0, 3] b2 rfl rfl rfl ?_
        (conv => whnf); (repeat' first | ((with_reducible refine Box.mk ?_); conv => whnf) | ((with_reducible refine And.intro (fun _ => ?_) (fun _ => ?_)) <;> conv => whnf) | ((with_reducible show AYld _ _ _ _ _); (refine AYld.of tok mixed ?_); conv => whnf) | ((with_reducible show forceH _ _); (refine (forceH_eq _ _).mpr ?_); conv => whnf) | ((with_reducible show ACall _ _ _ _ _); (refine ACall.of_pure (by assumption) (by rfl) ?_); conv => whnf) | ((with_reducible show Exists _); (refine ⟨_, ACall.of_pure (by assumption) (by rfl) ⟨rfl, rfl⟩, ?_⟩); conv => whnf) | ((with_reducible show _ ∧ _ ∧ _); (refine ⟨by omega, by omega, ?_⟩); conv => whnf) | fail)
        refine aW [0, 4] b3 rfl rfl rfl ?_
        (conv => whnf); (repeat' first | ((with_reducible refine Box.mk ?_); conv => whnf) | ((with_reducible refine And.intro (fun _ => ?_) (fun _ => ?_)) <;> conv => whnf) | ((with_reducible show AYld _ _ _ _ _); (refine AYld.of tok mixed ?_); conv => whnf) | ((with_reducible show forceH _ _); (refine (forceH_eq _ _).mpr ?_); conv => whnf) | ((with_reducible show ACall _ _ _ _ _); (refine ACall.of_pure (by assumption) (by rfl) ?_); conv => whnf) | ((with_reducible show Exists _); (refine ⟨_, ACall.of_pure (by assumption) (by rfl) ⟨rfl, rfl⟩, ?_⟩); conv => whnf) | ((with_reducible show _ ∧ _ ∧ _); (refine ⟨by omega, by omega, ?_⟩); conv => whnf) | fail)
        exact weak_ren_to [(0, true), (1, false), (5, true)] rfl rfl rfl ⟨rfl, trivial⟩
    · rw [if_neg h6]
      obtain ⟨n, hn⟩ := nat_of (show 0 ≤ s.len by omega)
      have ht : List.drop 0 (List.take (min (((bcl v).length : Nat) : Int) s.len).toNat (bcl v)) = bcl (v.take n) := by
        rw [cut_bcl]
        congr 1
        rcases Nat.le_total v.length n with h | h
        · rw [List.take_of_length_le (by omega), List.take_of_length_le h]
        · congr 1; omega
      have hz : IntKind.i64.wrap (s.len - min (((bcl v).length : Nat) : Int) s.len) = ((n - v.length : Nat) : Int) := by rw [wrap_i64 (by omega) (by omega)]; omega
      have a1 := wRawR cs (by omega) (v.take n) (by rw [List.length_take]; omega)
      have a2 := wRawR (cs ++ v.take n) (by rw [List.length_append, List.length_take]; omega) (List.replicate (n - v.length) 0) (by rw [List.length_replicate]; omega)
      rw [hn, Int.toNat_natCast]
      unfold padB
      rw [← List.append_assoc]
      refine DCall.of_awp tok mixed fn25 (Nat.le_of_ble_eq_true rfl) ?_
      (conv => whnf); (repeat' first | ((with_reducible refine Box.mk ?_); conv => whnf) | ((with_reducible refine And.intro (fun _ => ?_) (fun _ => ?_)) <;> conv => whnf) | ((with_reducible show AYld _ _ _ _ _); (refine AYld.of tok mixed ?_); conv => whnf) | ((with_reducible show forceH _ _); (refine (forceH_eq _ _).mpr ?_); conv => whnf) | ((with_reducible show ACall _ _ _ _ _); (refine ACall.of_pure (by assumption) (by rfl) ?_); conv => whnf) | ((with_reducible show Exists _); (refine ⟨_, ACall.of_pure (by assumption) (by rfl) ⟨rfl, rfl⟩, ?_⟩); conv => whnf) | ((with_reducible show _ ∧ _ ∧ _); (refine ⟨by omega, by omega, ?_⟩); conv => whnf) | fail)
      all_goals try (exfalso; omega)
      refine ⟨[(2004, []), (2010, []), (3006, [4])], by kernel_rfl, ?_⟩
      (conv => whnf); (repeat' first | ((with_reducible refine Box.mk ?_); conv => whnf) | ((with_reducible refine And.intro (fun _ => ?_) (fun _ => ?_)) <;> conv => whnf) | ((with_reducible show AYld _ _ _ _ _); (refine AYld.of tok mixed ?_); conv => whnf) | ((with_reducible show forceH _ _); (refine (forceH_eq _ _).mpr ?_); conv => whnf) | ((with_reducible show ACall _ _ _ _ _); (refine ACall.of_pure (by assumption) (by rfl) ?_); conv => whnf) | ((with_reducible show Exists _); (refine ⟨_, ACall.of_pure (by assumption) (by rfl) ⟨rfl, rfl⟩, ?_⟩); conv => whnf) | ((with_reducible show _ ∧ _ ∧ _); (refine ⟨by omega, by omega, ?_⟩); conv => whnf) | fail)
      refine ⟨bcl_all _, ?_⟩
      rw [ht]
      (conv => whnf); (repeat' first | ((with_reducible refine Box.mk ?_); conv => whnf) | ((with_reducible refine And.intro (fun _ => ?_) (fun _ => ?_)) <;> conv => whnf) | ((with_reducible show AYld _ _ _ _ _); (refine AYld.of tok mixed ?_); conv => whnf) | ((with_reducible show forceH _ _); (refine (forceH_eq _ _).mpr ?_); conv => whnf) | ((with_reducible show ACall _ _ _ _ _); (refine ACall.of_pure (by assumption) (by rfl) ?_); conv => whnf) | ((with_reducible show Exists _); (refine ⟨_, ACall.of_pure (by assumption) (by rfl) ⟨rfl, rfl⟩, ?_⟩); conv => whnf) | ((with_reducible show _ ∧ _ ∧ _); (refine ⟨by omega, by omega, ?_⟩); conv => whnf) | fail)
      refine aDw [0, 1] a1 rfl rfl rfl ?_
      (conv => whnf); (repeat' first | ((with_reducible refine Box.mk ?_); conv => whnf) | ((with_reducible refine And.intro (fun _ => ?_) (fun _ => ?_)) <;> conv => whnf) | ((with_reducible show AYld _ _ _ _ _); (refine AYld.of tok mixed ?_); conv => whnf) | ((with_reducible show forceH _ _); (refine (forceH_eq _ _).mpr ?_); conv => whnf) | ((with_reducible show ACall _ _ _ _ _); (refine ACall.of_pure (by assumption) (by rfl) ?_); conv => whnf) | ((with_reducible show Exists _); (refine ⟨_, ACall.of_pure (by assumption) (by rfl) ⟨rfl, rfl⟩, ?_⟩); conv => whnf) | ((with_reducible show _ ∧ _ ∧ _); (refine ⟨by omega, by omega, ?_⟩); conv => whnf) | fail)
      (refine And.intro ?_ ?_); (focus ((conv => whnf); (repeat' first | exact trivial | ((refine And.intro ?_ ?_); (focus ((conv => whnf); (first | exact ⟨rfl, rfl⟩ | exact ⟨by decide, by decide, rfl, rfl⟩ | exact ⟨by omega, by omega, rfl, rfl⟩ | exact ⟨by (simp only [List.length_drop, List.length_take]; omega), rfl, rfl⟩ | exact ⟨_, rfl, rfl, rfl⟩ | exact ⟨by omega, _, by assumption, rfl, rfl, rfl⟩ | ((refine ACall.of_pure (by assumption) (by rfl) ?_); (refine And.intro ?_ ?_ <;> rfl))))); (conv => whnf)))))
      (conv => whnf); (repeat' first | ((with_reducible refine Box.mk ?_); conv => whnf) | ((with_reducible refine And.intro (fun _ => ?_) (fun _ => ?_)) <;> conv => whnf) | ((with_reducible show AYld _ _ _ _ _); (refine AYld.of tok mixed ?_); conv => whnf) | ((with_reducible show forceH _ _); (refine (forceH_eq _ _).mpr ?_); conv => whnf) | ((with_reducible show ACall _ _ _ _ _); (refine ACall.of_pure (by assumption) (by rfl) ?_); conv => whnf) | ((with_reducible show Exists _); (refine ⟨_, ACall.of_pure (by assumption) (by rfl) ⟨rfl, rfl⟩, ?_⟩); conv => whnf) | ((with_reducible show _ ∧ _ ∧ _); (refine ⟨by omega, by omega, ?_⟩); conv => whnf) | fail)
      rw [hz]
      refine ⟨by show ((n - v.length : Nat) : Int) * ((1 : Nat) : Int) ≤ _; omega, by omega, ?_⟩
      (conv => whnf); (repeat' first | ((with_reducible refine Box.mk ?_); conv => whnf) | ((with_reducible refine And.intro (fun _ => ?_) (fun _ => ?_)) <;> conv => whnf) | ((with_reducible show AYld _ _ _ _ _); (refine AYld.of tok mixed ?_); conv => whnf) | ((with_reducible show forceH _ _); (refine (forceH_eq _ _).mpr ?_); conv => whnf) | ((with_reducible show ACall _ _ _ _ _); (refine ACall.of_pure (by assumption) (by rfl) ?_); conv => whnf) | ((with_reducible show Exists _); (refine ⟨_, ACall.of_pure (by assumption) (by rfl) ⟨rfl, rfl⟩, ?_⟩); conv => whnf) | ((with_reducible show _ ∧ _ ∧ _); (refine ⟨by omega, by omega, ?_⟩); conv => whnf) | fail)
      rw [Int.toNat_natCast, zeros_bcl]
      refine aDw [0, 3] a2 rfl rfl rfl ?_
      (conv => whnf); (repeat' first | ((with_reducible refine Box.mk ?_); conv => whnf) | ((with_reducible refine And.intro (fun _ => ?_) (fun _ => ?_)) <;> conv => whnf) | ((with_reducible show AYld _ _ _ _ _); (refine AYld.of tok mixed ?_); conv => whnf) | ((with_reducible show forceH _ _); (refine (forceH_eq _ _).mpr ?_); conv => whnf) | ((with_reducible show ACall _ _ _ _ _); (refine ACall.of_pure (by assumption) (by rfl) ?_); conv => whnf) | ((with_reducible show Exists _); (refine ⟨_, ACall.of_pure (by assumption) (by rfl) ⟨rfl, rfl⟩, ?_⟩); conv => whnf) | ((with_reducible show _ ∧ _ ∧ _); (refine ⟨by omega, by omega, ?_⟩); conv => whnf) | fail)
      exact weak_ren_to [(0, true), (1, false), (4, true)] rfl rfl rfl ⟨rfl, trivial⟩
  · rw [hb] at q0
    have e : putB s v = [] := by unfold putB; rw [if_pos hR]
    rw [e, List.append_nil]
    refine DCall.of_awp tok mixed fn25 (Nat.le_of_ble_eq_true rfl) ?_
    (conv => whnf); (repeat' first | ((with_reducible refine Box.mk ?_); conv => whnf) | ((with_reducible refine And.intro (fun _ => ?_) (fun _ => ?_)) <;> conv => whnf) | ((with_reducible show AYld _ _ _ _ _); (refine AYld.of tok mixed ?_); conv => whnf) | ((with_reducible show forceH _ _); (refine (forceH_eq _ _).mpr ?_); conv => whnf) | ((with_reducible show ACall _ _ _ _ _); (refine ACall.of_pure (by assumption) (by rfl) ?_); conv => whnf) | ((with_reducible show Exists _); (refine ⟨_, ACall.of_pure (by assumption) (by rfl) ⟨rfl, rfl⟩, ?_⟩); conv => whnf) | ((with_reducible show _ ∧ _ ∧ _); (refine ⟨by omega, by omega, ?_⟩); conv => whnf) | fail)
    exact weak_ren_to [(0, true), (1, false), (1, true)] rfl rfl rfl ⟨rfl, trivial⟩
set_option maxHeartbeats 8000000 in
theorem fPutN (s : Sc) (v : Bs) (hv : v.length ≤ 1000000000) : DCall P 25 [.ptr 0 0, sv s, .sl (bcl v)] wN (mkRes []) (wR (putB s v)) := by
  have q0 := fRight_ok s
  have hbl := bcl_len v
  rcases right_cases s with ⟨hR, hb⟩ | ⟨hR, hb⟩
  · rw [hb] at q0
    unfold putB
    rw [if_neg (fun h => h hR)]
    unfold RightS at hR
    by_cases h6 : s.len = 65535
    · rw [if_pos h6]
      have ht : List.drop 0 (List.take (min (((bcl v).length : Nat) : Int) 65535).toNat (bcl v)) = bcl (v.take 65535) := by
        rw [cut_bcl]
        congr 1
        rcases Nat.le_total v.length 65535 with h | h
        · rw [List.take_of_length_le (by omega), List.take_of_length_le h]
        · congr 1; omega
      have hl2 : (v.take 65535).length ≤ 65535 := by rw [List.length_take]; omega
      have hbl2 := bcl_len (v.take 65535)
      generalize v.take 65535 = u at *
      have w1 : IntKind.u64.wrap ((u.length : Nat) : Int) = ((u.length : Nat) : Int) := wrap_u64 (by omega) (by omega)
      have n1 := numB_len u.length 1
      have n2 := numB_len 255 1
      have n3 := numB_len u.length 2
      have a1 := wNumN u.length 1
      have a2 := wRawR (numB u.length 1) (by omega) u (by omega)
      have b1 := wNumN 255 1
      have b2 := wNumR (numB 255 1) (by omega) u.length 2
      have b3 := wRawR (numB 255 1 ++ numB u.length 2) (by rw [List.length_append]; omega) u (by omega)
      rw [show szN 1 = 1 from rfl] at a1 b1
      rw [show szN 2 = 2 from rfl] at b2
      refine DCall.of_awp tok mixed fn25 (Nat.le_of_ble_eq_true rfl) ?_
      (conv => whnf); (repeat' first | ((with_reducible refine Box.mk ?_); conv => whnf) | ((with_reducible refine And.intro (fun _ => ?_) (fun _ => ?_)) <;> conv => whnf) | ((with_reducible show AYld _ _ _ _ _); (refine AYld.of tok mixed ?_); conv => whnf) | ((with_reducible show forceH _ _); (refine (forceH_eq _ _).mpr ?_); conv => whnf) | ((with_reducible show ACall _ _ _ _ _); (refine ACall.of_pure (by assumption) (by rfl) ?_); conv => whnf) | ((with_reducible show Exists _); (refine ⟨_, ACall.of_pure (by assumption) (by rfl) ⟨rfl, rfl⟩, ?_⟩); conv => whnf) | ((with_reducible show _ ∧ _ ∧ _); (refine ⟨by omega, by omega, ?_⟩); conv => whnf) | fail)
      all_goals try (exfalso; omega)
      refine ⟨bcl_all _, ?_⟩
      rw [ht]
      (conv => whnf); (repeat' first | ((with_reducible refine Box.mk ?_); conv => whnf) | ((with_reducible refine And.intro (fun _ => ?_) (fun _ => ?_)) <;> conv => whnf) | ((with_reducible show AYld _ _ _ _ _); (refine AYld.of tok mixed ?_); conv => whnf) | ((with_reducible show forceH _ _); (refine (forceH_eq _ _).mpr ?_); conv => whnf) | ((with_reducible show ACall _ _ _ _ _); (refine ACall.of_pure (by assumption) (by rfl) ?_); conv => whnf) | ((with_reducible show Exists _); (refine ⟨_, ACall.of_pure (by assumption) (by rfl) ⟨rfl, rfl⟩, ?_⟩); conv => whnf) | ((with_reducible show _ ∧ _ ∧ _); (refine ⟨by omega, by omega, ?_⟩); conv => whnf) | fail)
      · rename_i h5
        rw [if_pos (by omega), hbl2, w1]
        refine aW [0] a1 rfl rfl rfl ?_
        (conv => whnf); (repeat' first | ((with_reducible refine Box.mk ?_); conv => whnf) | ((with_reducible refine And.intro (fun _ => ?_) (fun _ => ?_)) <;> conv => whnf) | ((with_reducible show AYld _ _ _ _ _); (refine AYld.of tok mixed ?_); conv => whnf) | ((with_reducible show forceH _ _); (refine (forceH_eq _ _).mpr ?_); conv => whnf) | ((with_reducible show ACall _ _ _ _ _); (refine ACall.of_pure (by assumption) (by rfl) ?_); conv => whnf) | ((with_reducible show Exists _); (refine ⟨_, ACall.of_pure (by assumption) (by rfl) ⟨rfl, rfl⟩, ?_⟩); conv => whnf) | ((with_reducible show _ ∧ _ ∧ _); (refine ⟨by omega, by omega, ?_⟩); conv => whnf) | fail)
        refine aW [0, 2] a2 rfl rfl rfl ?_
        (conv => whnf); (repeat' first | ((with_reducible refine Box.mk ?_); conv => whnf) | ((with_reducible refine And.intro (fun _ => ?_) (fun _ => ?_)) <;> conv => whnf) | ((with_reducible show AYld _ _ _ _ _); (refine AYld.of tok mixed ?_); conv => whnf) | ((with_reducible show forceH _ _); (refine (forceH_eq _ _).mpr ?_); conv => whnf) | ((with_reducible show ACall _ _ _ _ _); (refine ACall.of_pure (by assumption) (by rfl) ?_); conv => whnf) | ((with_reducible show Exists _); (refine ⟨_, ACall.of_pure (by assumption) (by rfl) ⟨rfl, rfl⟩, ?_⟩); conv => whnf) | ((with_reducible show _ ∧ _ ∧ _); (refine ⟨by omega, by omega, ?_⟩); conv => whnf) | fail)
        exact weak_ren_to [(0, true), (3, true)] rfl rfl rfl ⟨rfl, trivial⟩
      · rename_i h5
        rw [if_neg (by omega)]
        refine aW [0] b1 rfl rfl rfl ?_
        (conv => whnf); (repeat' first | ((with_reducible refine Box.mk ?_); conv => whnf) | ((with_reducible refine And.intro (fun _ => ?_) (fun _ => ?_)) <;> conv => whnf) | ((with_reducible show AYld _ _ _ _ _); (refine AYld.of tok mixed ?_); conv => whnf) | ((with_reducible show forceH _ _); (refine (forceH_eq _ _).mpr ?_); conv => whnf) | ((with_reducible show ACall _ _ _ _ _); (refine ACall.of_pure (by assumption) (by rfl) ?_); conv => whnf) | ((with_reducible show Exists _); (refine ⟨_, ACall.of_pure (by assumption) (by rfl) ⟨rfl, rfl⟩, ?_⟩); conv => whnf) | ((with_reducible show _ ∧ _ ∧ _); (refine ⟨by omega, by omega, ?_⟩); conv => whnf) | fail)
        rw [hbl2, w1]
        refine aW [0, 2] b2 rfl rfl rfl ?_
        (conv => whnf); (repeat' first | ((with_reducible refine Box.mk ?_); conv => whnf) | ((with_reducible refine And.intro (fun _ => ?_) (fun _ => ?_)) <;> conv => whnf) | ((with_reducible show AYld _ _ _ _ _); (refine AYld.of tok mixed ?_); conv => whnf) | ((with_reducible show forceH _ _); (refine (forceH_eq _ _).mpr ?_); conv => whnf) | ((with_reducible show ACall _ _ _ _ _); (refine ACall.of_pure (by assumption) (by rfl) ?_); conv => whnf) | ((with_reducible show Exists _); (refine ⟨_, ACall.of_pure (by assumption) (by rfl) ⟨rfl, rfl⟩, ?_⟩); conv => whnf) | ((with_reducible show _ ∧ _ ∧ _); (refine ⟨by omega, by omega, ?_⟩); conv => whnf) | fail)
        refine aW [0, 3] b3 rfl rfl rfl ?_
        (conv => whnf); (repeat' first | ((with_reducible refine Box.mk ?_); conv => whnf) | ((with_reducible refine And.intro (fun _ => ?_) (fun _ => ?_)) <;> conv => whnf) | ((with_reducible show AYld _ _ _ _ _); (refine AYld.of tok mixed ?_); conv => whnf) | ((with_reducible show forceH _ _); (refine (forceH_eq _ _).mpr ?_); conv => whnf) | ((with_reducible show ACall _ _ _ _ _); (refine ACall.of_pure (by assumption) (by rfl) ?_); conv => whnf) | ((with_reducible show Exists _); (refine ⟨_, ACall.of_pure (by assumption) (by rfl) ⟨rfl, rfl⟩, ?_⟩); conv => whnf) | ((with_reducible show _ ∧ _ ∧ _); (refine ⟨by omega, by omega, ?_⟩); conv => whnf) | fail)
        exact weak_ren_to [(0, true), (4, true)] rfl rfl rfl ⟨rfl, trivial⟩
    · rw [if_neg h6]
      obtain ⟨n, hn⟩ := nat_of (show 0 ≤ s.len by omega)
      have ht : List.drop 0 (List.take (min (((bcl v).length : Nat) : Int) s.len).toNat (bcl v)) = bcl (v.take n) := by
        rw [cut_bcl]
        congr 1
        rcases Nat.le_total v.length n with h | h
        · rw [List.take_of_length_le (by omega), List.take_of_length_le h]
        · congr 1; omega
      have hz : IntKind.i64.wrap (s.len - min (((bcl v).length : Nat) : Int) s.len) = ((n - v.length : Nat) : Int) := by rw [wrap_i64 (by omega) (by omega)]; omega
      have a1 := wRawN (v.take n) (by rw [List.length_take]; omega)
      have a2 := wRawR (v.take n) (by rw [List.length_take]; omega) (List.replicate (n - v.length) 0) (by rw [List.length_replicate]; omega)
      rw [hn, Int.toNat_natCast]
      unfold padB
      refine DCall.of_awp tok mixed fn25 (Nat.le_of_ble_eq_true rfl) ?_
      (conv => whnf); (repeat' first | ((with_reducible refine Box.mk ?_); conv => whnf) | ((with_reducible refine And.intro (fun _ => ?_) (fun _ => ?_)) <;> conv => whnf) | ((with_reducible show AYld _ _ _ _ _); (refine AYld.of tok mixed ?_); conv => whnf) | ((with_reducible show forceH _ _); (refine (forceH_eq _ _).mpr ?_); conv => whnf) | ((with_reducible show ACall _ _ _ _ _); (refine ACall.of_pure (by assumption) (by rfl) ?_); conv => whnf) | ((with_reducible show Exists _); (refine ⟨_, ACall.of_pure (by assumption) (by rfl) ⟨rfl, rfl⟩, ?_⟩); conv => whnf) | ((with_reducible show _ ∧ _ ∧ _); (refine ⟨by omega, by omega, ?_⟩); conv => whnf) | fail)
      all_goals try (exfalso; omega)
      refine ⟨[(2004, []), (2010, []), (3006, [4])], by kernel_rfl, ?_⟩
      (conv => whnf); (repeat' first | ((with_reducible refine Box.mk ?_); conv => whnf) | ((with_reducible refine And.intro (fun _ => ?_) (fun _ => ?_)) <;> conv => whnf) | ((with_reducible show AYld _ _ _ _ _); (refine AYld.of tok mixed ?_); conv => whnf) | ((with_reducible show forceH _ _); (refine (forceH_eq _ _).mpr ?_); conv => whnf) | ((with_reducible show ACall _ _ _ _ _); (refine ACall.of_pure (by assumption) (by rfl) ?_); conv => whnf) | ((with_reducible show Exists _); (refine ⟨_, ACall.of_pure (by assumption) (by rfl) ⟨rfl, rfl⟩, ?_⟩); conv => whnf) | ((with_reducible show _ ∧ _ ∧ _); (refine ⟨by omega, by omega, ?_⟩); conv => whnf) | fail)
      refine ⟨bcl_all _, ?_⟩
      rw [ht]
      (conv => whnf); (repeat' first | ((with_reducible refine Box.mk ?_); conv => whnf) | ((with_reducible refine And.intro (fun _ => ?_) (fun _ => ?_)) <;> conv => whnf) | ((with_reducible show AYld _ _ _ _ _); (refine AYld.of tok mixed ?_); conv => whnf) | ((with_reducible show forceH _ _); (refine (forceH_eq _ _).mpr ?_); conv => whnf) | ((with_reducible show ACall _ _ _ _ _); (refine ACall.of_pure (by assumption) (by rfl) ?_); conv => whnf) | ((with_reducible show Exists _); (refine ⟨_, ACall.of_pure (by assumption) (by rfl) ⟨rfl, rfl⟩, ?_⟩); conv => whnf) | ((with_reducible show _ ∧ _ ∧ _); (refine ⟨by omega, by omega, ?_⟩); conv => whnf) | fail)
      refine aDw [0] a1 rfl rfl rfl ?_
      (conv => whnf); (repeat' first | ((with_reducible refine Box.mk ?_); conv => whnf) | ((with_reducible refine And.intro (fun _ => ?_) (fun _ => ?_)) <;> conv => whnf) | ((with_reducible show AYld _ _ _ _ _); (refine AYld.of tok mixed ?_); conv => whnf) | ((with_reducible show forceH _ _); (refine (forceH_eq _ _).mpr ?_); conv => whnf) | ((with_reducible show ACall _ _ _ _ _); (refine ACall.of_pure (by assumption) (by rfl) ?_); conv => whnf) | ((with_reducible show Exists _); (refine ⟨_, ACall.of_pure (by assumption) (by rfl) ⟨rfl, rfl⟩, ?_⟩); conv => whnf) | ((with_reducible show _ ∧ _ ∧ _); (refine ⟨by omega, by omega, ?_⟩); conv => whnf) | fail)
      (refine And.intro ?_ ?_); (focus ((conv => whnf); (repeat' first | exact trivial | ((refine And.intro ?_ ?_); (focus ((conv => whnf); (first | exact ⟨rfl, rfl⟩ | exact ⟨by decide, by decide, rfl, rfl⟩ | exact ⟨by omega, by omega, rfl, rfl⟩ | exact ⟨by (simp only [List.length_drop, List.length_take]; omega), rfl, rfl⟩ | exact ⟨_, rfl, rfl, rfl⟩ | exact ⟨by omega, _, by assumption, rfl, rfl, rfl⟩ | ((refine ACall.of_pure (by assumption) (by rfl) ?_); (refine And.intro ?_ ?_ <;> rfl))))); (conv => whnf)))))
      (conv => whnf); (repeat' first | ((with_reducible refine Box.mk ?_); conv => whnf) | ((with_reducible refine And.intro (fun _ => ?_) (fun _ => ?_)) <;> conv => whnf) | ((with_reducible show AYld _ _ _ _ _); (refine AYld.of tok mixed ?_); conv => whnf) | ((with_reducible show forceH _ _); (refine (forceH_eq _ _).mpr ?_); conv => whnf) | ((with_reducible show ACall _ _ _ _ _); (refine ACall.of_pure (by assumption) (by rfl) ?_); conv => whnf) | ((with_reducible show Exists _); (refine ⟨_, ACall.of_pure (by assumption) (by rfl) ⟨rfl, rfl⟩, ?_⟩); conv => whnf) | ((with_reducible show _ ∧ _ ∧ _); (refine ⟨by omega, by omega, ?_⟩); conv => whnf) | fail)
      rw [hz]
      refine ⟨by show ((n - v.length : Nat) : Int) * ((1 : Nat) : Int) ≤ _; omega, by omega, ?_⟩
      (conv => whnf); (repeat' first | ((with_reducible refine Box.mk ?_); conv => whnf) | ((with_reducible refine And.intro (fun _ => ?_) (fun _ => ?_)) <;> conv => whnf) | ((with_reducible show AYld _ _ _ _ _); (refine AYld.of tok mixed ?_); conv => whnf) | ((with_reducible show forceH _ _); (refine (forceH_eq _ _).mpr ?_); conv => whnf) | ((with_reducible show ACall _ _ _ _ _); (refine ACall.of_pure (by assumption) (by rfl) ?_); conv => whnf) | ((with_reducible show Exists _); (refine ⟨_, ACall.of_pure (by assumption) (by rfl) ⟨rfl, rfl⟩, ?_⟩); conv => whnf) | ((with_reducible show _ ∧ _ ∧ _); (refine ⟨by omega, by omega, ?_⟩); conv => whnf) | fail)
      rw [Int.toNat_natCast, zeros_bcl]
      refine aDw [0, 2] a2 rfl rfl rfl ?_
      (conv => whnf); (repeat' first | ((with_reducible refine Box.mk ?_); conv => whnf) | ((with_reducible refine And.intro (fun _ => ?_) (fun _ => ?_)) <;> conv => whnf) | ((with_reducible show AYld _ _ _ _ _); (refine AYld.of tok mixed ?_); conv => whnf) | ((with_reducible show forceH _ _); (refine (forceH_eq _ _).mpr ?_); conv => whnf) | ((with_reducible show ACall _ _ _ _ _); (refine ACall.of_pure (by assumption) (by rfl) ?_); conv => whnf) | ((with_reducible show Exists _); (refine ⟨_, ACall.of_pure (by assumption) (by rfl) ⟨rfl, rfl⟩, ?_⟩); conv => whnf) | ((with_reducible show _ ∧ _ ∧ _); (refine ⟨by omega, by omega, ?_⟩); conv => whnf) | fail)
      exact weak_ren_to [(0, true), (3, true)] rfl rfl rfl ⟨rfl, trivial⟩
  · rw [hb] at q0
    have e : putB s v = [] := by unfold putB; rw [if_pos hR]
    rw [e]
    refine DCall.of_awp tok mixed fn25 (Nat.le_of_ble_eq_true rfl) ?_
    (conv => whnf); (repeat' first | ((with_reducible refine Box.mk ?_); conv => whnf) | ((with_reducible refine And.intro (fun _ => ?_) (fun _ => ?_)) <;> conv => whnf) | ((with_reducible show AYld _ _ _ _ _); (refine AYld.of tok mixed ?_); conv => whnf) | ((with_reducible show forceH _ _); (refine (forceH_eq _ _).mpr ?_); conv => whnf) | ((with_reducible show ACall _ _ _ _ _); (refine ACall.of_pure (by assumption) (by rfl) ?_); conv => whnf) | ((with_reducible show Exists _); (refine ⟨_, ACall.of_pure (by assumption) (by rfl) ⟨rfl, rfl⟩, ?_⟩); conv => whnf) | ((with_reducible show _ ∧ _ ∧ _); (refine ⟨by omega, by omega, ?_⟩); conv => whnf) | fail)
    exact (weak_ren_to (l := [(0, mkRes [])]) (H' := wN) [(0, true)] rfl rfl rfl ⟨rfl, trivial⟩).trans (weak_nilrow (s := ⟨envL [(0, mkRes [])], wN⟩) (l := [(0, mkRes [])]) (H' := [.box 26 [.own 1]]) _ 1 (by decide) ⟨.inl rfl, trivial⟩ (nrBox 1 _))
theorem one_byte (n : Nat) : [[AV.int .u8 (IntKind.u8.wrap ((n : Nat) : Int))]] = bcl (numB n 1) := by
  rw [u8_of]
  show [[AV.int .u8 _]] = [[AV.int .u8 ((UInt8.ofNat (n / 256 ^ 0)).toNat : Int)]]
  rw [Nat.pow_zero, Nat.div_one]
theorem one_255 : [[AV.int .u8 255]] = bcl (numB 255 1) := rfl
set_option maxHeartbeats 8000000 in
theorem xfPut_ok (s : Sc) (v : Bs) (hv : v.length ≤ 1000000000) : DCall P 26 [sv s, .sl (bcl v)] [] (.sl (bcl (putB s v))) [] := by
  have q0 := xfRight_ok s
  have hbl := bcl_len v
  rcases right_cases s with ⟨hR, hb⟩ | ⟨hR, hb⟩
  · rw [hb] at q0
    unfold putB
    rw [if_neg (fun h => h hR)]
    unfold RightS at hR
    by_cases h6 : s.len = 65535
    · rw [if_pos h6]
      have hl2 : (v.take 65535).length ≤ 65535 := by rw [List.length_take]; omega
      have hbl2 := bcl_len (v.take 65535)
      have w1 : IntKind.u64.wrap (((v.take 65535).length : Nat) : Int) = (((v.take 65535).length : Nat) : Int) := wrap_u64 (by omega) (by omega)
      have a1 := xNum_own (v.take 65535).length (Nat.lt_of_le_of_lt hl2 (Nat.le_of_ble_eq_true rfl)) 2
      rw [show szN 2 = 2 from rfl] at a1
      have n1 := bcl_len (numB (v.take 65535).length 1)
      have n2 := bcl_len (numB 255 1)
      have n3 := bcl_len (numB (v.take 65535).length 2)
      rw [numB_len] at n1 n2 n3
      have c1 := bcl_cells (v.take 65535)
      have c2 := bcl_cells (numB (v.take 65535).length 2)
      have o1 := one_byte (v.take 65535).length
      have ca1 := bcl_cells (numB (v.take 65535).length 1)
      have ca2 := bcl_cells (numB 255 1)
      refine DCall.of_awp tok mixed fn26 (Nat.le_of_ble_eq_true rfl) ?_
      by_cases hlong : 65535 < v.length
      · have h65 : (v.take 65535).length = 65535 := by rw [List.length_take]; omega
        have ht : List.drop 0 (List.take (65535 : Int).toNat (bcl v)) = bcl (v.take 65535) := cut_bcl v 65535
        (conv => whnf); (repeat' first | ((with_reducible refine Box.mk ?_); conv => whnf) | ((with_reducible refine And.intro (fun _ => ?_) (fun _ => ?_)) <;> conv => whnf) | ((with_reducible show AYld _ _ _ _ _); (refine AYld.of tok mixed ?_); conv => whnf) | ((with_reducible show forceH _ _); (refine (forceH_eq _ _).mpr ?_); conv => whnf) | ((with_reducible show ACall _ _ _ _ _); (refine ACall.of_pure (by assumption) (by rfl) ?_); conv => whnf) | ((with_reducible show Exists _); (refine ⟨_, ACall.of_pure (by assumption) (by rfl) ⟨rfl, rfl⟩, ?_⟩); conv => whnf) | ((with_reducible show _ ∧ _ ∧ _); (refine ⟨by omega, by omega, ?_⟩); conv => whnf) | fail)
        all_goals try (exfalso; omega)
        refine ⟨bcl_all _, ?_⟩
        rw [ht]
        generalize v.take 65535 = u at *
        (conv => whnf); (repeat' first | ((with_reducible refine Box.mk ?_); conv => whnf) | ((with_reducible refine And.intro (fun _ => ?_) (fun _ => ?_)) <;> conv => whnf) | ((with_reducible show AYld _ _ _ _ _); (refine AYld.of tok mixed ?_); conv => whnf) | ((with_reducible show forceH _ _); (refine (forceH_eq _ _).mpr ?_); conv => whnf) | ((with_reducible show ACall _ _ _ _ _); (refine ACall.of_pure (by assumption) (by rfl) ?_); conv => whnf) | ((with_reducible show Exists _); (refine ⟨_, ACall.of_pure (by assumption) (by rfl) ⟨rfl, rfl⟩, ?_⟩); conv => whnf) | ((with_reducible show _ ∧ _ ∧ _); (refine ⟨by omega, by omega, ?_⟩); conv => whnf) | fail)
        · exfalso; omega
        · rename_i h5
          rw [if_neg (by omega), bcl_app, bcl_app, one_255]
          generalize bcl (numB u.length 2) = y3 at *
          generalize bcl (numB 255 1) = y1 at *
          refine ⟨ca2, fun h => (by rw [h] at n2; cases n2), fun _ => ⟨by rw [n2]; exact Nat.le_of_ble_eq_true rfl, by rw [n2]; exact Nat.le_of_ble_eq_true rfl, ?_⟩⟩
          (conv => whnf); (repeat' first | ((with_reducible refine Box.mk ?_); conv => whnf) | ((with_reducible refine And.intro (fun _ => ?_) (fun _ => ?_)) <;> conv => whnf) | ((with_reducible show AYld _ _ _ _ _); (refine AYld.of tok mixed ?_); conv => whnf) | ((with_reducible show forceH _ _); (refine (forceH_eq _ _).mpr ?_); conv => whnf) | ((with_reducible show ACall _ _ _ _ _); (refine ACall.of_pure (by assumption) (by rfl) ?_); conv => whnf) | ((with_reducible show Exists _); (refine ⟨_, ACall.of_pure (by assumption) (by rfl) ⟨rfl, rfl⟩, ?_⟩); conv => whnf) | ((with_reducible show _ ∧ _ ∧ _); (refine ⟨by omega, by omega, ?_⟩); conv => whnf) | fail)
          rw [hbl2, w1]
          refine aW [] a1 rfl rfl rfl ?_
          (conv => whnf); (repeat' first | ((with_reducible refine Box.mk ?_); conv => whnf) | ((with_reducible refine And.intro (fun _ => ?_) (fun _ => ?_)) <;> conv => whnf) | ((with_reducible show AYld _ _ _ _ _); (refine AYld.of tok mixed ?_); conv => whnf) | ((with_reducible show forceH _ _); (refine (forceH_eq _ _).mpr ?_); conv => whnf) | ((with_reducible show ACall _ _ _ _ _); (refine ACall.of_pure (by assumption) (by rfl) ?_); conv => whnf) | ((with_reducible show Exists _); (refine ⟨_, ACall.of_pure (by assumption) (by rfl) ⟨rfl, rfl⟩, ?_⟩); conv => whnf) | ((with_reducible show _ ∧ _ ∧ _); (refine ⟨by omega, by omega, ?_⟩); conv => whnf) | fail)
          refine ⟨c2, by rw [n2, n3]; exact Nat.le_of_ble_eq_true rfl, by rw [n2, n3]; exact Nat.le_of_ble_eq_true rfl, ?_⟩
          (conv => whnf); (repeat' first | ((with_reducible refine Box.mk ?_); conv => whnf) | ((with_reducible refine And.intro (fun _ => ?_) (fun _ => ?_)) <;> conv => whnf) | ((with_reducible show AYld _ _ _ _ _); (refine AYld.of tok mixed ?_); conv => whnf) | ((with_reducible show forceH _ _); (refine (forceH_eq _ _).mpr ?_); conv => whnf) | ((with_reducible show ACall _ _ _ _ _); (refine ACall.of_pure (by assumption) (by rfl) ?_); conv => whnf) | ((with_reducible show Exists _); (refine ⟨_, ACall.of_pure (by assumption) (by rfl) ⟨rfl, rfl⟩, ?_⟩); conv => whnf) | ((with_reducible show _ ∧ _ ∧ _); (refine ⟨by omega, by omega, ?_⟩); conv => whnf) | fail)
          refine ⟨c1, by rw [List.length_append, n2, n3, hbl2]; show (1 + 2 + _) * 1 ≤ _; omega, by rw [List.length_append, n2, n3, hbl2]; omega, ?_⟩
          (conv => whnf); (repeat' first | ((with_reducible refine Box.mk ?_); conv => whnf) | ((with_reducible refine And.intro (fun _ => ?_) (fun _ => ?_)) <;> conv => whnf) | ((with_reducible show AYld _ _ _ _ _); (refine AYld.of tok mixed ?_); conv => whnf) | ((with_reducible show forceH _ _); (refine (forceH_eq _ _).mpr ?_); conv => whnf) | ((with_reducible show ACall _ _ _ _ _); (refine ACall.of_pure (by assumption) (by rfl) ?_); conv => whnf) | ((with_reducible show Exists _); (refine ⟨_, ACall.of_pure (by assumption) (by rfl) ⟨rfl, rfl⟩, ?_⟩); conv => whnf) | ((with_reducible show _ ∧ _ ∧ _); (refine ⟨by omega, by omega, ?_⟩); conv => whnf) | fail)
          exact weak_cr 5 [] rfl rfl rfl rfl rfl
      · have hu : v.take 65535 = v := List.take_of_length_le (by omega)
        rw [hu] at hl2 hbl2 w1 a1 n1 n3 c1 c2 o1 ca1 ⊢
        (conv => whnf); (repeat' first | ((with_reducible refine Box.mk ?_); conv => whnf) | ((with_reducible refine And.intro (fun _ => ?_) (fun _ => ?_)) <;> conv => whnf) | ((with_reducible show AYld _ _ _ _ _); (refine AYld.of tok mixed ?_); conv => whnf) | ((with_reducible show forceH _ _); (refine (forceH_eq _ _).mpr ?_); conv => whnf) | ((with_reducible show ACall _ _ _ _ _); (refine ACall.of_pure (by assumption) (by rfl) ?_); conv => whnf) | ((with_reducible show Exists _); (refine ⟨_, ACall.of_pure (by assumption) (by rfl) ⟨rfl, rfl⟩, ?_⟩); conv => whnf) | ((with_reducible show _ ∧ _ ∧ _); (refine ⟨by omega, by omega, ?_⟩); conv => whnf) | fail)
        all_goals try (exfalso; omega)
        · rename_i h5
          rw [if_pos (by omega), bcl_app, hbl, o1]
          have n1 := n1
          generalize bcl (numB v.length 1) = y1 at *
          generalize bcl v = y2 at *
          refine ⟨ca1, fun h => (by rw [h] at n1; cases n1), fun _ => ⟨by rw [n1]; exact Nat.le_of_ble_eq_true rfl, by rw [n1]; exact Nat.le_of_ble_eq_true rfl, ?_⟩⟩
          (conv => whnf); (repeat' first | ((with_reducible refine Box.mk ?_); conv => whnf) | ((with_reducible refine And.intro (fun _ => ?_) (fun _ => ?_)) <;> conv => whnf) | ((with_reducible show AYld _ _ _ _ _); (refine AYld.of tok mixed ?_); conv => whnf) | ((with_reducible show forceH _ _); (refine (forceH_eq _ _).mpr ?_); conv => whnf) | ((with_reducible show ACall _ _ _ _ _); (refine ACall.of_pure (by assumption) (by rfl) ?_); conv => whnf) | ((with_reducible show Exists _); (refine ⟨_, ACall.of_pure (by assumption) (by rfl) ⟨rfl, rfl⟩, ?_⟩); conv => whnf) | ((with_reducible show _ ∧ _ ∧ _); (refine ⟨by omega, by omega, ?_⟩); conv => whnf) | fail)
          refine ⟨c1, by rw [n1]; show (1 + y2.length) * 1 ≤ _; omega, by rw [n1]; omega, ?_⟩
          (conv => whnf); (repeat' first | ((with_reducible refine Box.mk ?_); conv => whnf) | ((with_reducible refine And.intro (fun _ => ?_) (fun _ => ?_)) <;> conv => whnf) | ((with_reducible show AYld _ _ _ _ _); (refine AYld.of tok mixed ?_); conv => whnf) | ((with_reducible show forceH _ _); (refine (forceH_eq _ _).mpr ?_); conv => whnf) | ((with_reducible show ACall _ _ _ _ _); (refine ACall.of_pure (by assumption) (by rfl) ?_); conv => whnf) | ((with_reducible show Exists _); (refine ⟨_, ACall.of_pure (by assumption) (by rfl) ⟨rfl, rfl⟩, ?_⟩); conv => whnf) | ((with_reducible show _ ∧ _ ∧ _); (refine ⟨by omega, by omega, ?_⟩); conv => whnf) | fail)
          exact weak_cr 3 [] rfl rfl rfl rfl rfl
        · rename_i h5
          rw [if_neg (by omega), bcl_app, bcl_app, one_255]
          generalize bcl (numB v.length 2) = y3 at *
          generalize bcl (numB 255 1) = y1 at *
          refine ⟨ca2, fun h => (by rw [h] at n2; cases n2), fun _ => ⟨by rw [n2]; exact Nat.le_of_ble_eq_true rfl, by rw [n2]; exact Nat.le_of_ble_eq_true rfl, ?_⟩⟩
          (conv => whnf); (repeat' first | ((with_reducible refine Box.mk ?_); conv => whnf) | ((with_reducible refine And.intro (fun _ => ?_) (fun _ => ?_)) <;> conv => whnf) | ((with_reducible show AYld _ _ _ _ _); (refine AYld.of tok mixed ?_); conv => whnf) | ((with_reducible show forceH _ _); (refine (forceH_eq _ _).mpr ?_); conv => whnf) | ((with_reducible show ACall _ _ _ _ _); (refine ACall.of_pure (by assumption) (by rfl) ?_); conv => whnf) | ((with_reducible show Exists _); (refine ⟨_, ACall.of_pure (by assumption) (by rfl) ⟨rfl, rfl⟩, ?_⟩); conv => whnf) | ((with_reducible show _ ∧ _ ∧ _); (refine ⟨by omega, by omega, ?_⟩); conv => whnf) | fail)
          rw [hbl, w1]
          refine aW [] a1 rfl rfl rfl ?_
          (conv => whnf); (repeat' first | ((with_reducible refine Box.mk ?_); conv => whnf) | ((with_reducible refine And.intro (fun _ => ?_) (fun _ => ?_)) <;> conv => whnf) | ((with_reducible show AYld _ _ _ _ _); (refine AYld.of tok mixed ?_); conv => whnf) | ((with_reducible show forceH _ _); (refine (forceH_eq _ _).mpr ?_); conv => whnf) | ((with_reducible show ACall _ _ _ _ _); (refine ACall.of_pure (by assumption) (by rfl) ?_); conv => whnf) | ((with_reducible show Exists _); (refine ⟨_, ACall.of_pure (by assumption) (by rfl) ⟨rfl, rfl⟩, ?_⟩); conv => whnf) | ((with_reducible show _ ∧ _ ∧ _); (refine ⟨by omega, by omega, ?_⟩); conv => whnf) | fail)
          refine ⟨c2, by rw [n2, n3]; exact Nat.le_of_ble_eq_true rfl, by rw [n2, n3]; exact Nat.le_of_ble_eq_true rfl, ?_⟩
          (conv => whnf); (repeat' first | ((with_reducible refine Box.mk ?_); conv => whnf) | ((with_reducible refine And.intro (fun _ => ?_) (fun _ => ?_)) <;> conv => whnf) | ((with_reducible show AYld _ _ _ _ _); (refine AYld.of tok mixed ?_); conv => whnf) | ((with_reducible show forceH _ _); (refine (forceH_eq _ _).mpr ?_); conv => whnf) | ((with_reducible show ACall _ _ _ _ _); (refine ACall.of_pure (by assumption) (by rfl) ?_); conv => whnf) | ((with_reducible show Exists _); (refine ⟨_, ACall.of_pure (by assumption) (by rfl) ⟨rfl, rfl⟩, ?_⟩); conv => whnf) | ((with_reducible show _ ∧ _ ∧ _); (refine ⟨by omega, by omega, ?_⟩); conv => whnf) | fail)
          refine ⟨c1, by rw [List.length_append, n2, n3, hbl]; show (1 + 2 + _) * 1 ≤ _; omega, by rw [List.length_append, n2, n3, hbl]; omega, ?_⟩
          (conv => whnf); (repeat' first | ((with_reducible refine Box.mk ?_); conv => whnf) | ((with_reducible refine And.intro (fun _ => ?_) (fun _ => ?_)) <;> conv => whnf) | ((with_reducible show AYld _ _ _ _ _); (refine AYld.of tok mixed ?_); conv => whnf) | ((with_reducible show forceH _ _); (refine (forceH_eq _ _).mpr ?_); conv => whnf) | ((with_reducible show ACall _ _ _ _ _); (refine ACall.of_pure (by assumption) (by rfl) ?_); conv => whnf) | ((with_reducible show Exists _); (refine ⟨_, ACall.of_pure (by assumption) (by rfl) ⟨rfl, rfl⟩, ?_⟩); conv => whnf) | ((with_reducible show _ ∧ _ ∧ _); (refine ⟨by omega, by omega, ?_⟩); conv => whnf) | fail)
          exact weak_cr 5 [] rfl rfl rfl rfl rfl
    · rw [if_neg h6]
      obtain ⟨n, hn⟩ := nat_of (show 0 ≤ s.len by omega)
      rw [hn, Int.toNat_natCast]
      refine DCall.of_awp tok mixed fn26 (Nat.le_of_ble_eq_true rfl) ?_
      (conv => whnf); (repeat' first | ((with_reducible refine Box.mk ?_); conv => whnf) | ((with_reducible refine And.intro (fun _ => ?_) (fun _ => ?_)) <;> conv => whnf) | ((with_reducible show AYld _ _ _ _ _); (refine AYld.of tok mixed ?_); conv => whnf) | ((with_reducible show forceH _ _); (refine (forceH_eq _ _).mpr ?_); conv => whnf) | ((with_reducible show ACall _ _ _ _ _); (refine ACall.of_pure (by assumption) (by rfl) ?_); conv => whnf) | ((with_reducible show Exists _); (refine ⟨_, ACall.of_pure (by assumption) (by rfl) ⟨rfl, rfl⟩, ?_⟩); conv => whnf) | ((with_reducible show _ ∧ _ ∧ _); (refine ⟨by omega, by omega, ?_⟩); conv => whnf) | fail)
      all_goals try (exfalso; omega)
      refine aloop (fun i : Nat => i ≤ n) (fun i => ⟨envL [(1, .sl (bcl v)), (2, .ptr 0 0), (5, .own 1), (6, .int .i64 i)], [.box 30 (scc s), .row 5 1 (bcl (padB v i))]⟩) (fun i => n - i) 0 (Nat.zero_le _)
        (by show Weak _ _ ⟨_, [_, Ob.row _ _ (bcl (padB v 0))]⟩; rw [pad0]; exact weak_nilrow (l := [(1, .sl (bcl v)), (2, .ptr 0 0), (5, .own 1), (6, .int .i64 0)]) (H' := [.box 30 (scc s)]) 5 1 (by decide) ⟨.inl rfl, .inl rfl, .inr ⟨rfl, rfl⟩, .inl rfl, trivial⟩ (nrh_refl _ _)) ?_
      intro i hi
      have hi : i ≤ n := hi
      have hpl := bcl_len (padB v i)
      rw [pad_len] at hpl
      by_cases hil : i < n
      · by_cases hiv : i < v.length
        · have hg0 : v[i]? = some v[i] := List.getElem?_eq_getElem hiv
          have hp := pad_in hg0
          have hc := bcl_get hg0
          generalize v[i] = c at *
          (conv => whnf); (repeat' first | ((with_reducible refine Box.mk ?_); conv => whnf) | ((with_reducible refine And.intro (fun _ => ?_) (fun _ => ?_)) <;> conv => whnf) | ((with_reducible show AYld _ _ _ _ _); (refine AYld.of tok mixed ?_); conv => whnf) | ((with_reducible show forceH _ _); (refine (forceH_eq _ _).mpr ?_); conv => whnf) | ((with_reducible show ACall _ _ _ _ _); (refine ACall.of_pure (by assumption) (by rfl) ?_); conv => whnf) | ((with_reducible show Exists _); (refine ⟨_, ACall.of_pure (by assumption) (by rfl) ⟨rfl, rfl⟩, ?_⟩); conv => whnf) | ((with_reducible show _ ∧ _ ∧ _); (refine ⟨by omega, by omega, ?_⟩); conv => whnf) | fail)
          all_goals try (exfalso; omega)
          refine ⟨by omega, _, hc, rfl, ?_⟩
          (conv => whnf); (repeat' first | ((with_reducible refine Box.mk ?_); conv => whnf) | ((with_reducible refine And.intro (fun _ => ?_) (fun _ => ?_)) <;> conv => whnf) | ((with_reducible show AYld _ _ _ _ _); (refine AYld.of tok mixed ?_); conv => whnf) | ((with_reducible show forceH _ _); (refine (forceH_eq _ _).mpr ?_); conv => whnf) | ((with_reducible show ACall _ _ _ _ _); (refine ACall.of_pure (by assumption) (by rfl) ?_); conv => whnf) | ((with_reducible show Exists _); (refine ⟨_, ACall.of_pure (by assumption) (by rfl) ⟨rfl, rfl⟩, ?_⟩); conv => whnf) | ((with_reducible show _ ∧ _ ∧ _); (refine ⟨by omega, by omega, ?_⟩); conv => whnf) | fail)
          refine ⟨bcl_cells [c], by rw [hpl]; show (i + 1) * 1 ≤ _; omega, by rw [hpl]; show i + 1 ≤ _; omega, ?_⟩
          (conv => whnf); (repeat' first | ((with_reducible refine Box.mk ?_); conv => whnf) | ((with_reducible refine And.intro (fun _ => ?_) (fun _ => ?_)) <;> conv => whnf) | ((with_reducible show AYld _ _ _ _ _); (refine AYld.of tok mixed ?_); conv => whnf) | ((with_reducible show forceH _ _); (refine (forceH_eq _ _).mpr ?_); conv => whnf) | ((with_reducible show ACall _ _ _ _ _); (refine ACall.of_pure (by assumption) (by rfl) ?_); conv => whnf) | ((with_reducible show Exists _); (refine ⟨_, ACall.of_pure (by assumption) (by rfl) ⟨rfl, rfl⟩, ?_⟩); conv => whnf) | ((with_reducible show _ ∧ _ ∧ _); (refine ⟨by omega, by omega, ?_⟩); conv => whnf) | fail)
          refine ⟨i + 1, hil, by show n - (i + 1) < n - i; omega, weak_ren_to [(0, true), (3, true)] rfl rfl ?_ ⟨rfl, rfl, rfl, wrap_nat (m := 1) (by omega), trivial⟩⟩
          rw [hp, bcl_app]; rfl
        · have hp := pad_out (v := v) (k := i) (by omega)
          (conv => whnf); (repeat' first | ((with_reducible refine Box.mk ?_); conv => whnf) | ((with_reducible refine And.intro (fun _ => ?_) (fun _ => ?_)) <;> conv => whnf) | ((with_reducible show AYld _ _ _ _ _); (refine AYld.of tok mixed ?_); conv => whnf) | ((with_reducible show forceH _ _); (refine (forceH_eq _ _).mpr ?_); conv => whnf) | ((with_reducible show ACall _ _ _ _ _); (refine ACall.of_pure (by assumption) (by rfl) ?_); conv => whnf) | ((with_reducible show Exists _); (refine ⟨_, ACall.of_pure (by assumption) (by rfl) ⟨rfl, rfl⟩, ?_⟩); conv => whnf) | ((with_reducible show _ ∧ _ ∧ _); (refine ⟨by omega, by omega, ?_⟩); conv => whnf) | fail)
          all_goals try (exfalso; omega)
          refine ⟨bcl_cells [0], by rw [hpl]; show (i + 1) * 1 ≤ _; omega, by rw [hpl]; show i + 1 ≤ _; omega, ?_⟩
          (conv => whnf); (repeat' first | ((with_reducible refine Box.mk ?_); conv => whnf) | ((with_reducible refine And.intro (fun _ => ?_) (fun _ => ?_)) <;> conv => whnf) | ((with_reducible show AYld _ _ _ _ _); (refine AYld.of tok mixed ?_); conv => whnf) | ((with_reducible show forceH _ _); (refine (forceH_eq _ _).mpr ?_); conv => whnf) | ((with_reducible show ACall _ _ _ _ _); (refine ACall.of_pure (by assumption) (by rfl) ?_); conv => whnf) | ((with_reducible show Exists _); (refine ⟨_, ACall.of_pure (by assumption) (by rfl) ⟨rfl, rfl⟩, ?_⟩); conv => whnf) | ((with_reducible show _ ∧ _ ∧ _); (refine ⟨by omega, by omega, ?_⟩); conv => whnf) | fail)
          refine ⟨i + 1, hil, by show n - (i + 1) < n - i; omega, weak_ren_to [(0, true), (3, true)] rfl rfl ?_ ⟨rfl, rfl, rfl, wrap_nat (m := 1) (by omega), trivial⟩⟩
          rw [hp, bcl_app]; rfl
      · have : i = n := by omega
        subst this
        (conv => whnf); (repeat' first | ((with_reducible refine Box.mk ?_); conv => whnf) | ((with_reducible refine And.intro (fun _ => ?_) (fun _ => ?_)) <;> conv => whnf) | ((with_reducible show AYld _ _ _ _ _); (refine AYld.of tok mixed ?_); conv => whnf) | ((with_reducible show forceH _ _); (refine (forceH_eq _ _).mpr ?_); conv => whnf) | ((with_reducible show ACall _ _ _ _ _); (refine ACall.of_pure (by assumption) (by rfl) ?_); conv => whnf) | ((with_reducible show Exists _); (refine ⟨_, ACall.of_pure (by assumption) (by rfl) ⟨rfl, rfl⟩, ?_⟩); conv => whnf) | ((with_reducible show _ ∧ _ ∧ _); (refine ⟨by omega, by omega, ?_⟩); conv => whnf) | fail)
        all_goals try (exfalso; omega)
        exact weak_cr 1 [] rfl rfl rfl rfl rfl
  · rw [hb] at q0
    have e : putB s v = [] := by unfold putB; rw [if_pos hR]
    rw [e]
    refine DCall.of_awp tok mixed fn26 (Nat.le_of_ble_eq_true rfl) ?_
    (conv => whnf); (repeat' first | ((with_reducible refine Box.mk ?_); conv => whnf) | ((with_reducible refine And.intro (fun _ => ?_) (fun _ => ?_)) <;> conv => whnf) | ((with_reducible show AYld _ _ _ _ _); (refine AYld.of tok mixed ?_); conv => whnf) | ((with_reducible show forceH _ _); (refine (forceH_eq _ _).mpr ?_); conv => whnf) | ((with_reducible show ACall _ _ _ _ _); (refine ACall.of_pure (by assumption) (by rfl) ?_); conv => whnf) | ((with_reducible show Exists _); (refine ⟨_, ACall.of_pure (by assumption) (by rfl) ⟨rfl, rfl⟩, ?_⟩); conv => whnf) | ((with_reducible show _ ∧ _ ∧ _); (refine ⟨by omega, by omega, ?_⟩); conv => whnf) | fail)
    exact weak_nr [] rfl rfl rfl rfl
set_option maxHeartbeats 4000000 in
theorem xfSize_ok (l : List Sc) (hl : l.length ≤ 100000000000) : PCall P 22 [.sl (scl l)] (.int .i64 (sizesF l)) := by
  have hll := scl_len l
  refine PCall.of_awp tok mixed fn22 (Nat.le_of_ble_eq_true rfl) ?_
  (conv => whnf); (repeat' first | ((with_reducible refine Box.mk ?_); conv => whnf) | ((with_reducible refine And.intro (fun _ => ?_) (fun _ => ?_)) <;> conv => whnf) | ((with_reducible show AYld _ _ _ _ _); (refine AYld.of tok mixed ?_); conv => whnf) | ((with_reducible show forceH _ _); (refine (forceH_eq _ _).mpr ?_); conv => whnf) | ((with_reducible show ACall _ _ _ _ _); (refine ACall.of_pure (by assumption) (by rfl) ?_); conv => whnf) | ((with_reducible show Exists _); (refine ⟨_, ACall.of_pure (by assumption) (by rfl) ⟨rfl, rfl⟩, ?_⟩); conv => whnf) | ((with_reducible show _ ∧ _ ∧ _); (refine ⟨by omega, by omega, ?_⟩); conv => whnf) | fail)
  refine aloop (fun i : Nat => i ≤ l.length) (fun i => ⟨envL [(0, .sl (scl l)), (3, .int .i64 (sizesF (l.take i))), (4, .int .i64 i)], []⟩) (fun i => l.length - i) 0 (Nat.zero_le _) (weak_to ⟨rfl, rfl, rfl, trivial⟩ rfl) ?_
  intro i hi
  by_cases hil : i < l.length
  · have hg0 : l[i]? = some l[i] := List.getElem?_eq_getElem hil
    have hg := scl_get hg0
    have hst := sizes_take hg0
    have hle := sizes_le (l.take i)
    have htl : (l.take i).length ≤ l.length := by rw [List.length_take]; omega
    have hs := sizeS_le l[i]
    generalize l[i] = s at *
    have q := xfRight_ok s
    unfold sizeS at hst hs
    rcases right_cases s with ⟨hR, hb⟩ | ⟨hR, hb⟩
    · rw [hb] at q
      rw [if_neg (fun h => h hR)] at hst hs
      (conv => whnf); (repeat' first | ((with_reducible refine Box.mk ?_); conv => whnf) | ((with_reducible refine And.intro (fun _ => ?_) (fun _ => ?_)) <;> conv => whnf) | ((with_reducible show AYld _ _ _ _ _); (refine AYld.of tok mixed ?_); conv => whnf) | ((with_reducible show forceH _ _); (refine (forceH_eq _ _).mpr ?_); conv => whnf) | ((with_reducible show ACall _ _ _ _ _); (refine ACall.of_pure (by assumption) (by rfl) ?_); conv => whnf) | ((with_reducible show Exists _); (refine ⟨_, ACall.of_pure (by assumption) (by rfl) ⟨rfl, rfl⟩, ?_⟩); conv => whnf) | ((with_reducible show _ ∧ _ ∧ _); (refine ⟨by omega, by omega, ?_⟩); conv => whnf) | fail)
      all_goals try (exfalso; omega)
      refine ⟨by omega, _, hg, rfl, ?_⟩
      (conv => whnf); (repeat' first | ((with_reducible refine Box.mk ?_); conv => whnf) | ((with_reducible refine And.intro (fun _ => ?_) (fun _ => ?_)) <;> conv => whnf) | ((with_reducible show AYld _ _ _ _ _); (refine AYld.of tok mixed ?_); conv => whnf) | ((with_reducible show forceH _ _); (refine (forceH_eq _ _).mpr ?_); conv => whnf) | ((with_reducible show ACall _ _ _ _ _); (refine ACall.of_pure (by assumption) (by rfl) ?_); conv => whnf) | ((with_reducible show Exists _); (refine ⟨_, ACall.of_pure (by assumption) (by rfl) ⟨rfl, rfl⟩, ?_⟩); conv => whnf) | ((with_reducible show _ ∧ _ ∧ _); (refine ⟨by omega, by omega, ?_⟩); conv => whnf) | fail)
      refine ⟨by omega, _, hg, rfl, ?_⟩
      (conv => whnf); (repeat' first | ((with_reducible refine Box.mk ?_); conv => whnf) | ((with_reducible refine And.intro (fun _ => ?_) (fun _ => ?_)) <;> conv => whnf) | ((with_reducible show AYld _ _ _ _ _); (refine AYld.of tok mixed ?_); conv => whnf) | ((with_reducible show forceH _ _); (refine (forceH_eq _ _).mpr ?_); conv => whnf) | ((with_reducible show ACall _ _ _ _ _); (refine ACall.of_pure (by assumption) (by rfl) ?_); conv => whnf) | ((with_reducible show Exists _); (refine ⟨_, ACall.of_pure (by assumption) (by rfl) ⟨rfl, rfl⟩, ?_⟩); conv => whnf) | ((with_reducible show _ ∧ _ ∧ _); (refine ⟨by omega, by omega, ?_⟩); conv => whnf) | fail)
      · rename_i h5
        rw [if_pos h5] at hst
        exact ⟨i + 1, hil, by show l.length - (i + 1) < l.length - i; omega, weak_ren_to [] rfl rfl rfl ⟨rfl, congrArg (AV.int .i64) (by rw [wrap_i64 (by omega) (by omega)]; exact hst.symm), wrap_nat (m := 1) (by omega), trivial⟩⟩
      · rename_i h5
        rw [if_neg h5] at hst hs
        refine ⟨by omega, _, hg, rfl, ?_⟩
        (conv => whnf); (repeat' first | ((with_reducible refine Box.mk ?_); conv => whnf) | ((with_reducible refine And.intro (fun _ => ?_) (fun _ => ?_)) <;> conv => whnf) | ((with_reducible show AYld _ _ _ _ _); (refine AYld.of tok mixed ?_); conv => whnf) | ((with_reducible show forceH _ _); (refine (forceH_eq _ _).mpr ?_); conv => whnf) | ((with_reducible show ACall _ _ _ _ _); (refine ACall.of_pure (by assumption) (by rfl) ?_); conv => whnf) | ((with_reducible show Exists _); (refine ⟨_, ACall.of_pure (by assumption) (by rfl) ⟨rfl, rfl⟩, ?_⟩); conv => whnf) | ((with_reducible show _ ∧ _ ∧ _); (refine ⟨by omega, by omega, ?_⟩); conv => whnf) | fail)
        refine ⟨by omega, _, hg, rfl, ?_⟩
        (conv => whnf); (repeat' first | ((with_reducible refine Box.mk ?_); conv => whnf) | ((with_reducible refine And.intro (fun _ => ?_) (fun _ => ?_)) <;> conv => whnf) | ((with_reducible show AYld _ _ _ _ _); (refine AYld.of tok mixed ?_); conv => whnf) | ((with_reducible show forceH _ _); (refine (forceH_eq _ _).mpr ?_); conv => whnf) | ((with_reducible show ACall _ _ _ _ _); (refine ACall.of_pure (by assumption) (by rfl) ?_); conv => whnf) | ((with_reducible show Exists _); (refine ⟨_, ACall.of_pure (by assumption) (by rfl) ⟨rfl, rfl⟩, ?_⟩); conv => whnf) | ((with_reducible show _ ∧ _ ∧ _); (refine ⟨by omega, by omega, ?_⟩); conv => whnf) | fail)
        exact ⟨i + 1, hil, by show l.length - (i + 1) < l.length - i; omega, weak_ren_to [] rfl rfl rfl ⟨rfl, congrArg (AV.int .i64) (by rw [wrap_i64 (by omega) (by omega)]; exact hst.symm), wrap_nat (m := 1) (by omega), trivial⟩⟩
    · rw [hb] at q
      rw [if_pos hR, Int.add_zero] at hst
      (conv => whnf); (repeat' first | ((with_reducible refine Box.mk ?_); conv => whnf) | ((with_reducible refine And.intro (fun _ => ?_) (fun _ => ?_)) <;> conv => whnf) | ((with_reducible show AYld _ _ _ _ _); (refine AYld.of tok mixed ?_); conv => whnf) | ((with_reducible show forceH _ _); (refine (forceH_eq _ _).mpr ?_); conv => whnf) | ((with_reducible show ACall _ _ _ _ _); (refine ACall.of_pure (by assumption) (by rfl) ?_); conv => whnf) | ((with_reducible show Exists _); (refine ⟨_, ACall.of_pure (by assumption) (by rfl) ⟨rfl, rfl⟩, ?_⟩); conv => whnf) | ((with_reducible show _ ∧ _ ∧ _); (refine ⟨by omega, by omega, ?_⟩); conv => whnf) | fail)
      all_goals try (exfalso; omega)
      refine ⟨by omega, _, hg, rfl, ?_⟩
      (conv => whnf); (repeat' first | ((with_reducible refine Box.mk ?_); conv => whnf) | ((with_reducible refine And.intro (fun _ => ?_) (fun _ => ?_)) <;> conv => whnf) | ((with_reducible show AYld _ _ _ _ _); (refine AYld.of tok mixed ?_); conv => whnf) | ((with_reducible show forceH _ _); (refine (forceH_eq _ _).mpr ?_); conv => whnf) | ((with_reducible show ACall _ _ _ _ _); (refine ACall.of_pure (by assumption) (by rfl) ?_); conv => whnf) | ((with_reducible show Exists _); (refine ⟨_, ACall.of_pure (by assumption) (by rfl) ⟨rfl, rfl⟩, ?_⟩); conv => whnf) | ((with_reducible show _ ∧ _ ∧ _); (refine ⟨by omega, by omega, ?_⟩); conv => whnf) | fail)
      refine ⟨by omega, _, hg, rfl, ?_⟩
      (conv => whnf); (repeat' first | ((with_reducible refine Box.mk ?_); conv => whnf) | ((with_reducible refine And.intro (fun _ => ?_) (fun _ => ?_)) <;> conv => whnf) | ((with_reducible show AYld _ _ _ _ _); (refine AYld.of tok mixed ?_); conv => whnf) | ((with_reducible show forceH _ _); (refine (forceH_eq _ _).mpr ?_); conv => whnf) | ((with_reducible show ACall _ _ _ _ _); (refine ACall.of_pure (by assumption) (by rfl) ?_); conv => whnf) | ((with_reducible show Exists _); (refine ⟨_, ACall.of_pure (by assumption) (by rfl) ⟨rfl, rfl⟩, ?_⟩); conv => whnf) | ((with_reducible show _ ∧ _ ∧ _); (refine ⟨by omega, by omega, ?_⟩); conv => whnf) | fail)
      exact ⟨i + 1, hil, by show l.length - (i + 1) < l.length - i; omega, weak_ren_to [] rfl rfl rfl ⟨rfl, congrArg (AV.int .i64) hst.symm, wrap_nat (m := 1) (by omega), trivial⟩⟩
  · have : i = l.length := by omega
    (conv => whnf); (repeat' first | ((with_reducible refine Box.mk ?_); conv => whnf) | ((with_reducible refine And.intro (fun _ => ?_) (fun _ => ?_)) <;> conv => whnf) | ((with_reducible show AYld _ _ _ _ _); (refine AYld.of tok mixed ?_); conv => whnf) | ((with_reducible show forceH _ _); (refine (forceH_eq _ _).mpr ?_); conv => whnf) | ((with_reducible show ACall _ _ _ _ _); (refine ACall.of_pure (by assumption) (by rfl) ?_); conv => whnf) | ((with_reducible show Exists _); (refine ⟨_, ACall.of_pure (by assumption) (by rfl) ⟨rfl, rfl⟩, ?_⟩); conv => whnf) | ((with_reducible show _ ∧ _ ∧ _); (refine ⟨by omega, by omega, ?_⟩); conv => whnf) | fail)
    all_goals try (exfalso; omega)
    exact res1_eq (congrArg (AV.int .i64) (by show sizesF (l.take i) = _; rw [List.take_of_length_le (by omega)]))
end Go.Proofs.YtnajpmepcffnaaaDoor
end

section
/- What the library's functions do, told as the walks need it. -/
namespace Go.Proofs.YtnajpmepcffnaaaDoor
open Go.Ve

/-! ### texts cut at dots -/
def splitDot : Bs → List Bs
  | [] => [[]]
  | c :: s => if c = 46 then [] :: splitDot s else match splitDot s with
    | [] => [[c]]
    | x :: xs => (c :: x) :: xs
theorem splitDot_ne : ∀ s, splitDot s ≠ []
  | [] => by simp [splitDot]
  | c :: s => by
    simp only [splitDot]
    split
    · simp
    · split <;> simp
theorem splitDot_none : ∀ {s : Bs}, s.count 46 = 0 → splitDot s = [s]
  | [], _ => rfl
  | c :: s, h => by
    have hc : c ≠ 46 := fun e => by subst e; simp at h
    have hs : s.count 46 = 0 := by simpa [List.count_cons, hc] using h
    simp [splitDot, hc, splitDot_none hs]
theorem splitDot_hit : ∀ {s : Bs} {i : Nat}, Lib.index s [46] = i → splitDot s = s.take i :: splitDot (s.drop (i + 1)) ∧ (s.drop (i + 1)).count 46 < s.count 46
  | [], i, h => by simp [Lib.index] at h
  | c :: s, i, h => by
    unfold Lib.index at h
    by_cases hc : c = 46
    · subst hc
      simp [List.isPrefixOf] at h
      have : i = 0 := by omega
      subst this
      simp [splitDot]
    · have hp : List.isPrefixOf [46] (c :: s) = false := by simp [List.isPrefixOf]; exact fun e => hc e.symm
      rw [hp] at h
      simp only [Bool.false_eq_true, if_false] at h
      split at h
      · omega
      · rename_i hn
        have h1 : Lib.index s [46] = ((i - 1 : Nat) : Int) := by
          have : -1 ≤ Lib.index s [46] := by
            rcases Lib.index_spec s [46] with ⟨e, _⟩ | ⟨k, e, _⟩ <;> omega
          have : Lib.index s [46] ≠ -1 := fun e => hn (by rw [e]; rfl)
          omega
        have hi : 1 ≤ i := by
          have : -1 ≤ Lib.index s [46] := by
            rcases Lib.index_spec s [46] with ⟨e, _⟩ | ⟨k, e, _⟩ <;> omega
          have : Lib.index s [46] ≠ -1 := fun e => hn (by rw [e]; rfl)
          omega
        obtain ⟨j, rfl⟩ : ∃ j, i = j + 1 := ⟨i - 1, by omega⟩
        simp only [Nat.add_sub_cancel] at h1
        obtain ⟨k1, k2⟩ := splitDot_hit h1
        refine ⟨?_, ?_⟩
        · simp [splitDot, hc, k1]
        · simpa [List.count_cons, hc] using k2
theorem splitK_dot : ∀ (k : Nat) (s : Bs), s.count 46 ≤ k → Lib.splitK [46] 0 k s = splitDot s
  | 0, s, h => by rw [splitDot_none (by omega)]; rfl
  | k + 1, s, h => by
    unfold Lib.splitK
    rcases Lib.index_spec s [46] with ⟨e, _⟩ | ⟨i, e, _⟩
    · rw [if_pos (by rw [e]; rfl), splitDot_none]
      rw [← Lib.count_one, Lib.count_miss e]
    · rw [if_neg (by rw [e]; simp), e]
      obtain ⟨k1, k2⟩ := splitDot_hit e
      rw [k1]
      simp only [Int.toNat_natCast, Nat.add_zero, List.length_singleton]
      rw [splitK_dot k _ (by omega)]

/-- Texts as a list of one cell each. -/
def strs (l : List Bs) : List (List AV) := l.map fun x => [.str x]
theorem strs_get (l : List Bs) (i : Nat) : (strs l)[i]? = (l[i]?).map fun x => [.str x] := by simp [strs]
theorem strs_len (l : List Bs) : (strs l).length = l.length := by simp [strs]

theorem lib_Split (s : Bs) (h : s.length < 4294967281) : PCall P 77 [.str s, .str [46]] (.sl (strs (splitDot s))) := by
  unfold PCall
  refine ⟨fn77.callable, fun M0 w vs hM hG hv => ?_⟩
  obtain ⟨m, hm⟩ := hG _ rfl
  obtain ⟨hl, hv⟩ := hv
  obtain ⟨v0, v1, rfl⟩ : ∃ v0 v1, vs = [v0, v1] := by
    match vs, hl with
    | [a, b], _ => exact ⟨a, b, rfl⟩
  have e0 := (hv 0 _ rfl).str_inv
  have e1 := (hv 1 _ rfl).str_inv
  simp at e0 e1
  subst e0 e1
  have hs : (⟨s.toArray⟩ : ByteArray).size < 4294967281 := by rw [bs_size]; exact h
  refine (Tryd.strings_Split ⟨s.toArray⟩ ⟨#[46]⟩ m w hs hm.2 (by decide)).mono ?_
  rintro e w' ⟨rfl, rfl⟩
  have hk : (Lib.splitB ⟨#[46]⟩ 0 (Lib.countB ⟨s.toArray⟩ ⟨#[46]⟩) ⟨s.toArray⟩).map (·.data.toList) = splitDot s := by
    rw [Lib.splitB_data]
    exact splitK_dot _ _ (by show _ ≤ Lib.count s [46]; rw [Lib.count_one]; exact Nat.le_refl _)
  generalize hx : Lib.splitB ⟨#[46]⟩ 0 (Lib.countB ⟨s.toArray⟩ ⟨#[46]⟩) ⟨s.toArray⟩ = xs at hk ⊢
  have hlen : xs.length = Lib.countB ⟨s.toArray⟩ ⟨#[46]⟩ + 1 := by rw [← hx]; exact Lib.splitB_all _ (by decide) 0 _ _ rfl
  have hlen' : xs.length = (splitDot s).length := by rw [← hk]; simp
  have hcnt : Lib.countB ⟨s.toArray⟩ ⟨#[46]⟩ ≤ s.length + 1 := Lib.count_le _ _
  refine ⟨_, rfl, (Go.RowKit.Below.refl _ w).alloc (Nat.le_refl _) _, ?_⟩
  have e : Lib.countB ⟨s.toArray⟩ ⟨#[46]⟩ + 1 = (strs (splitDot s)).length := by rw [strs_len, ← hlen', hlen]
  rw [e]
  refine .sl _ _ _ _ 1 (fun i _ => ((xs.map Value.string).toArray).getD i undef) (Nat.le_refl _) (by rw [← e]; omega) (fun c hc => ?_) (fun i j c x hc hx' => ?_) (fun i j hi hj => ?_)
  · obtain ⟨x, _, rfl⟩ := List.mem_map.1 hc
    exact ⟨rfl, rfl⟩
  · rw [strs_get, Option.map_eq_some_iff] at hc
    obtain ⟨y, hy, rfl⟩ := hc
    have hj : j = 0 := by
      rcases Nat.eq_zero_or_pos j with h | h
      · exact h
      · rw [List.getElem?_eq_none (by simp; omega)] at hx'; cases hx'
    subst hj
    simp at hx'
    subst hx'
    have hy2 : (xs.map (·.data.toList))[i]? = some y := by rw [hk]; exact hy
    rw [List.getElem?_map, Option.map_eq_some_iff] at hy2
    obtain ⟨b, hb, rfl⟩ := hy2
    have : ((xs.map Value.string).toArray).getD i undef = .string b := by simp [hb]
    rw [this]
    exact .str _ _
  · have hj0 : j = 0 := by omega
    subst hj0
    have hi' : i < xs.length := by rw [strs_len, ← hlen'] at hi; exact hi
    refine ⟨fun hx => ?_, ?_⟩
    · rw [Addr.add_lit] at hx
      have := hM _ hx
      exact absurd this (Nat.lt_irrefl _)
    · rw [Addr.add_lit]
      have := getD_cell (heap_alloc w (.cells (xs.map Value.string).toArray 9)) (j := i) (by simpa using hi')
      simpa using this

/-- What strings.Join writes. -/
def joinBy (sep : Bs) (l : List Bs) : Bs := sep.intercalate l

theorem strs_vals {K0 : Addr → Value → Prop} {w : World} (hK : ∀ a v, K0 a v → w.cell? a = some v) {l : List Bs} {v : Value} (h : Rv K0 [] (.sl (strs l)) v) (hne : l ≠ []) :
    ∃ b o c, v = .slice (some ⟨b, o, none⟩) l.length c ∧ l.length ≤ c ∧ ∀ (j : Nat) x, l[j]? = some x → w.cell? ⟨b, o + j, none⟩ = some (.string ⟨x.toArray⟩) := by
  rcases h.sl_inv with ⟨e, _⟩ | ⟨a, cap, sz, val, rfl, h1, h2, h3, h4, h5⟩
  · exact absurd (by simpa [strs] using e) hne
  · have hl : 0 < l.length := List.length_pos_iff.2 hne
    have hsz : sz = 1 := by
      obtain ⟨x, hx⟩ : ∃ x, l[0]? = some x := ⟨_, List.getElem?_eq_getElem hl⟩
      have := (h3 [.str x] (List.mem_of_getElem? (i := 0) (by rw [strs_get, hx]; rfl))).1
      simpa using this.symm
    subst hsz
    have cell : ∀ (j : Nat) x, l[j]? = some x → w.cell? (a.add (j * 1 + 0)) = some (.string ⟨x.toArray⟩) := fun j x hx => by
      have hj : j < l.length := (List.getElem?_eq_some_iff.1 hx).1
      have e := (h4 j 0 [.str x] (.str x) (by rw [strs_get, hx]; rfl) rfl).str_inv
      rw [← e]
      exact hK _ _ (h5 j 0 (by rw [strs_len]; exact hj) (by omega))
    obtain ⟨b, o, spot⟩ := a
    have hspot : spot = none := by
      obtain ⟨x, hx⟩ : ∃ x, l[0]? = some x := ⟨_, List.getElem?_eq_getElem hl⟩
      have := cell 0 x hx
      simp only [Nat.zero_mul, Nat.add_zero, Addr.add, if_true] at this
      cases spot with
      | none => rfl
      | some s => unfold World.cell? at this; split at this <;> simp at this
    subst hspot
    refine ⟨b, o, cap, by rw [strs_len], by rw [← strs_len]; exact h1, fun j x hx => ?_⟩
    have := cell j x hx
    rwa [Addr.add_lit, Nat.mul_one, Nat.add_zero] at this

end Go.Proofs.YtnajpmepcffnaaaDoor
end

section
/- label: what its functions compute. -/
namespace Go.Proofs.YtnajpmepcffnaaaDoor
open Go.Ve

def okByte (c : Int) : Prop := (97 ≤ c ∧ c ≤ 122) ∨ (48 ≤ c ∧ c ≤ 57) ∨ c = 95
instance (c : Int) : Decidable (okByte c) := by unfold okByte; exact inferInstance
theorem isByte_ok (c : Int) : PCall P 87 [.int .u8 c] (.bool (decide (okByte c))) := by
  refine PCall.of_awp tok mixed fn87 (Nat.le_of_ble_eq_true rfl) ?_
  conv => whnf
  repeat' first | ((with_reducible refine Box.mk ?_); conv => whnf) | ((with_reducible refine And.intro (fun _ => ?_) (fun _ => ?_)) <;> conv => whnf) | ((with_reducible show AYld _ _ _ _ _); (refine AYld.of tok mixed ?_); conv => whnf) | ((with_reducible show forceH _ _); (refine (forceH_eq _ _).mpr ?_); conv => whnf) | fail
  all_goals (show AV.bool _ = AV.bool _; congr 1)
  all_goals first | exact (decide_eq_true (by unfold okByte; omega)).symm | exact (decide_eq_false (by unfold okByte; omega)).symm

def isLabel (s : Bs) : Bool := s.all (fun c => decide (okByte c.toNat)) && decide (1 ≤ s.length ∧ s.length ≤ 16)
theorem isLabel_ok (s : Bs) (h : s.length ≤ 9223372036854775807) : PCall P 79 [.str s] (.bool (isLabel s)) := by
  refine PCall.of_awp tok mixed fn79 (Nat.le_of_ble_eq_true rfl) ?_
  conv => whnf
  repeat' first | ((with_reducible refine Box.mk ?_); conv => whnf) | ((with_reducible refine And.intro (fun _ => ?_) (fun _ => ?_)) <;> conv => whnf) | ((with_reducible show AYld _ _ _ _ _); (refine AYld.of tok mixed ?_); conv => whnf) | ((with_reducible show forceH _ _); (refine (forceH_eq _ _).mpr ?_); conv => whnf) | fail
  refine ⟨h, ?_⟩
  conv => whnf
  repeat' first | ((with_reducible refine Box.mk ?_); conv => whnf) | ((with_reducible refine And.intro (fun _ => ?_) (fun _ => ?_)) <;> conv => whnf) | ((with_reducible show AYld _ _ _ _ _); (refine AYld.of tok mixed ?_); conv => whnf) | ((with_reducible show forceH _ _); (refine (forceH_eq _ _).mpr ?_); conv => whnf) | fail
  refine aloop (fun i => i ≤ s.length ∧ ∀ j (c : UInt8), j < i → s[j]? = some c → okByte c.toNat) (fun i : Nat => ⟨envL [(0, .str s), (6, .sl (s.map byteCell)), (7, .int .i64 s.length), (8, .int .i64 i)], []⟩)
    (fun i => s.length - i) 0 ⟨Nat.zero_le _, fun j c h => by omega⟩ (weak_to ⟨rfl, rfl, by show AV.int _ _ = _; simp, rfl, trivial⟩ rfl) ?_
  rintro i ⟨hi, hok⟩
  conv => whnf
  repeat' first | ((with_reducible refine Box.mk ?_); conv => whnf) | ((with_reducible refine And.intro (fun _ => ?_) (fun _ => ?_)) <;> conv => whnf) | ((with_reducible show AYld _ _ _ _ _); (refine AYld.of tok mixed ?_); conv => whnf) | ((with_reducible show forceH _ _); (refine (forceH_eq _ _).mpr ?_); conv => whnf) | fail
  · rename_i hlt
    have hlt' : i < s.length := by omega
    refine ⟨by omega, byteCell s[i], by simp [hlt'], rfl, ?_⟩
    conv => whnf
    repeat' first | ((with_reducible refine Box.mk ?_); conv => whnf) | ((with_reducible refine And.intro (fun _ => ?_) (fun _ => ?_)) <;> conv => whnf) | ((with_reducible show AYld _ _ _ _ _); (refine AYld.of tok mixed ?_); conv => whnf) | ((with_reducible show forceH _ _); (refine (forceH_eq _ _).mpr ?_); conv => whnf) | fail
    refine ACall.of_pure (isByte_ok _) rfl ?_
    cases hb : decide (okByte (s[i].toNat : Int))
    · (conv => whnf); (repeat' first | ((with_reducible refine Box.mk ?_); conv => whnf) | ((with_reducible refine And.intro (fun _ => ?_) (fun _ => ?_)) <;> conv => whnf) | ((with_reducible show AYld _ _ _ _ _); (refine AYld.of tok mixed ?_); conv => whnf) | ((with_reducible show forceH _ _); (refine (forceH_eq _ _).mpr ?_); conv => whnf) | fail)
      refine bool_false ?_
      have : ¬ (∀ c ∈ s, okByte c.toNat) := fun h => of_decide_eq_false hb (h _ (List.getElem_mem hlt'))
      simp [isLabel, this]
    · (conv => whnf); (repeat' first | ((with_reducible refine Box.mk ?_); conv => whnf) | ((with_reducible refine And.intro (fun _ => ?_) (fun _ => ?_)) <;> conv => whnf) | ((with_reducible show AYld _ _ _ _ _); (refine AYld.of tok mixed ?_); conv => whnf) | ((with_reducible show forceH _ _); (refine (forceH_eq _ _).mpr ?_); conv => whnf) | fail)
      refine ⟨i + 1, ⟨hlt', fun j c hj hc => ?_⟩, by omega, weak_to ⟨rfl, rfl, rfl, wrap_nat (m := 1) (by omega), trivial⟩ rfl⟩
      by_cases hji : j = i
      · subst hji
        rw [List.getElem?_eq_getElem hlt'] at hc
        cases hc
        exact of_decide_eq_true hb
      · exact hok j c (by omega) hc
  · have hall : ∀ c ∈ s, okByte c.toNat := fun c hc => by
      obtain ⟨j, hj⟩ := List.getElem?_of_mem hc
      exact hok j c (by have := (List.getElem?_eq_some_iff.1 hj).1; omega) hj
    exact bool_true (by simp [isLabel]; exact ⟨hall, by omega⟩)
  · exact bool_false (by simp [isLabel]; omega)
  · exact bool_false (by simp [isLabel]; omega)

theorem no_ok (s : Bs) (h : s.length ≤ 9223372036854775807) : PCall P 78 [.str s] (.bool (!isLabel s)) := by
  refine PCall.of_awp tok mixed fn78 (Nat.le_of_ble_eq_true rfl) ?_
  conv => whnf
  repeat' first | ((with_reducible refine Box.mk ?_); conv => whnf) | ((with_reducible refine And.intro (fun _ => ?_) (fun _ => ?_)) <;> conv => whnf) | ((with_reducible show AYld _ _ _ _ _); (refine AYld.of tok mixed ?_); conv => whnf) | ((with_reducible show forceH _ _); (refine (forceH_eq _ _).mpr ?_); conv => whnf) | fail
  refine ACall.of_pure (isLabel_ok s h) rfl ?_
  conv => whnf
  repeat' first | ((with_reducible refine Box.mk ?_); conv => whnf) | ((with_reducible refine And.intro (fun _ => ?_) (fun _ => ?_)) <;> conv => whnf) | ((with_reducible show AYld _ _ _ _ _); (refine AYld.of tok mixed ?_); conv => whnf) | ((with_reducible show forceH _ _); (refine (forceH_eq _ _).mpr ?_); conv => whnf) | fail
  rfl
/-! ### a list gone through by a function value -/
def idxf (q : Bs → Bool) : Nat → List Bs → Int
  | _, [] => -1
  | k, x :: xs => if q x then (k : Int) else idxf q (k + 1) xs
theorem idxf_hit {q : Bs → Bool} : ∀ {l : List Bs} {k i : Nat} {x : Bs}, l[i]? = some x → q x = true → (∀ j y, j < i → l[j]? = some y → q y = false) → idxf q k l = ((k + i : Nat) : Int)
  | [], k, i, x, h, _, _ => by simp at h
  | y :: l, k, 0, x, h, hq, _ => by simp at h; subst h; simp [idxf, hq]
  | y :: l, k, i + 1, x, h, hq, hn => by
    have h0 := hn 0 y (by omega) rfl
    rw [idxf, if_neg (by simp [h0]), idxf_hit (k := k + 1) (i := i) (by simpa using h) hq (fun j z hj hz => hn (j + 1) z (by omega) (by simpa using hz))]
    congr 1; omega
theorem idxf_miss {q : Bs → Bool} : ∀ {l : List Bs} {k : Nat}, (∀ y ∈ l, q y = false) → idxf q k l = -1
  | [], _, _ => rfl
  | y :: l, k, h => by rw [idxf, if_neg (by simp [h y List.mem_cons_self]), idxf_miss fun z hz => h z (List.mem_cons_of_mem _ hz)]
theorem idxf_any {q : Bs → Bool} : ∀ {l : List Bs} {k : Nat}, decide (0 ≤ idxf q k l) = l.any q
  | [], _ => rfl
  | y :: l, k => by
    rw [idxf, List.any_cons]
    cases hq : q y with
    | true => simp
    | false => simpa using idxf_any (l := l) (k := k + 1)

theorem indexFunc_ok {f : FuncId} {q : Bs → Bool} (l : List Bs) (hf : ∀ s ∈ l, PCall P f [.str s] (.bool (q s))) (hl : l.length ≤ 9223372036854775807) :
    PCall P 88 [.sl (strs l), .fn f []] (.int .i64 (idxf q 0 l)) := by
  refine PCall.of_awp tok mixed fn88 (Nat.le_of_ble_eq_true rfl) ?_
  conv => whnf
  repeat' first | ((with_reducible refine Box.mk ?_); conv => whnf) | ((with_reducible refine And.intro (fun _ => ?_) (fun _ => ?_)) <;> conv => whnf) | ((with_reducible show AYld _ _ _ _ _); (refine AYld.of tok mixed ?_); conv => whnf) | ((with_reducible show forceH _ _); (refine (forceH_eq _ _).mpr ?_); conv => whnf) | fail
  refine aloop (fun i => i ≤ l.length ∧ ∀ j x, j < i → l[j]? = some x → q x = false) (fun i : Nat => ⟨envL [(0, .sl (strs l)), (1, .fn f []), (7, .int .i64 l.length), (8, .int .i64 i)], []⟩)
    (fun i => l.length - i) 0 ⟨Nat.zero_le _, fun j c h => by omega⟩ (weak_to ⟨rfl, rfl, by show AV.int _ _ = _; rw [strs_len], rfl, trivial⟩ rfl) ?_
  rintro i ⟨hi, hok⟩
  conv => whnf
  repeat' first | ((with_reducible refine Box.mk ?_); conv => whnf) | ((with_reducible refine And.intro (fun _ => ?_) (fun _ => ?_)) <;> conv => whnf) | ((with_reducible show AYld _ _ _ _ _); (refine AYld.of tok mixed ?_); conv => whnf) | ((with_reducible show forceH _ _); (refine (forceH_eq _ _).mpr ?_); conv => whnf) | fail
  · rename_i hlt
    have hlt' : i < l.length := by omega
    refine ⟨by omega, [.str l[i]], ?_, rfl, ?_⟩
    · show (strs l)[i]? = _
      rw [strs_get, List.getElem?_eq_getElem hlt']; rfl
    conv => whnf
    repeat' first | ((with_reducible refine Box.mk ?_); conv => whnf) | ((with_reducible refine And.intro (fun _ => ?_) (fun _ => ?_)) <;> conv => whnf) | ((with_reducible show AYld _ _ _ _ _); (refine AYld.of tok mixed ?_); conv => whnf) | ((with_reducible show forceH _ _); (refine (forceH_eq _ _).mpr ?_); conv => whnf) | fail
    refine ACall.of_pure (hf _ (List.getElem_mem hlt')) rfl ?_
    cases hb : q l[i]
    · (conv => whnf); (repeat' first | ((with_reducible refine Box.mk ?_); conv => whnf) | ((with_reducible refine And.intro (fun _ => ?_) (fun _ => ?_)) <;> conv => whnf) | ((with_reducible show AYld _ _ _ _ _); (refine AYld.of tok mixed ?_); conv => whnf) | ((with_reducible show forceH _ _); (refine (forceH_eq _ _).mpr ?_); conv => whnf) | fail)
      refine ⟨i + 1, ⟨hlt', fun j c hj hc => ?_⟩, by omega, weak_to ⟨rfl, rfl, rfl, wrap_nat (m := 1) (by omega), trivial⟩ rfl⟩
      by_cases hji : j = i
      · subst hji
        rw [List.getElem?_eq_getElem hlt'] at hc
        cases hc
        exact hb
      · exact hok j c (by omega) hc
    · (conv => whnf); (repeat' first | ((with_reducible refine Box.mk ?_); conv => whnf) | ((with_reducible refine And.intro (fun _ => ?_) (fun _ => ?_)) <;> conv => whnf) | ((with_reducible show AYld _ _ _ _ _); (refine AYld.of tok mixed ?_); conv => whnf) | ((with_reducible show forceH _ _); (refine (forceH_eq _ _).mpr ?_); conv => whnf) | fail)
      show AV.int .i64 _ = AV.int .i64 _
      rw [idxf_hit (List.getElem?_eq_getElem hlt') hb hok, Nat.zero_add]
  · show AV.int .i64 _ = AV.int .i64 _
    rw [idxf_miss]
    intro y hy
    obtain ⟨j, hj⟩ := List.getElem?_of_mem hy
    exact hok j y (by have := (List.getElem?_eq_some_iff.1 hj).1; omega) hj

theorem containsFunc_ok {f : FuncId} {q : Bs → Bool} (l : List Bs) (hf : ∀ s ∈ l, PCall P f [.str s] (.bool (q s))) (hl : l.length ≤ 9223372036854775807) :
    PCall P 80 [.sl (strs l), .fn f []] (.bool (l.any q)) := by
  refine PCall.of_awp tok mixed fn80 (Nat.le_of_ble_eq_true rfl) ?_
  conv => whnf
  repeat' first | ((with_reducible refine Box.mk ?_); conv => whnf) | ((with_reducible refine And.intro (fun _ => ?_) (fun _ => ?_)) <;> conv => whnf) | ((with_reducible show AYld _ _ _ _ _); (refine AYld.of tok mixed ?_); conv => whnf) | ((with_reducible show forceH _ _); (refine (forceH_eq _ _).mpr ?_); conv => whnf) | fail
  refine ACall.of_pure (indexFunc_ok l hf hl) rfl ?_
  conv => whnf
  repeat' first | ((with_reducible refine Box.mk ?_); conv => whnf) | ((with_reducible refine And.intro (fun _ => ?_) (fun _ => ?_)) <;> conv => whnf) | ((with_reducible show AYld _ _ _ _ _); (refine AYld.of tok mixed ?_); conv => whnf) | ((with_reducible show forceH _ _); (refine (forceH_eq _ _).mpr ?_); conv => whnf) | fail
  · exact bool_true (by rw [← idxf_any (k := 0)]; exact decide_eq_true (by assumption))
  · exact bool_false (by rw [← idxf_any (k := 0)]; exact decide_eq_false (by assumption))

/-! ### paths -/
def okPath (p : Bs) : Bool := p.isEmpty || (decide ((splitDot p).length ≤ 8) && (splitDot p).all isLabel)
def labs (p : Bs) : List Bs := bif !p.isEmpty && okPath p then splitDot p else []
def pathV (p : Bs) : AV := bif !p.isEmpty && okPath p then .sl (strs (splitDot p)) else .nils
theorem path_cases (p : Bs) : (pathV p = .nils ∧ labs p = []) ∨ (pathV p = .sl (strs (labs p)) ∧ labs p = splitDot p ∧ p ≠ [] ∧ okPath p = true) := by
  unfold pathV labs
  cases h : !p.isEmpty && okPath p with
  | false => exact .inl ⟨rfl, rfl⟩
  | true =>
    rw [Bool.and_eq_true] at h
    exact .inr ⟨rfl, rfl, fun e => by subst e; simp at h, h.2⟩

theorem splitDot_len : ∀ (s : Bs), (splitDot s).length ≤ s.length + 1 ∧ ∀ x ∈ splitDot s, x.length ≤ s.length
  | [] => by simp [splitDot]
  | c :: s => by
    obtain ⟨h1, h2⟩ := splitDot_len s
    simp only [splitDot]
    split
    · refine ⟨by simp; omega, fun x hx => ?_⟩
      rcases List.mem_cons.1 hx with rfl | hx
      · simp
      · have := h2 x hx; simp; omega
    · split
      · simp
      · rename_i x xs e
        rw [e] at h1 h2
        refine ⟨by simp at h1 ⊢; omega, fun y hy => ?_⟩
        rcases List.mem_cons.1 hy with rfl | hy
        · have := h2 x List.mem_cons_self; simp; omega
        · have := h2 y (List.mem_cons_of_mem _ hy); simp; omega

theorem split_ok (p : Bs) (h : p.length < 4294967281) : PCall P 70 [.str p] (.tup [pathV p, .bool (okPath p)]) := by
  obtain ⟨hlen, hx⟩ := splitDot_len p
  refine PCall.of_awp tok mixed fn70 (Nat.le_of_ble_eq_true rfl) ?_
  conv => whnf
  repeat' first | ((with_reducible refine Box.mk ?_); conv => whnf) | ((with_reducible refine And.intro (fun _ => ?_) (fun _ => ?_)) <;> conv => whnf) | ((with_reducible show AYld _ _ _ _ _); (refine AYld.of tok mixed ?_); conv => whnf) | ((with_reducible show forceH _ _); (refine (forceH_eq _ _).mpr ?_); conv => whnf) | fail
  · rename_i e
    have e : p = [] := e
    subst e
    rfl
  · rename_i e
    have e : p ≠ [] := e
    have hp : p.isEmpty = false := by cases p with | nil => exact absurd rfl e | cons => rfl
    refine ACall.of_pure (lib_Split p h) rfl ?_
    conv => whnf
    repeat' first | ((with_reducible refine Box.mk ?_); conv => whnf) | ((with_reducible refine And.intro (fun _ => ?_) (fun _ => ?_)) <;> conv => whnf) | ((with_reducible show AYld _ _ _ _ _); (refine AYld.of tok mixed ?_); conv => whnf) | ((with_reducible show forceH _ _); (refine (forceH_eq _ _).mpr ?_); conv => whnf) | fail
    · rename_i h8
      have h8 : (8 : Int) < ((strs (splitDot p)).length : Int) := h8
      rw [strs_len] at h8
      have : okPath p = false := by simp [okPath, hp]; intro; omega
      show AV.tup _ = AV.tup _
      simp [pathV, this]
    · rename_i h8
      have h8 : ¬ (8 : Int) < ((strs (splitDot p)).length : Int) := h8
      rw [strs_len] at h8
      refine ACall.of_pure (containsFunc_ok (splitDot p) (fun s hs => no_ok s (by have := hx s hs; omega)) (by omega)) rfl ?_
      cases hb : (splitDot p).any fun s => !isLabel s
      · have : okPath p = true := by
          have : ∀ x ∈ splitDot p, isLabel x = true := by simpa using hb
          simp [okPath, hp]
          exact ⟨by omega, this⟩
        (conv => whnf); (repeat' first | ((with_reducible refine Box.mk ?_); conv => whnf) | ((with_reducible refine And.intro (fun _ => ?_) (fun _ => ?_)) <;> conv => whnf) | ((with_reducible show AYld _ _ _ _ _); (refine AYld.of tok mixed ?_); conv => whnf) | ((with_reducible show forceH _ _); (refine (forceH_eq _ _).mpr ?_); conv => whnf) | fail)
        show AV.tup _ = AV.tup _
        simp [pathV, this, hp]
      · have : okPath p = false := by
          have : ∃ x ∈ splitDot p, isLabel x = false := by simpa using hb
          simp [okPath, hp]
          exact fun _ => this
        (conv => whnf); (repeat' first | ((with_reducible refine Box.mk ?_); conv => whnf) | ((with_reducible refine And.intro (fun _ => ?_) (fun _ => ?_)) <;> conv => whnf) | ((with_reducible show AYld _ _ _ _ _); (refine AYld.of tok mixed ?_); conv => whnf) | ((with_reducible show forceH _ _); (refine (forceH_eq _ _).mpr ?_); conv => whnf) | fail)
        show AV.tup _ = AV.tup _
        simp [pathV, this]

theorem right_ok (p : Bs) (h : p.length < 4294967281) : PCall P 59 [.str p] (.bool (okPath p)) := by
  refine PCall.of_awp tok mixed fn59 (Nat.le_of_ble_eq_true rfl) ?_
  conv => whnf
  repeat' first | ((with_reducible refine Box.mk ?_); conv => whnf) | ((with_reducible refine And.intro (fun _ => ?_) (fun _ => ?_)) <;> conv => whnf) | ((with_reducible show AYld _ _ _ _ _); (refine AYld.of tok mixed ?_); conv => whnf) | ((with_reducible show forceH _ _); (refine (forceH_eq _ _).mpr ?_); conv => whnf) | fail
  refine ACall.of_pure (split_ok p h) rfl ?_
  rcases path_cases p with ⟨e, _⟩ | ⟨e, _⟩ <;> rw [e]
  all_goals ((conv => whnf); (repeat' first | ((with_reducible refine Box.mk ?_); conv => whnf) | ((with_reducible refine And.intro (fun _ => ?_) (fun _ => ?_)) <;> conv => whnf) | ((with_reducible show AYld _ _ _ _ _); (refine AYld.of tok mixed ?_); conv => whnf) | ((with_reducible show forceH _ _); (refine (forceH_eq _ _).mpr ?_); conv => whnf) | fail))
  all_goals rfl

theorem len_ok (p : Bs) (h : p.length < 4294967281) : PCall P 76 [.str p] (.int .i64 (labs p).length) := by
  refine PCall.of_awp tok mixed fn76 (Nat.le_of_ble_eq_true rfl) ?_
  conv => whnf
  repeat' first | ((with_reducible refine Box.mk ?_); conv => whnf) | ((with_reducible refine And.intro (fun _ => ?_) (fun _ => ?_)) <;> conv => whnf) | ((with_reducible show AYld _ _ _ _ _); (refine AYld.of tok mixed ?_); conv => whnf) | ((with_reducible show forceH _ _); (refine (forceH_eq _ _).mpr ?_); conv => whnf) | fail
  refine ACall.of_pure (split_ok p h) rfl ?_
  rcases path_cases p with ⟨e, e2⟩ | ⟨e, _⟩ <;> rw [e]
  · (conv => whnf); (repeat' first | ((with_reducible refine Box.mk ?_); conv => whnf) | ((with_reducible refine And.intro (fun _ => ?_) (fun _ => ?_)) <;> conv => whnf) | ((with_reducible show AYld _ _ _ _ _); (refine AYld.of tok mixed ?_); conv => whnf) | ((with_reducible show forceH _ _); (refine (forceH_eq _ _).mpr ?_); conv => whnf) | fail)
    rw [e2]; rfl
  · (conv => whnf); (repeat' first | ((with_reducible refine Box.mk ?_); conv => whnf) | ((with_reducible refine And.intro (fun _ => ?_) (fun _ => ?_)) <;> conv => whnf) | ((with_reducible show AYld _ _ _ _ _); (refine AYld.of tok mixed ?_); conv => whnf) | ((with_reducible show forceH _ _); (refine (forceH_eq _ _).mpr ?_); conv => whnf) | fail)
    show AV.int .i64 _ = AV.int .i64 _
    rw [strs_len]
end Go.Proofs.YtnajpmepcffnaaaDoor
end

section
/- label, and the document's answer for it: what they compute. -/
namespace Go.Proofs.YtnajpmepcffnaaaDoor
open Go.Ve

/-! ### texts joined with dots -/
def joinD : List Bs → Bs
  | [] => []
  | [x] => x
  | x :: y :: r => x ++ 46 :: joinD (y :: r)
theorem joinBy_dot : ∀ (l : List Bs), joinBy [46] l = joinD l
  | [] => rfl
  | [x] => by simp [joinBy, joinD, List.intercalate]
  | x :: y :: r => by
    have ih := joinBy_dot (y :: r)
    simp only [joinBy, List.intercalate] at ih ⊢
    simp [joinD, List.intersperse, ← ih]
theorem joinD_snoc : ∀ {l : List Bs} (x : Bs), l ≠ [] → joinD (l ++ [x]) = joinD l ++ 46 :: x
  | [], x, h => absurd rfl h
  | [y], x, _ => rfl
  | y :: z :: r, x, _ => by
    have ih := joinD_snoc (l := z :: r) x (by simp)
    simp only [List.cons_append] at ih ⊢
    simp [joinD, ih]
theorem joinD_split : ∀ (s : Bs), joinD (splitDot s) = s
  | [] => rfl
  | c :: s => by
    have ih := joinD_split s
    have hne := splitDot_ne s
    simp only [splitDot]
    cases hs : splitDot s with
    | nil => exact absurd hs hne
    | cons x xs =>
      rw [hs] at ih
      split
      · rename_i e
        subst e
        simp [joinD, ih]
      · cases xs with
        | nil => simp only [joinD] at ih ⊢; rw [ih]
        | cons y ys => simp only [joinD] at ih ⊢; rw [← ih]; rfl
theorem joinD_len : ∀ (l : List Bs), (joinD l).length ≤ (l.map (·.length)).sum + l.length
  | [] => by simp [joinD]
  | [x] => by simp [joinD]
  | x :: y :: r => by
    have := joinD_len (y :: r)
    simp only [joinD, List.length_append, List.length_cons, List.map_cons, List.sum_cons] at this ⊢
    omega
theorem sum_le {l : List Bs} {n : Nat} (h : ∀ x ∈ l, x.length ≤ n) : (l.map (·.length)).sum ≤ l.length * n := by
  induction l with
  | nil => simp
  | cons x l ih =>
    have h1 := h x List.mem_cons_self
    have h2 := ih fun y hy => h y (List.mem_cons_of_mem _ hy)
    simp only [List.map_cons, List.sum_cons, List.length_cons, Nat.add_mul]
    omega

theorem splitDot_cut : ∀ {s : Bs} {k : Nat}, k ≤ s.length → (∀ (j : Nat) (c : UInt8), j < k → s[j]? = some c → c ≠ 46) →
    (k = s.length → splitDot s = [s]) ∧ (s[k]? = some 46 → splitDot s = s.take k :: splitDot (s.drop (k + 1)))
  | [], k, hk, _ => by
    refine ⟨fun _ => rfl, fun h => by simp at h⟩
  | c :: s, 0, _, _ => by
    refine ⟨fun h => by simp at h, fun h => ?_⟩
    simp at h
    subst h
    simp [splitDot]
  | c :: s, k + 1, hk, hn => by
    have hc : c ≠ 46 := hn 0 c (by omega) rfl
    obtain ⟨h1, h2⟩ := splitDot_cut (s := s) (k := k) (by simpa using hk) (fun j x hj hx => hn (j + 1) x (by omega) (by simpa using hx))
    refine ⟨fun h => ?_, fun h => ?_⟩
    · simp [splitDot, hc, h1 (by simpa using h)]
    · simp [splitDot, hc, h2 (by simpa using h)]

/-- How many first elements are alike. -/
def cpl : List Bs → List Bs → Nat
  | x :: xs, y :: ys => if x = y then cpl xs ys + 1 else 0
  | _, _ => 0
theorem cpl_stop : ∀ {l m : List Bs} {i : Nat}, (∀ j, j < i → ∃ x, l[j]? = some x ∧ m[j]? = some x) → (∀ x y, l[i]? = some x → m[i]? = some y → x ≠ y) → cpl l m = i
  | [], m, i, h, _ => by
    cases i with
    | zero => simp [cpl]
    | succ i => obtain ⟨x, hx, _⟩ := h 0 (by omega); simp at hx
  | x :: l, [], i, h, _ => by
    cases i with
    | zero => simp [cpl]
    | succ i => obtain ⟨x, _, hx⟩ := h 0 (by omega); simp at hx
  | x :: l, y :: m, 0, _, h => by
    have := h x y rfl rfl
    simp [cpl, this]
  | x :: l, y :: m, i + 1, h, h' => by
    obtain ⟨z, h1, h2⟩ := h 0 (by omega)
    simp at h1 h2
    subst h1 h2
    rw [cpl, if_pos rfl, cpl_stop (l := l) (m := m) (i := i) (fun j hj => by simpa using h (j + 1) (by omega)) (fun a b ha hb => h' a b (by simpa using ha) (by simpa using hb))]
theorem cpl_le : ∀ (l m : List Bs), cpl l m ≤ l.length ∧ cpl l m ≤ m.length
  | [], m => by simp [cpl]
  | x :: l, [] => by simp [cpl]
  | x :: l, y :: m => by
    have := cpl_le l m
    rw [cpl]
    split <;> simp <;> omega

theorem strs_at {l : List Bs} {i : Nat} (h : i < l.length) : (strs l)[(i : Int).toNat]? = some [.str l[i]] := by
  show (strs l)[i]? = _
  rw [strs_get, List.getElem?_eq_getElem h]; rfl

/-! ### label -/
theorem labs_len (p : Bs) : (labs p).length ≤ 8 ∧ ∀ x ∈ labs p, x.length ≤ p.length := by
  rcases path_cases p with ⟨_, e⟩ | ⟨_, e, hne, hok⟩
  · simp [e]
  · rw [e]
    have hp : p.isEmpty = false := by cases p with | nil => exact absurd rfl hne | cons => rfl
    simp [okPath, hp] at hok
    exact ⟨hok.1, (splitDot_len p).2⟩

/-! ### the document's answer -/
theorem joinD_take {l : List Bs} {i : Nat} (h : i < l.length) : joinD (l.take (i + 1)) = (if i = 0 then l[i] else joinD (l.take i) ++ 46 :: l[i]) := by
  rw [List.take_succ_eq_append_getElem h]
  split
  · rename_i e; subst e; rfl
  · rename_i e
    exact joinD_snoc _ (by simp; exact ⟨e, by intro h0; subst h0; simp at h⟩)
theorem joinD_take_len {l : List Bs} {B i : Nat} (h : ∀ x ∈ l, x.length ≤ B) : (joinD (l.take i)).length ≤ l.length * B + l.length := by
  have h1 := joinD_len (l.take i)
  have h2 := sum_le (l := l.take i) (n := B) fun x hx => h x (List.mem_of_mem_take hx)
  have h3 : (l.take i).length ≤ l.length := by simp; omega
  have h4 := Nat.mul_le_mul_right B h3
  omega

end Go.Proofs.YtnajpmepcffnaaaDoor
end

section
/- label, and the document's answer for it: the splitting by hand. -/
namespace Go.Proofs.YtnajpmepcffnaaaDoor
open Go.Ve

theorem split_step {p : Bs} {f i : Nat} (hfi : f ≤ i) (hi : i ≤ p.length) (hn : ∀ (j : Nat) (c : UInt8), f ≤ j → j < i → p[j]? = some c → c ≠ 46) :
    (p[i]? = some 46 → splitDot (p.drop f) = (p.take i).drop f :: splitDot (p.drop (i + 1))) ∧ (i = p.length → splitDot (p.drop f) = [(p.take i).drop f]) := by
  have hc := splitDot_cut (s := p.drop f) (k := i - f) (by simp; omega) (fun j c hj hx => hn (f + j) c (by omega) (by omega) (by simpa [List.getElem?_drop] using hx))
  have e : (p.drop f).take (i - f) = (p.take i).drop f := by rw [List.drop_take]
  refine ⟨fun h => ?_, fun h => ?_⟩
  · rw [hc.2 (by rw [List.getElem?_drop, Nat.add_sub_cancel' hfi]; exact h), e, List.drop_drop]
    congr 3; omega
  · rw [hc.1 (by simp; omega)]
    have : (p.take i).drop f = p.drop f := by rw [List.take_of_length_le (by omega)]
    rw [this]

theorem okPath_false {p : Bs} (hp : p ≠ []) (h : (∃ x ∈ splitDot p, isLabel x = false) ∨ 8 < (splitDot p).length) : okPath p = false ∧ pathV p = .nils := by
  have hp' : p.isEmpty = false := by cases p with | nil => exact absurd rfl hp | cons => rfl
  have : okPath p = false := by
    simp only [okPath, hp', Bool.false_or, Bool.and_eq_false_iff, decide_eq_false_iff_not, List.all_eq_false]
    rcases h with ⟨x, h1, h2⟩ | h
    · exact .inr ⟨x, h1, by simp [h2]⟩
    · exact .inl (by omega)
  exact ⟨this, by simp [pathV, this]⟩
theorem okPath_true {p : Bs} (hp : p ≠ []) (h : ∀ x ∈ splitDot p, isLabel x = true) (h' : (splitDot p).length ≤ 8) : okPath p = true ∧ pathV p = .sl (strs (splitDot p)) := by
  have hp' : p.isEmpty = false := by cases p with | nil => exact absurd rfl hp | cons => rfl
  have : okPath p = true := by
    simp only [okPath, hp', Bool.false_or, Bool.and_eq_true, decide_eq_true_eq, List.all_eq_true]
    exact ⟨h', h⟩
  exact ⟨this, by simp [pathV, this, hp']⟩

/-- A list of texts that is built: none yet; or a row of one's own. -/
def lv : List Bs → AV
  | [] => .nils
  | _ :: _ => .own 0
def lh : List Bs → Hp
  | [] => []
  | x :: l => [.row 9 1 (strs (x :: l))]

structure SInv (p : Bs) (i f : Nat) (l : List Bs) : Prop where
  bd : i ≤ p.length + 1
  len : l.length ≤ 8
  lab : ∀ x ∈ l, isLabel x = true
  mid : i ≤ p.length → f ≤ i ∧ (∀ (j : Nat) (c : UInt8), f ≤ j → j < i → p[j]? = some c → c ≠ 46) ∧ splitDot p = l ++ splitDot (p.drop f)
  fin : i = p.length + 1 → splitDot p = l

theorem SInv.go {p : Bs} {i f : Nat} {l : List Bs} (h : SInv p i f l) (hi : i < p.length) (hc : p[i] ≠ 46) : SInv p (i + 1) f l := by
  obtain ⟨h1, h2, h3⟩ := h.mid (by omega)
  refine ⟨by omega, h.len, h.lab, fun _ => ⟨by omega, fun j c hj hj' hx => ?_, h3⟩, fun e => by omega⟩
  by_cases hji : j = i
  · subst hji
    rw [List.getElem?_eq_getElem hi] at hx
    rw [← Option.some.inj hx]; exact hc
  · exact h2 j c hj (by omega) hx
theorem SInv.piece {p : Bs} {i f : Nat} {l : List Bs} (h : SInv p i f l) (hi : i ≤ p.length) (hc : ∀ h : i < p.length, p[i] = 46) : f ≤ i ∧ ∃ r, splitDot p = l ++ (p.take i).drop f :: r := by
  obtain ⟨h1, h2, h3⟩ := h.mid hi
  obtain ⟨k1, k2⟩ := split_step h1 hi h2
  refine ⟨h1, ?_⟩
  by_cases hlt : i < p.length
  · exact ⟨_, by rw [h3, k1 (by rw [List.getElem?_eq_getElem hlt, hc hlt])]⟩
  · exact ⟨[], by rw [h3, k2 (by omega)]⟩
theorem SInv.next {p : Bs} {i f : Nat} {l : List Bs} (h : SInv p i f l) (hi : i ≤ p.length) (hc : ∀ h : i < p.length, p[i] = 46) (hl : isLabel ((p.take i).drop f) = true) (h8 : l.length < 8) : SInv p (i + 1) (i + 1) (l ++ [(p.take i).drop f]) := by
  obtain ⟨h1, h2, h3⟩ := h.mid hi
  obtain ⟨k1, k2⟩ := split_step h1 hi h2
  refine ⟨by omega, by simp; omega, fun x hx => ?_, fun hlt => ⟨Nat.le_refl _, fun j c hj hj' => by omega, ?_⟩, fun e => ?_⟩
  · rcases List.mem_append.1 hx with hx | hx
    · exact h.lab x hx
    · rw [List.mem_singleton.1 hx]; exact hl
  · rw [h3, k1 (by rw [List.getElem?_eq_getElem (by omega), hc (by omega)])]; simp
  · rw [h3, k2 (by omega)]

end Go.Proofs.YtnajpmepcffnaaaDoor
end

section
/- label, the document's answer: tops, what is alike; the statements' own helpers. -/
namespace Go.Proofs.YtnajpmepcffnaaaDoor
open Go.Ve

end Go.Proofs.YtnajpmepcffnaaaDoor
end

section
/- label: the statements' walk. -/
namespace Go.Proofs.YtnajpmepcffnaaaDoor
open Go.Ve

theorem pEq {f : FuncId} {args : List AV} {r r' : AV} (h : PCall P f args r) (e : r = r') : PCall P f args r' := e ▸ h

def joinR (l : List Bs) : AV := .tup [.str (bif l.any (fun s => !isLabel s) then [] else bif decide (8 < l.length) then [] else joinD l), .int .i64 (bif l.any (fun s => !isLabel s) then 3 else bif decide (8 < l.length) then 2 else 0)]
theorem isLabel_len {s : Bs} (h : isLabel s = true) : s.length ≤ 16 := by
  simp only [isLabel, Bool.and_eq_true, decide_eq_true_eq] at h
  exact h.2.2
theorem path3 (p : Bs) : (okPath p = false ∧ pathV p = .nils ∧ labs p = []) ∨ (okPath p = true ∧ pathV p = .nils ∧ labs p = []) ∨ (okPath p = true ∧ pathV p = .sl (strs (labs p)) ∧ labs p = splitDot p ∧ p ≠ []) := by
  rcases path_cases p with ⟨e, e2⟩ | ⟨e, e2, e3, e4⟩
  · cases h : okPath p
    · exact .inl ⟨rfl, e, e2⟩
    · exact .inr (.inl ⟨rfl, e, e2⟩)
  · exact .inr (.inr ⟨e4, e, e2, e3⟩)

end Go.Proofs.YtnajpmepcffnaaaDoor
end

section
/- key: what its functions compute. -/
namespace Go.Proofs.YtnajpmepcffnaaaDoor
open Go.Ve

/-- A key: its kind, its length, its bits as one number, its path. -/
structure Ky where
  kind : Int
  len : Int
  n : Nat
  path : Bs
  deriving DecidableEq
def kv (k : Ky) : AV := .agg [.int .i64 k.kind, .int .i64 k.len, .int .u64 ((k.n / H64 : Nat) : Int), .int .u64 ((k.n % H64 : Nat) : Int), .str k.path]
theorem kv_eq {a b : Ky} : (a.kind = b.kind ∧ a.len = b.len ∧ ((a.n / H64 : Nat) : Int) = ((b.n / H64 : Nat) : Int) ∧ ((a.n % H64 : Nat) : Int) = ((b.n % H64 : Nat) : Int) ∧ a.path = b.path) ↔ a = b := by
  refine ⟨fun ⟨h1, h2, h3, h4, h5⟩ => ?_, fun h => by rw [h]; exact ⟨rfl, rfl, rfl, rfl, rfl⟩⟩
  have := wv_eq.1 ⟨h3, h4⟩
  cases a; cases b; simp_all

def widthK (kind : Int) : Int := if kind = 1 then 32 else if kind = 2 then 128 else if kind = 3 then 8 else 0
theorem width_ok (kind : Int) : PCall P 61 [.int .i64 kind] (.int .i64 (widthK kind)) := by
  refine PCall.of_awp tok mixed fn61 (Nat.le_of_ble_eq_true rfl) ?_
  conv => whnf
  repeat' first | ((with_reducible refine Box.mk ?_); conv => whnf) | ((with_reducible refine And.intro (fun _ => ?_) (fun _ => ?_)) <;> conv => whnf) | ((with_reducible show AYld _ _ _ _ _); (refine AYld.of tok mixed ?_); conv => whnf) | ((with_reducible show forceH _ _); (refine (forceH_eq _ _).mpr ?_); conv => whnf) | fail
  all_goals (refine res1_eq (congrArg (AV.int .i64) ?_); unfold widthK)
  · rename_i h; rw [if_pos h]
  · rename_i h h'; rw [if_neg h, if_pos h']
  · rename_i h h' h''; rw [if_neg h, if_neg h', if_pos h'']
  · rename_i h h' h''; rw [if_neg h, if_neg h', if_neg h'']

theorem bits_ok (k : Ky) : PCall P 71 [kv k] (wv k.n) := by
  refine PCall.of_awp tok mixed fn71 (Nat.le_of_ble_eq_true rfl) ?_
  conv => whnf
  repeat' first | ((with_reducible refine Box.mk ?_); conv => whnf) | ((with_reducible refine And.intro (fun _ => ?_) (fun _ => ?_)) <;> conv => whnf) | ((with_reducible show AYld _ _ _ _ _); (refine AYld.of tok mixed ?_); conv => whnf) | ((with_reducible show forceH _ _); (refine (forceH_eq _ _).mpr ?_); conv => whnf) | fail
  rfl
def ofBitsK (kind n : Int) (N : Nat) : Ky := ⟨kind, n, topN N (min n 128).toNat, []⟩
theorem ofBits_ok (kind n : Int) (N : Nat) (hN : N < 2 ^ 128) : PCall P 62 [.int .i64 kind, .int .i64 n, wv N] (kv (ofBitsK kind n N)) := by
  refine PCall.of_awp tok mixed fn62 (Nat.le_of_ble_eq_true rfl) ?_
  conv => whnf
  repeat' first | ((with_reducible refine Box.mk ?_); conv => whnf) | ((with_reducible refine And.intro (fun _ => ?_) (fun _ => ?_)) <;> conv => whnf) | ((with_reducible show AYld _ _ _ _ _); (refine AYld.of tok mixed ?_); conv => whnf) | ((with_reducible show forceH _ _); (refine (forceH_eq _ _).mpr ?_); conv => whnf) | fail
  refine ACall.of_pure (top_ok' N hN n) rfl ?_
  conv => whnf
  repeat' first | ((with_reducible refine Box.mk ?_); conv => whnf) | ((with_reducible refine And.intro (fun _ => ?_) (fun _ => ?_)) <;> conv => whnf) | ((with_reducible show AYld _ _ _ _ _); (refine AYld.of tok mixed ?_); conv => whnf) | ((with_reducible show forceH _ _); (refine (forceH_eq _ _).mpr ?_); conv => whnf) | fail
  rfl
def ofPathK (p : Bs) : Ky := ⟨3, (labs p).length, 0, p⟩
theorem ofPath_ok (p : Bs) (h : p.length < 4294967281) : PCall P 69 [.str p] (kv (ofPathK p)) := by
  refine PCall.of_awp tok mixed fn69 (Nat.le_of_ble_eq_true rfl) ?_
  conv => whnf
  repeat' first | ((with_reducible refine Box.mk ?_); conv => whnf) | ((with_reducible refine And.intro (fun _ => ?_) (fun _ => ?_)) <;> conv => whnf) | ((with_reducible show AYld _ _ _ _ _); (refine AYld.of tok mixed ?_); conv => whnf) | ((with_reducible show forceH _ _); (refine (forceH_eq _ _).mpr ?_); conv => whnf) | fail
  refine ACall.of_pure (len_ok p h) rfl ?_
  conv => whnf
  repeat' first | ((with_reducible refine Box.mk ?_); conv => whnf) | ((with_reducible refine And.intro (fun _ => ?_) (fun _ => ?_)) <;> conv => whnf) | ((with_reducible show AYld _ _ _ _ _); (refine AYld.of tok mixed ?_); conv => whnf) | ((with_reducible show forceH _ _); (refine (forceH_eq _ _).mpr ?_); conv => whnf) | fail
  show AV.agg [_, _, _, _, _] = AV.agg [_, _, _, _, _]
  simp [ofPathK]

def rightK (k : Ky) : Bool :=
  if k.kind = 1 ∨ k.kind = 2 then decide (0 ≤ k.len ∧ k.len ≤ widthK k.kind ∧ k.n = topN k.n (min k.len 128).toNat ∧ k.path = []) else
  if k.kind = 3 then okPath k.path && decide (k.len = ((labs k.path).length : Int) ∧ k.n = 0) else false

theorem eqK {k : Ky} : k = ofBitsK k.kind k.len k.n ↔ (k.n = topN k.n (min k.len 128).toNat ∧ k.path = []) := by
  cases k; simp [ofBitsK]
theorem eqP {k : Ky} : k = ofPathK k.path ↔ (k.kind = 3 ∧ k.len = ((labs k.path).length : Int) ∧ k.n = 0) := by
  cases k; simp [ofPathK]
theorem keyRight_ok (k : Ky) (hn : k.n < 2 ^ 128) (hp : k.path.length < 4294967281) : PCall P 60 [kv k] (.bool (rightK k)) := by
  refine PCall.of_awp tok mixed fn60 (Nat.le_of_ble_eq_true rfl) ?_
  have addr : (k.kind = 1 ∨ k.kind = 2) → rightK k = decide (0 ≤ k.len ∧ k.len ≤ widthK k.kind ∧ k.n = topN k.n (min k.len 128).toNat ∧ k.path = []) := fun h => by
    unfold rightK; rw [if_pos h]
  conv => whnf
  repeat' first | ((with_reducible refine Box.mk ?_); conv => whnf) | ((with_reducible refine And.intro (fun _ => ?_) (fun _ => ?_)) <;> conv => whnf) | ((with_reducible show AYld _ _ _ _ _); (refine AYld.of tok mixed ?_); conv => whnf) | ((with_reducible show forceH _ _); (refine (forceH_eq _ _).mpr ?_); conv => whnf) | fail
  all_goals try refine ⟨[], by kernel_rfl, ?_⟩
  all_goals ((conv => whnf); (repeat' first | ((with_reducible refine Box.mk ?_); conv => whnf) | ((with_reducible refine And.intro (fun _ => ?_) (fun _ => ?_)) <;> conv => whnf) | ((with_reducible show AYld _ _ _ _ _); (refine AYld.of tok mixed ?_); conv => whnf) | ((with_reducible show forceH _ _); (refine (forceH_eq _ _).mpr ?_); conv => whnf) | fail))
  · rename_i hk h0
    refine ⟨_, ACall.of_pure (width_ok k.kind) rfl ⟨rfl, rfl⟩, ?_⟩
    conv => whnf
    repeat' first | ((with_reducible refine Box.mk ?_); conv => whnf) | ((with_reducible refine And.intro (fun _ => ?_) (fun _ => ?_)) <;> conv => whnf) | ((with_reducible show AYld _ _ _ _ _); (refine AYld.of tok mixed ?_); conv => whnf) | ((with_reducible show forceH _ _); (refine (forceH_eq _ _).mpr ?_); conv => whnf) | fail
    · rename_i hw
      refine ⟨_, ACall.of_pure (bits_ok k) rfl ⟨rfl, rfl⟩, ?_⟩
      conv => whnf
      repeat' first | ((with_reducible refine Box.mk ?_); conv => whnf) | ((with_reducible refine And.intro (fun _ => ?_) (fun _ => ?_)) <;> conv => whnf) | ((with_reducible show AYld _ _ _ _ _); (refine AYld.of tok mixed ?_); conv => whnf) | ((with_reducible show forceH _ _); (refine (forceH_eq _ _).mpr ?_); conv => whnf) | fail
      refine ⟨_, ACall.of_pure (ofBits_ok k.kind k.len k.n hn) rfl ⟨rfl, rfl⟩, ?_⟩
      conv => whnf
      repeat' first | ((with_reducible refine Box.mk ?_); conv => whnf) | ((with_reducible refine And.intro (fun _ => ?_) (fun _ => ?_)) <;> conv => whnf) | ((with_reducible show AYld _ _ _ _ _); (refine AYld.of tok mixed ?_); conv => whnf) | ((with_reducible show forceH _ _); (refine (forceH_eq _ _).mpr ?_); conv => whnf) | fail
      · rename_i he
        have he := eqK.1 (kv_eq.1 he)
        exact bool_true (by rw [addr (by omega)]; exact decide_eq_true ⟨h0, hw, he.1, he.2⟩)
      · rename_i he
        have he : ¬ (k.n = topN k.n (min k.len 128).toNat ∧ k.path = []) := fun h => he (kv_eq.2 (eqK.2 h))
        exact bool_false (by rw [addr (by omega)]; exact decide_eq_false fun h => he ⟨h.2.2.1, h.2.2.2⟩)
    · rename_i hw
      exact bool_false (by rw [addr (by omega)]; exact decide_eq_false fun h => hw h.2.1)
  · rename_i hk h0
    exact bool_false (by rw [addr (by omega)]; exact decide_eq_false fun h => h0 h.1)
  · rename_i hk1 hk h0
    refine ⟨_, ACall.of_pure (width_ok k.kind) rfl ⟨rfl, rfl⟩, ?_⟩
    conv => whnf
    repeat' first | ((with_reducible refine Box.mk ?_); conv => whnf) | ((with_reducible refine And.intro (fun _ => ?_) (fun _ => ?_)) <;> conv => whnf) | ((with_reducible show AYld _ _ _ _ _); (refine AYld.of tok mixed ?_); conv => whnf) | ((with_reducible show forceH _ _); (refine (forceH_eq _ _).mpr ?_); conv => whnf) | fail
    · rename_i hw
      refine ⟨_, ACall.of_pure (bits_ok k) rfl ⟨rfl, rfl⟩, ?_⟩
      conv => whnf
      repeat' first | ((with_reducible refine Box.mk ?_); conv => whnf) | ((with_reducible refine And.intro (fun _ => ?_) (fun _ => ?_)) <;> conv => whnf) | ((with_reducible show AYld _ _ _ _ _); (refine AYld.of tok mixed ?_); conv => whnf) | ((with_reducible show forceH _ _); (refine (forceH_eq _ _).mpr ?_); conv => whnf) | fail
      refine ⟨_, ACall.of_pure (ofBits_ok k.kind k.len k.n hn) rfl ⟨rfl, rfl⟩, ?_⟩
      conv => whnf
      repeat' first | ((with_reducible refine Box.mk ?_); conv => whnf) | ((with_reducible refine And.intro (fun _ => ?_) (fun _ => ?_)) <;> conv => whnf) | ((with_reducible show AYld _ _ _ _ _); (refine AYld.of tok mixed ?_); conv => whnf) | ((with_reducible show forceH _ _); (refine (forceH_eq _ _).mpr ?_); conv => whnf) | fail
      · rename_i he
        have he := eqK.1 (kv_eq.1 he)
        exact bool_true (by rw [addr (by omega)]; exact decide_eq_true ⟨h0, hw, he.1, he.2⟩)
      · rename_i he
        have he : ¬ (k.n = topN k.n (min k.len 128).toNat ∧ k.path = []) := fun h => he (kv_eq.2 (eqK.2 h))
        exact bool_false (by rw [addr (by omega)]; exact decide_eq_false fun h => he ⟨h.2.2.1, h.2.2.2⟩)
    · rename_i hw
      exact bool_false (by rw [addr (by omega)]; exact decide_eq_false fun h => hw h.2.1)
  · rename_i hk1 hk h0
    exact bool_false (by rw [addr (by omega)]; exact decide_eq_false fun h => h0 h.1)
  · rename_i h1 h2 h3
    refine ⟨_, ACall.of_pure (right_ok k.path hp) rfl ⟨rfl, rfl⟩, ?_⟩
    have hr : rightK k = (okPath k.path && decide (k.len = ((labs k.path).length : Int) ∧ k.n = 0)) := by
      unfold rightK; rw [if_neg (by omega), if_pos h3]
    cases hb : okPath k.path
    · (conv => whnf); (repeat' first | ((with_reducible refine Box.mk ?_); conv => whnf) | ((with_reducible refine And.intro (fun _ => ?_) (fun _ => ?_)) <;> conv => whnf) | ((with_reducible show AYld _ _ _ _ _); (refine AYld.of tok mixed ?_); conv => whnf) | ((with_reducible show forceH _ _); (refine (forceH_eq _ _).mpr ?_); conv => whnf) | fail)
      exact bool_false (by rw [hr, hb]; rfl)
    · (conv => whnf); (repeat' first | ((with_reducible refine Box.mk ?_); conv => whnf) | ((with_reducible refine And.intro (fun _ => ?_) (fun _ => ?_)) <;> conv => whnf) | ((with_reducible show AYld _ _ _ _ _); (refine AYld.of tok mixed ?_); conv => whnf) | ((with_reducible show forceH _ _); (refine (forceH_eq _ _).mpr ?_); conv => whnf) | fail)
      refine ⟨_, ACall.of_pure (ofPath_ok k.path hp) rfl ⟨rfl, rfl⟩, ?_⟩
      (conv => whnf); (repeat' first | ((with_reducible refine Box.mk ?_); conv => whnf) | ((with_reducible refine And.intro (fun _ => ?_) (fun _ => ?_)) <;> conv => whnf) | ((with_reducible show AYld _ _ _ _ _); (refine AYld.of tok mixed ?_); conv => whnf) | ((with_reducible show forceH _ _); (refine (forceH_eq _ _).mpr ?_); conv => whnf) | fail)
      · rename_i he
        have he := eqP.1 (kv_eq.1 he)
        exact bool_true (by rw [hr, hb]; exact decide_eq_true he.2)
      · rename_i he
        have he : ¬ (k.kind = 3 ∧ k.len = ((labs k.path).length : Int) ∧ k.n = 0) := fun h => he (kv_eq.2 (eqP.2 h))
        exact bool_false (by rw [hr, hb]; exact decide_eq_false fun h => he ⟨h3, h⟩)
  · rename_i h1 h2 h3
    exact bool_false (by unfold rightK; rw [if_neg (by omega), if_neg h3])
end Go.Proofs.YtnajpmepcffnaaaDoor
end

section
/- key: what its functions compute, further. -/
namespace Go.Proofs.YtnajpmepcffnaaaDoor
open Go.Ve

def zeroK : Ky := ⟨0, 0, 0, []⟩
def rootK (kind : Int) : Ky := if widthK kind = 0 then zeroK else ⟨kind, 0, 0, []⟩
theorem six_ok (N : Nat) (hN : N < 2 ^ 128) : PCall P 55 [wv N] (kv ⟨2, 128, N, []⟩) := by
  have e : ofBitsK 2 128 N = ⟨2, 128, N, []⟩ := by
    have h0 : topN N (min (128 : Int) 128).toNat = N := by
      show N / 2 ^ (128 - 128) * 2 ^ (128 - 128) = N
      simp
    unfold ofBitsK
    rw [h0]
  refine PCall.of_awp tok mixed fn55 (Nat.le_of_ble_eq_true rfl) ?_
  conv => whnf
  repeat' first | ((with_reducible refine Box.mk ?_); conv => whnf) | ((with_reducible refine And.intro (fun _ => ?_) (fun _ => ?_)) <;> conv => whnf) | ((with_reducible show AYld _ _ _ _ _); (refine AYld.of tok mixed ?_); conv => whnf) | ((with_reducible show forceH _ _); (refine (forceH_eq _ _).mpr ?_); conv => whnf) | fail
  refine ACall.of_pure (ofBits_ok 2 128 N hN) rfl ?_
  conv => whnf
  repeat' first | ((with_reducible refine Box.mk ?_); conv => whnf) | ((with_reducible refine And.intro (fun _ => ?_) (fun _ => ?_)) <;> conv => whnf) | ((with_reducible show AYld _ _ _ _ _); (refine AYld.of tok mixed ?_); conv => whnf) | ((with_reducible show forceH _ _); (refine (forceH_eq _ _).mpr ?_); conv => whnf) | fail
  rw [← e]; rfl

theorem four_ok (a : Nat) (ha : a < 4294967296) : PCall P 54 [.int .u32 (a : Int)] (kv ⟨1, 32, a * 2 ^ 96, []⟩) := by
  have hw : IntKind.u64.wrap (a : Int) = (a : Int) := wrap_u64 (by omega) (by omega)
  have hl : leftN a 96 = a * 2 ^ 96 := by
    have : a * 2 ^ 96 < 2 ^ 128 := by
      have := Nat.mul_lt_mul_of_pos_right ha (Nat.two_pow_pos 96)
      simpa using this
    unfold leftN
    rw [if_neg (by decide), if_neg (by decide)]
    exact Nat.mod_eq_of_lt this
  have hlt : a * 2 ^ 96 < 2 ^ 128 := by rw [← hl]; exact leftN_lt (by omega) _
  have e : ofBitsK 1 32 (a * 2 ^ 96) = ⟨1, 32, a * 2 ^ 96, []⟩ := by
    have h0 : topN (a * 2 ^ 96) (min (32 : Int) 128).toNat = a * 2 ^ 96 := by
      show a * 2 ^ 96 / 2 ^ 96 * 2 ^ 96 = a * 2 ^ 96
      rw [Nat.mul_div_cancel _ (Nat.two_pow_pos 96)]
    unfold ofBitsK
    rw [h0]
  have c1 := of_ok a (Nat.lt_trans ha (by decide))
  have c2 := pEq (left_ok a 96) (congrArg wv hl)
  have c3 := ofBits_ok 1 32 (a * 2 ^ 96) hlt
  rw [e] at c3
  refine PCall.of_awp tok mixed fn54 (Nat.le_of_ble_eq_true rfl) ?_
  conv => whnf
  repeat' first | ((with_reducible refine Box.mk ?_); conv => whnf) | ((with_reducible refine And.intro (fun _ => ?_) (fun _ => ?_)) <;> conv => whnf) | ((with_reducible show AYld _ _ _ _ _); (refine AYld.of tok mixed ?_); conv => whnf) | ((with_reducible show forceH _ _); (refine (forceH_eq _ _).mpr ?_); conv => whnf) | fail
  refine ACall.of_pure (args := [.int .u64 (IntKind.u64.wrap (a : Int))]) (by rw [hw]; exact c1) rfl ?_
  conv => whnf
  repeat' first | ((with_reducible refine Box.mk ?_); conv => whnf) | ((with_reducible refine And.intro (fun _ => ?_) (fun _ => ?_)) <;> conv => whnf) | ((with_reducible show AYld _ _ _ _ _); (refine AYld.of tok mixed ?_); conv => whnf) | ((with_reducible show forceH _ _); (refine (forceH_eq _ _).mpr ?_); conv => whnf) | fail
  refine ACall.of_pure c2 rfl ?_
  conv => whnf
  repeat' first | ((with_reducible refine Box.mk ?_); conv => whnf) | ((with_reducible refine And.intro (fun _ => ?_) (fun _ => ?_)) <;> conv => whnf) | ((with_reducible show AYld _ _ _ _ _); (refine AYld.of tok mixed ?_); conv => whnf) | ((with_reducible show forceH _ _); (refine (forceH_eq _ _).mpr ?_); conv => whnf) | fail
  refine ACall.of_pure c3 rfl ?_
  conv => whnf
  repeat' first | ((with_reducible refine Box.mk ?_); conv => whnf) | ((with_reducible refine And.intro (fun _ => ?_) (fun _ => ?_)) <;> conv => whnf) | ((with_reducible show AYld _ _ _ _ _); (refine AYld.of tok mixed ?_); conv => whnf) | ((with_reducible show forceH _ _); (refine (forceH_eq _ _).mpr ?_); conv => whnf) | fail
  rfl

def cutK (k : Ky) (n : Int) : Ky := if k.kind = 3 then ofPathK (joinD ((labs k.path).take (min (max n 0) k.len).toNat)) else ofBitsK k.kind (min (max n 0) k.len) k.n
def cutU (k : Ky) (n : Int) : Ky := bif rightK k then cutK k n else zeroK
theorem path_ok (p : Bs) (hp : p.length < 4294967281) : PCall P 57 [.str p] (.tup [kv (bif okPath p then ofPathK p else zeroK), .int .i64 (bif okPath p then 0 else 3)]) := by
  refine PCall.of_awp tok mixed fn57 (Nat.le_of_ble_eq_true rfl) ?_
  conv => whnf
  repeat' first | ((with_reducible refine Box.mk ?_); conv => whnf) | ((with_reducible refine And.intro (fun _ => ?_) (fun _ => ?_)) <;> conv => whnf) | ((with_reducible show AYld _ _ _ _ _); (refine AYld.of tok mixed ?_); conv => whnf) | ((with_reducible show forceH _ _); (refine (forceH_eq _ _).mpr ?_); conv => whnf) | fail
  refine ACall.of_pure (right_ok p hp) rfl ?_
  cases hb : okPath p
  · (conv => whnf); (repeat' first | ((with_reducible refine Box.mk ?_); conv => whnf) | ((with_reducible refine And.intro (fun _ => ?_) (fun _ => ?_)) <;> conv => whnf) | ((with_reducible show AYld _ _ _ _ _); (refine AYld.of tok mixed ?_); conv => whnf) | ((with_reducible show forceH _ _); (refine (forceH_eq _ _).mpr ?_); conv => whnf) | fail)
    show AV.tup [AV.agg [_, _, _, _, _], _] = AV.tup [AV.agg [_, _, _, _, _], _]
    simp [zeroK]
  · (conv => whnf); (repeat' first | ((with_reducible refine Box.mk ?_); conv => whnf) | ((with_reducible refine And.intro (fun _ => ?_) (fun _ => ?_)) <;> conv => whnf) | ((with_reducible show AYld _ _ _ _ _); (refine AYld.of tok mixed ?_); conv => whnf) | ((with_reducible show forceH _ _); (refine (forceH_eq _ _).mpr ?_); conv => whnf) | fail)
    refine ACall.of_pure (ofPath_ok p hp) rfl ?_
    (conv => whnf); (repeat' first | ((with_reducible refine Box.mk ?_); conv => whnf) | ((with_reducible refine And.intro (fun _ => ?_) (fun _ => ?_)) <;> conv => whnf) | ((with_reducible show AYld _ _ _ _ _); (refine AYld.of tok mixed ?_); conv => whnf) | ((with_reducible show forceH _ _); (refine (forceH_eq _ _).mpr ?_); conv => whnf) | fail)
    rfl
end Go.Proofs.YtnajpmepcffnaaaDoor
end

section
/- field: values as numbers, addresses and paths. -/
namespace Go.Proofs.YtnajpmepcffnaaaDoor
open Go.Ve

/-- How much is left of a text without the zeros at its end. -/
def trimN (s : Bs) : Nat → Nat
  | 0 => 0
  | k + 1 => if s[k]? = some 0 then trimN s k else k + 1
def trimZ (s : Bs) : Bs := s.take (trimN s s.length)
theorem trimN_le (s : Bs) : ∀ k, trimN s k ≤ k
  | 0 => Nat.le_refl _
  | k + 1 => by
    unfold trimN
    split
    · exact Nat.le_succ_of_le (trimN_le s k)
    · exact Nat.le_refl _
theorem trimByte_ok (s : Bs) (h : s.length ≤ 9223372036854775807) : PCall P 65 [.str s, .int .u8 0] (.str (trimZ s)) := by
  refine PCall.of_awp tok mixed fn65 (Nat.le_of_ble_eq_true rfl) ?_
  (conv => whnf); (repeat' first | ((with_reducible refine Box.mk ?_); conv => whnf) | ((with_reducible refine And.intro (fun _ => ?_) (fun _ => ?_)) <;> conv => whnf) | ((with_reducible show AYld _ _ _ _ _); (refine AYld.of tok mixed ?_); conv => whnf) | ((with_reducible show forceH _ _); (refine (forceH_eq _ _).mpr ?_); conv => whnf) | ((with_reducible show ACall _ _ _ _ _); (refine ACall.of_pure (by assumption) (by rfl) ?_); conv => whnf) | ((with_reducible show Exists _); (refine ⟨_, ACall.of_pure (by assumption) (by rfl) ⟨rfl, rfl⟩, ?_⟩); conv => whnf) | ((with_reducible show _ ∧ _ ∧ _); (refine ⟨by omega, by omega, ?_⟩); conv => whnf) | fail)
  refine aloop (fun k : Nat => k ≤ s.length ∧ trimN s k = trimN s s.length) (fun k => ⟨envL [(0, .str (s.take k)), (1, .int .u8 0)], []⟩) (fun k => k) s.length ⟨Nat.le_refl _, rfl⟩ (weak_to ⟨congrArg AV.str (List.take_of_length_le (Nat.le_refl _)).symm, rfl, trivial⟩ rfl) ?_
  rintro k ⟨hk, ht⟩
  have hk : k ≤ s.length := hk
  have ht : trimN s k = trimN s s.length := ht
  have hl : (s.take k).length = k := by rw [List.length_take]; omega
  cases k with
  | zero =>
    (conv => whnf); (repeat' first | ((with_reducible refine Box.mk ?_); conv => whnf) | ((with_reducible refine And.intro (fun _ => ?_) (fun _ => ?_)) <;> conv => whnf) | ((with_reducible show AYld _ _ _ _ _); (refine AYld.of tok mixed ?_); conv => whnf) | ((with_reducible show forceH _ _); (refine (forceH_eq _ _).mpr ?_); conv => whnf) | ((with_reducible show ACall _ _ _ _ _); (refine ACall.of_pure (by assumption) (by rfl) ?_); conv => whnf) | ((with_reducible show Exists _); (refine ⟨_, ACall.of_pure (by assumption) (by rfl) ⟨rfl, rfl⟩, ?_⟩); conv => whnf) | ((with_reducible show _ ∧ _ ∧ _); (refine ⟨by omega, by omega, ?_⟩); conv => whnf) | fail)
    all_goals try (exfalso; omega)
    refine res1_eq (congrArg AV.str ?_)
    show s.take 0 = _
    unfold trimZ
    rw [← ht]; rfl
  | succ j =>
    have hw : IntKind.i64.wrap ((((s.take (j + 1)).length : Nat) : Int) - 1) = ((j : Nat) : Int) := by rw [hl, wrap_i64 (by omega) (by omega)]; omega
    have hg0 : s[j]? = some s[j] := List.getElem?_eq_getElem (by omega)
    have hg : (s.take (j + 1))[((j : Nat) : Int).toNat]? = some s[j] := by rw [Int.toNat_natCast, List.getElem?_take, if_pos (by omega)]; exact hg0
    have hcut : List.drop 0 (List.take ((j : Nat) : Int).toNat (s.take (j + 1))) = s.take j := by
      rw [List.drop_zero, Int.toNat_natCast, List.take_take]; congr 1; omega
    have hb : ((s[j].toNat : Int) = 0) ↔ s[j] = 0 := by
      constructor
      · intro h; exact UInt8.toNat_inj.1 (by simpa using h)
      · intro h; rw [h]; rfl
    generalize s[j] = c at *
    (conv => whnf); (repeat' first | ((with_reducible refine Box.mk ?_); conv => whnf) | ((with_reducible refine And.intro (fun _ => ?_) (fun _ => ?_)) <;> conv => whnf) | ((with_reducible show AYld _ _ _ _ _); (refine AYld.of tok mixed ?_); conv => whnf) | ((with_reducible show forceH _ _); (refine (forceH_eq _ _).mpr ?_); conv => whnf) | ((with_reducible show ACall _ _ _ _ _); (refine ACall.of_pure (by assumption) (by rfl) ?_); conv => whnf) | ((with_reducible show Exists _); (refine ⟨_, ACall.of_pure (by assumption) (by rfl) ⟨rfl, rfl⟩, ?_⟩); conv => whnf) | ((with_reducible show _ ∧ _ ∧ _); (refine ⟨by omega, by omega, ?_⟩); conv => whnf) | fail)
    all_goals try (exfalso; omega)
    rw [hw]
    refine ⟨by omega, _, hg, ?_⟩
    (conv => whnf); (repeat' first | ((with_reducible refine Box.mk ?_); conv => whnf) | ((with_reducible refine And.intro (fun _ => ?_) (fun _ => ?_)) <;> conv => whnf) | ((with_reducible show AYld _ _ _ _ _); (refine AYld.of tok mixed ?_); conv => whnf) | ((with_reducible show forceH _ _); (refine (forceH_eq _ _).mpr ?_); conv => whnf) | ((with_reducible show ACall _ _ _ _ _); (refine ACall.of_pure (by assumption) (by rfl) ?_); conv => whnf) | ((with_reducible show Exists _); (refine ⟨_, ACall.of_pure (by assumption) (by rfl) ⟨rfl, rfl⟩, ?_⟩); conv => whnf) | ((with_reducible show _ ∧ _ ∧ _); (refine ⟨by omega, by omega, ?_⟩); conv => whnf) | fail)
    · rename_i h0
      have hc := hb.1 h0
      refine ⟨j, ⟨by omega, ?_⟩, by show j < j + 1; omega, weak_to ⟨congrArg AV.str (by rw [hw]; exact hcut), rfl, trivial⟩ rfl⟩
      rw [← ht]
      show trimN s j = if s[j]? = some 0 then trimN s j else j + 1
      rw [if_pos (by rw [hg0, hc])]
    · rename_i h0
      refine res1_eq (congrArg AV.str ?_)
      show s.take (j + 1) = _
      unfold trimZ
      rw [← ht]
      show _ = s.take (if s[j]? = some 0 then trimN s j else j + 1)
      rw [if_neg (fun h => h0 (hb.2 (by rw [hg0] at h; exact Option.some.inj h)))]
theorem trimRight_ok (s : Bs) (h : s.length ≤ 9223372036854775807) : PCall P 56 [.str s, .str [0]] (.str (trimZ s)) := by
  have q := trimByte_ok s h
  refine PCall.of_awp tok mixed fn56 (Nat.le_of_ble_eq_true rfl) ?_
  (conv => whnf); (repeat' first | ((with_reducible refine Box.mk ?_); conv => whnf) | ((with_reducible refine And.intro (fun _ => ?_) (fun _ => ?_)) <;> conv => whnf) | ((with_reducible show AYld _ _ _ _ _); (refine AYld.of tok mixed ?_); conv => whnf) | ((with_reducible show forceH _ _); (refine (forceH_eq _ _).mpr ?_); conv => whnf) | ((with_reducible show ACall _ _ _ _ _); (refine ACall.of_pure (by assumption) (by rfl) ?_); conv => whnf) | ((with_reducible show Exists _); (refine ⟨_, ACall.of_pure (by assumption) (by rfl) ⟨rfl, rfl⟩, ?_⟩); conv => whnf) | ((with_reducible show _ ∧ _ ∧ _); (refine ⟨by omega, by omega, ?_⟩); conv => whnf) | fail)
  · rename_i h0
    rw [h0]; rfl
  all_goals first
    | (rename_i hbad; exact absurd hbad (by decide))
    | skip
  all_goals try (rename_i hbad _; exact absurd hbad (by decide))
  all_goals try (exfalso; rename_i hbad; exact hbad rfl)
  refine ⟨by decide, _, rfl, ?_⟩
  (conv => whnf); (repeat' first | ((with_reducible refine Box.mk ?_); conv => whnf) | ((with_reducible refine And.intro (fun _ => ?_) (fun _ => ?_)) <;> conv => whnf) | ((with_reducible show AYld _ _ _ _ _); (refine AYld.of tok mixed ?_); conv => whnf) | ((with_reducible show forceH _ _); (refine (forceH_eq _ _).mpr ?_); conv => whnf) | ((with_reducible show ACall _ _ _ _ _); (refine ACall.of_pure (by assumption) (by rfl) ?_); conv => whnf) | ((with_reducible show Exists _); (refine ⟨_, ACall.of_pure (by assumption) (by rfl) ⟨rfl, rfl⟩, ?_⟩); conv => whnf) | ((with_reducible show _ ∧ _ ∧ _); (refine ⟨by omega, by omega, ?_⟩); conv => whnf) | fail)
  · refine ⟨by decide, _, rfl, ?_⟩
    (conv => whnf); (repeat' first | ((with_reducible refine Box.mk ?_); conv => whnf) | ((with_reducible refine And.intro (fun _ => ?_) (fun _ => ?_)) <;> conv => whnf) | ((with_reducible show AYld _ _ _ _ _); (refine AYld.of tok mixed ?_); conv => whnf) | ((with_reducible show forceH _ _); (refine (forceH_eq _ _).mpr ?_); conv => whnf) | ((with_reducible show ACall _ _ _ _ _); (refine ACall.of_pure (by assumption) (by rfl) ?_); conv => whnf) | ((with_reducible show Exists _); (refine ⟨_, ACall.of_pure (by assumption) (by rfl) ⟨rfl, rfl⟩, ?_⟩); conv => whnf) | ((with_reducible show _ ∧ _ ∧ _); (refine ⟨by omega, by omega, ?_⟩); conv => whnf) | fail)
    rfl
  · rename_i hbad
    exact absurd (by decide) hbad
theorem fNumber_ok (x : Bs) (hx : x.length ≤ 8) : PCall P 45 [.sl (bcl x)] (.int .u64 (valB x : Nat)) := by
  have hbl := bcl_len x
  refine PCall.of_awp tok mixed fn45 (Nat.le_of_ble_eq_true rfl) ?_
  (conv => whnf); (repeat' first | ((with_reducible refine Box.mk ?_); conv => whnf) | ((with_reducible refine And.intro (fun _ => ?_) (fun _ => ?_)) <;> conv => whnf) | ((with_reducible show AYld _ _ _ _ _); (refine AYld.of tok mixed ?_); conv => whnf) | ((with_reducible show forceH _ _); (refine (forceH_eq _ _).mpr ?_); conv => whnf) | ((with_reducible show ACall _ _ _ _ _); (refine ACall.of_pure (by assumption) (by rfl) ?_); conv => whnf) | ((with_reducible show Exists _); (refine ⟨_, ACall.of_pure (by assumption) (by rfl) ⟨rfl, rfl⟩, ?_⟩); conv => whnf) | ((with_reducible show _ ∧ _ ∧ _); (refine ⟨by omega, by omega, ?_⟩); conv => whnf) | fail)
  refine aloop (fun i : Nat => i ≤ x.length) (fun i => ⟨envL [(3, .int .u64 (valB (x.take i) : Nat)), (6, .sl (bcl x)), (7, .int .i64 (bcl x).length), (8, .int .i64 i)], []⟩) (fun i => x.length - i) 0 (Nat.zero_le _) (weak_to ⟨rfl, rfl, rfl, rfl, trivial⟩ rfl) ?_
  intro i hi
  have hi : i ≤ x.length := hi
  by_cases hil : i < x.length
  · have hg := List.getElem?_eq_getElem hil
    have hv := valB_take hg
    have hlt : valB (x.take i) * 256 + (x[i]).toNat < H64 := by rw [← hv]; exact valB_lt8 (by rw [List.length_take]; omega)
    have hc := bcl_get hg
    generalize x[i] = c at *
    (conv => whnf); (repeat' first | ((with_reducible refine Box.mk ?_); conv => whnf) | ((with_reducible refine And.intro (fun _ => ?_) (fun _ => ?_)) <;> conv => whnf) | ((with_reducible show AYld _ _ _ _ _); (refine AYld.of tok mixed ?_); conv => whnf) | ((with_reducible show forceH _ _); (refine (forceH_eq _ _).mpr ?_); conv => whnf) | ((with_reducible show ACall _ _ _ _ _); (refine ACall.of_pure (by assumption) (by rfl) ?_); conv => whnf) | ((with_reducible show Exists _); (refine ⟨_, ACall.of_pure (by assumption) (by rfl) ⟨rfl, rfl⟩, ?_⟩); conv => whnf) | ((with_reducible show _ ∧ _ ∧ _); (refine ⟨by omega, by omega, ?_⟩); conv => whnf) | fail)
    all_goals try (exfalso; omega)
    refine ⟨by omega, _, hc, rfl, ?_⟩
    (conv => whnf); (repeat' first | ((with_reducible refine Box.mk ?_); conv => whnf) | ((with_reducible refine And.intro (fun _ => ?_) (fun _ => ?_)) <;> conv => whnf) | ((with_reducible show AYld _ _ _ _ _); (refine AYld.of tok mixed ?_); conv => whnf) | ((with_reducible show forceH _ _); (refine (forceH_eq _ _).mpr ?_); conv => whnf) | ((with_reducible show ACall _ _ _ _ _); (refine ACall.of_pure (by assumption) (by rfl) ?_); conv => whnf) | ((with_reducible show Exists _); (refine ⟨_, ACall.of_pure (by assumption) (by rfl) ⟨rfl, rfl⟩, ?_⟩); conv => whnf) | ((with_reducible show _ ∧ _ ∧ _); (refine ⟨by omega, by omega, ?_⟩); conv => whnf) | fail)
    refine ⟨by decide, ?_⟩
    (conv => whnf); (repeat' first | ((with_reducible refine Box.mk ?_); conv => whnf) | ((with_reducible refine And.intro (fun _ => ?_) (fun _ => ?_)) <;> conv => whnf) | ((with_reducible show AYld _ _ _ _ _); (refine AYld.of tok mixed ?_); conv => whnf) | ((with_reducible show forceH _ _); (refine (forceH_eq _ _).mpr ?_); conv => whnf) | ((with_reducible show ACall _ _ _ _ _); (refine ACall.of_pure (by assumption) (by rfl) ?_); conv => whnf) | ((with_reducible show Exists _); (refine ⟨_, ACall.of_pure (by assumption) (by rfl) ⟨rfl, rfl⟩, ?_⟩); conv => whnf) | ((with_reducible show _ ∧ _ ∧ _); (refine ⟨by omega, by omega, ?_⟩); conv => whnf) | fail)
    refine ⟨i + 1, hil, by show x.length - (i + 1) < x.length - i; omega, weak_to ⟨congrArg (AV.int .u64) ?_, rfl, rfl, wrap_nat (m := 1) (by omega), trivial⟩ rfl⟩
    rw [hv, wrap64_u8]
    exact shl_or c hlt
  · (conv => whnf); (repeat' first | ((with_reducible refine Box.mk ?_); conv => whnf) | ((with_reducible refine And.intro (fun _ => ?_) (fun _ => ?_)) <;> conv => whnf) | ((with_reducible show AYld _ _ _ _ _); (refine AYld.of tok mixed ?_); conv => whnf) | ((with_reducible show forceH _ _); (refine (forceH_eq _ _).mpr ?_); conv => whnf) | ((with_reducible show ACall _ _ _ _ _); (refine ACall.of_pure (by assumption) (by rfl) ?_); conv => whnf) | ((with_reducible show Exists _); (refine ⟨_, ACall.of_pure (by assumption) (by rfl) ⟨rfl, rfl⟩, ?_⟩); conv => whnf) | ((with_reducible show _ ∧ _ ∧ _); (refine ⟨by omega, by omega, ?_⟩); conv => whnf) | fail)
    all_goals try (exfalso; omega)
    exact res1_eq (congrArg (AV.int .u64) (by show ((valB (x.take i) : Nat) : Int) = _; rw [List.take_of_length_le (by omega)]))
/-- Bytes as an array variable's cells. -/
def cel (b : Bs) : List AV := b.map fun c => .int .u8 (c.toNat : Int)
theorem val_step (x : Bs) (i : Nat) (c : UInt8) (hg : x[i]? = some c) (hi : i < 8) : bits .or .u64 (IntKind.u64.wrap (((valB (x.take i) : Nat) : Int) * 2 ^ (min (8 : Int).toNat IntKind.u64.bits))) (IntKind.u64.wrap (c.toNat : Int)) = ((valB (x.take (i + 1)) : Nat) : Int) := by
  have hv := valB_take hg
  have hlt : valB (x.take i) * 256 + c.toNat < H64 := by rw [← hv]; exact valB_lt8 (by rw [List.length_take]; omega)
  rw [hv, wrap64_u8]
  exact shl_or c hlt
set_option maxHeartbeats 4000000 in
theorem fNumberA (c0 c1 c2 c3 c4 c5 c6 c7 c8 c9 c10 c11 c12 c13 c14 c15 : UInt8) : DCall P 45 [.asl 0 0 8] [.box 89 (cel [c0, c1, c2, c3, c4, c5, c6, c7, c8, c9, c10, c11, c12, c13, c14, c15])] (.int .u64 (valB [c0, c1, c2, c3, c4, c5, c6, c7] : Nat)) [.box 89 (cel [c0, c1, c2, c3, c4, c5, c6, c7, c8, c9, c10, c11, c12, c13, c14, c15])] := by
  refine DCall.of_awp tok mixed fn45 (Nat.le_of_ble_eq_true rfl) ?_
  (conv => whnf); (repeat' first | ((with_reducible refine Box.mk ?_); conv => whnf) | ((with_reducible refine And.intro (fun _ => ?_) (fun _ => ?_)) <;> conv => whnf) | ((with_reducible show AYld _ _ _ _ _); (refine AYld.of tok mixed ?_); conv => whnf) | ((with_reducible show forceH _ _); (refine (forceH_eq _ _).mpr ?_); conv => whnf) | ((with_reducible show ACall _ _ _ _ _); (refine ACall.of_pure (by assumption) (by rfl) ?_); conv => whnf) | ((with_reducible show Exists _); (refine ⟨_, ACall.of_pure (by assumption) (by rfl) ⟨rfl, rfl⟩, ?_⟩); conv => whnf) | ((with_reducible show _ ∧ _ ∧ _); (refine ⟨by omega, by omega, ?_⟩); conv => whnf) | fail)
  refine aloop (fun i : Nat => i ≤ 8) (fun i => ⟨envL [(3, .int .u64 (valB (([c0, c1, c2, c3, c4, c5, c6, c7] : Bs).take i) : Nat)), (6, .asl 0 0 8), (7, .int .i64 8), (8, .int .i64 i)], [.box 89 (cel [c0, c1, c2, c3, c4, c5, c6, c7, c8, c9, c10, c11, c12, c13, c14, c15])]⟩) (fun i => 8 - i) 0 (Nat.zero_le _) (weak_to ⟨rfl, rfl, rfl, rfl, trivial⟩ rfl) ?_
  intro i hi
  have hcase : i = 0 ∨ i = 1 ∨ i = 2 ∨ i = 3 ∨ i = 4 ∨ i = 5 ∨ i = 6 ∨ i = 7 ∨ i = 8 := by have hi : i ≤ 8 := hi; omega
  rcases hcase with rfl | rfl | rfl | rfl | rfl | rfl | rfl | rfl | rfl
  · have hs := val_step [c0, c1, c2, c3, c4, c5, c6, c7] 0 c0 rfl (by decide)
    (conv => whnf); (repeat' first | ((with_reducible refine Box.mk ?_); conv => whnf) | ((with_reducible refine And.intro (fun _ => ?_) (fun _ => ?_)) <;> conv => whnf) | ((with_reducible show AYld _ _ _ _ _); (refine AYld.of tok mixed ?_); conv => whnf) | ((with_reducible show forceH _ _); (refine (forceH_eq _ _).mpr ?_); conv => whnf) | ((with_reducible show ACall _ _ _ _ _); (refine ACall.of_pure (by assumption) (by rfl) ?_); conv => whnf) | ((with_reducible show Exists _); (refine ⟨_, ACall.of_pure (by assumption) (by rfl) ⟨rfl, rfl⟩, ?_⟩); conv => whnf) | ((with_reducible show _ ∧ _ ∧ _); (refine ⟨by omega, by omega, ?_⟩); conv => whnf) | fail)
    all_goals try (exfalso; omega)
    refine ⟨by decide, ?_⟩
    (conv => whnf); (repeat' first | ((with_reducible refine Box.mk ?_); conv => whnf) | ((with_reducible refine And.intro (fun _ => ?_) (fun _ => ?_)) <;> conv => whnf) | ((with_reducible show AYld _ _ _ _ _); (refine AYld.of tok mixed ?_); conv => whnf) | ((with_reducible show forceH _ _); (refine (forceH_eq _ _).mpr ?_); conv => whnf) | ((with_reducible show ACall _ _ _ _ _); (refine ACall.of_pure (by assumption) (by rfl) ?_); conv => whnf) | ((with_reducible show Exists _); (refine ⟨_, ACall.of_pure (by assumption) (by rfl) ⟨rfl, rfl⟩, ?_⟩); conv => whnf) | ((with_reducible show _ ∧ _ ∧ _); (refine ⟨by omega, by omega, ?_⟩); conv => whnf) | fail)
    exact ⟨1, by show 1 ≤ 8; decide, by show 8 - 1 < 8 - 0; decide, weak_to ⟨congrArg (AV.int .u64) hs, rfl, rfl, wrap_nat (m := 1) (by decide), trivial⟩ rfl⟩
  · have hs := val_step [c0, c1, c2, c3, c4, c5, c6, c7] 1 c1 rfl (by decide)
    (conv => whnf); (repeat' first | ((with_reducible refine Box.mk ?_); conv => whnf) | ((with_reducible refine And.intro (fun _ => ?_) (fun _ => ?_)) <;> conv => whnf) | ((with_reducible show AYld _ _ _ _ _); (refine AYld.of tok mixed ?_); conv => whnf) | ((with_reducible show forceH _ _); (refine (forceH_eq _ _).mpr ?_); conv => whnf) | ((with_reducible show ACall _ _ _ _ _); (refine ACall.of_pure (by assumption) (by rfl) ?_); conv => whnf) | ((with_reducible show Exists _); (refine ⟨_, ACall.of_pure (by assumption) (by rfl) ⟨rfl, rfl⟩, ?_⟩); conv => whnf) | ((with_reducible show _ ∧ _ ∧ _); (refine ⟨by omega, by omega, ?_⟩); conv => whnf) | fail)
    all_goals try (exfalso; omega)
    refine ⟨by decide, ?_⟩
    (conv => whnf); (repeat' first | ((with_reducible refine Box.mk ?_); conv => whnf) | ((with_reducible refine And.intro (fun _ => ?_) (fun _ => ?_)) <;> conv => whnf) | ((with_reducible show AYld _ _ _ _ _); (refine AYld.of tok mixed ?_); conv => whnf) | ((with_reducible show forceH _ _); (refine (forceH_eq _ _).mpr ?_); conv => whnf) | ((with_reducible show ACall _ _ _ _ _); (refine ACall.of_pure (by assumption) (by rfl) ?_); conv => whnf) | ((with_reducible show Exists _); (refine ⟨_, ACall.of_pure (by assumption) (by rfl) ⟨rfl, rfl⟩, ?_⟩); conv => whnf) | ((with_reducible show _ ∧ _ ∧ _); (refine ⟨by omega, by omega, ?_⟩); conv => whnf) | fail)
    exact ⟨2, by show 2 ≤ 8; decide, by show 8 - 2 < 8 - 1; decide, weak_to ⟨congrArg (AV.int .u64) hs, rfl, rfl, wrap_nat (m := 1) (by decide), trivial⟩ rfl⟩
  · have hs := val_step [c0, c1, c2, c3, c4, c5, c6, c7] 2 c2 rfl (by decide)
    (conv => whnf); (repeat' first | ((with_reducible refine Box.mk ?_); conv => whnf) | ((with_reducible refine And.intro (fun _ => ?_) (fun _ => ?_)) <;> conv => whnf) | ((with_reducible show AYld _ _ _ _ _); (refine AYld.of tok mixed ?_); conv => whnf) | ((with_reducible show forceH _ _); (refine (forceH_eq _ _).mpr ?_); conv => whnf) | ((with_reducible show ACall _ _ _ _ _); (refine ACall.of_pure (by assumption) (by rfl) ?_); conv => whnf) | ((with_reducible show Exists _); (refine ⟨_, ACall.of_pure (by assumption) (by rfl) ⟨rfl, rfl⟩, ?_⟩); conv => whnf) | ((with_reducible show _ ∧ _ ∧ _); (refine ⟨by omega, by omega, ?_⟩); conv => whnf) | fail)
    all_goals try (exfalso; omega)
    refine ⟨by decide, ?_⟩
    (conv => whnf); (repeat' first | ((with_reducible refine Box.mk ?_); conv => whnf) | ((with_reducible refine And.intro (fun _ => ?_) (fun _ => ?_)) <;> conv => whnf) | ((with_reducible show AYld _ _ _ _ _); (refine AYld.of tok mixed ?_); conv => whnf) | ((with_reducible show forceH _ _); (refine (forceH_eq _ _).mpr ?_); conv => whnf) | ((with_reducible show ACall _ _ _ _ _); (refine ACall.of_pure (by assumption) (by rfl) ?_); conv => whnf) | ((with_reducible show Exists _); (refine ⟨_, ACall.of_pure (by assumption) (by rfl) ⟨rfl, rfl⟩, ?_⟩); conv => whnf) | ((with_reducible show _ ∧ _ ∧ _); (refine ⟨by omega, by omega, ?_⟩); conv => whnf) | fail)
    exact ⟨3, by show 3 ≤ 8; decide, by show 8 - 3 < 8 - 2; decide, weak_to ⟨congrArg (AV.int .u64) hs, rfl, rfl, wrap_nat (m := 1) (by decide), trivial⟩ rfl⟩
  · have hs := val_step [c0, c1, c2, c3, c4, c5, c6, c7] 3 c3 rfl (by decide)
    (conv => whnf); (repeat' first | ((with_reducible refine Box.mk ?_); conv => whnf) | ((with_reducible refine And.intro (fun _ => ?_) (fun _ => ?_)) <;> conv => whnf) | ((with_reducible show AYld _ _ _ _ _); (refine AYld.of tok mixed ?_); conv => whnf) | ((with_reducible show forceH _ _); (refine (forceH_eq _ _).mpr ?_); conv => whnf) | ((with_reducible show ACall _ _ _ _ _); (refine ACall.of_pure (by assumption) (by rfl) ?_); conv => whnf) | ((with_reducible show Exists _); (refine ⟨_, ACall.of_pure (by assumption) (by rfl) ⟨rfl, rfl⟩, ?_⟩); conv => whnf) | ((with_reducible show _ ∧ _ ∧ _); (refine ⟨by omega, by omega, ?_⟩); conv => whnf) | fail)
    all_goals try (exfalso; omega)
    refine ⟨by decide, ?_⟩
    (conv => whnf); (repeat' first | ((with_reducible refine Box.mk ?_); conv => whnf) | ((with_reducible refine And.intro (fun _ => ?_) (fun _ => ?_)) <;> conv => whnf) | ((with_reducible show AYld _ _ _ _ _); (refine AYld.of tok mixed ?_); conv => whnf) | ((with_reducible show forceH _ _); (refine (forceH_eq _ _).mpr ?_); conv => whnf) | ((with_reducible show ACall _ _ _ _ _); (refine ACall.of_pure (by assumption) (by rfl) ?_); conv => whnf) | ((with_reducible show Exists _); (refine ⟨_, ACall.of_pure (by assumption) (by rfl) ⟨rfl, rfl⟩, ?_⟩); conv => whnf) | ((with_reducible show _ ∧ _ ∧ _); (refine ⟨by omega, by omega, ?_⟩); conv => whnf) | fail)
    exact ⟨4, by show 4 ≤ 8; decide, by show 8 - 4 < 8 - 3; decide, weak_to ⟨congrArg (AV.int .u64) hs, rfl, rfl, wrap_nat (m := 1) (by decide), trivial⟩ rfl⟩
  · have hs := val_step [c0, c1, c2, c3, c4, c5, c6, c7] 4 c4 rfl (by decide)
    (conv => whnf); (repeat' first | ((with_reducible refine Box.mk ?_); conv => whnf) | ((with_reducible refine And.intro (fun _ => ?_) (fun _ => ?_)) <;> conv => whnf) | ((with_reducible show AYld _ _ _ _ _); (refine AYld.of tok mixed ?_); conv => whnf) | ((with_reducible show forceH _ _); (refine (forceH_eq _ _).mpr ?_); conv => whnf) | ((with_reducible show ACall _ _ _ _ _); (refine ACall.of_pure (by assumption) (by rfl) ?_); conv => whnf) | ((with_reducible show Exists _); (refine ⟨_, ACall.of_pure (by assumption) (by rfl) ⟨rfl, rfl⟩, ?_⟩); conv => whnf) | ((with_reducible show _ ∧ _ ∧ _); (refine ⟨by omega, by omega, ?_⟩); conv => whnf) | fail)
    all_goals try (exfalso; omega)
    refine ⟨by decide, ?_⟩
    (conv => whnf); (repeat' first | ((with_reducible refine Box.mk ?_); conv => whnf) | ((with_reducible refine And.intro (fun _ => ?_) (fun _ => ?_)) <;> conv => whnf) | ((with_reducible show AYld _ _ _ _ _); (refine AYld.of tok mixed ?_); conv => whnf) | ((with_reducible show forceH _ _); (refine (forceH_eq _ _).mpr ?_); conv => whnf) | ((with_reducible show ACall _ _ _ _ _); (refine ACall.of_pure (by assumption) (by rfl) ?_); conv => whnf) | ((with_reducible show Exists _); (refine ⟨_, ACall.of_pure (by assumption) (by rfl) ⟨rfl, rfl⟩, ?_⟩); conv => whnf) | ((with_reducible show _ ∧ _ ∧ _); (refine ⟨by omega, by omega, ?_⟩); conv => whnf) | fail)
    exact ⟨5, by show 5 ≤ 8; decide, by show 8 - 5 < 8 - 4; decide, weak_to ⟨congrArg (AV.int .u64) hs, rfl, rfl, wrap_nat (m := 1) (by decide), trivial⟩ rfl⟩
  · have hs := val_step [c0, c1, c2, c3, c4, c5, c6, c7] 5 c5 rfl (by decide)
    (conv => whnf); (repeat' first | ((with_reducible refine Box.mk ?_); conv => whnf) | ((with_reducible refine And.intro (fun _ => ?_) (fun _ => ?_)) <;> conv => whnf) | ((with_reducible show AYld _ _ _ _ _); (refine AYld.of tok mixed ?_); conv => whnf) | ((with_reducible show forceH _ _); (refine (forceH_eq _ _).mpr ?_); conv => whnf) | ((with_reducible show ACall _ _ _ _ _); (refine ACall.of_pure (by assumption) (by rfl) ?_); conv => whnf) | ((with_reducible show Exists _); (refine ⟨_, ACall.of_pure (by assumption) (by rfl) ⟨rfl, rfl⟩, ?_⟩); conv => whnf) | ((with_reducible show _ ∧ _ ∧ _); (refine ⟨by omega, by omega, ?_⟩); conv => whnf) | fail)
    all_goals try (exfalso; omega)
    refine ⟨by decide, ?_⟩
    (conv => whnf); (repeat' first | ((with_reducible refine Box.mk ?_); conv => whnf) | ((with_reducible refine And.intro (fun _ => ?_) (fun _ => ?_)) <;> conv => whnf) | ((with_reducible show AYld _ _ _ _ _); (refine AYld.of tok mixed ?_); conv => whnf) | ((with_reducible show forceH _ _); (refine (forceH_eq _ _).mpr ?_); conv => whnf) | ((with_reducible show ACall _ _ _ _ _); (refine ACall.of_pure (by assumption) (by rfl) ?_); conv => whnf) | ((with_reducible show Exists _); (refine ⟨_, ACall.of_pure (by assumption) (by rfl) ⟨rfl, rfl⟩, ?_⟩); conv => whnf) | ((with_reducible show _ ∧ _ ∧ _); (refine ⟨by omega, by omega, ?_⟩); conv => whnf) | fail)
    exact ⟨6, by show 6 ≤ 8; decide, by show 8 - 6 < 8 - 5; decide, weak_to ⟨congrArg (AV.int .u64) hs, rfl, rfl, wrap_nat (m := 1) (by decide), trivial⟩ rfl⟩
  · have hs := val_step [c0, c1, c2, c3, c4, c5, c6, c7] 6 c6 rfl (by decide)
    (conv => whnf); (repeat' first | ((with_reducible refine Box.mk ?_); conv => whnf) | ((with_reducible refine And.intro (fun _ => ?_) (fun _ => ?_)) <;> conv => whnf) | ((with_reducible show AYld _ _ _ _ _); (refine AYld.of tok mixed ?_); conv => whnf) | ((with_reducible show forceH _ _); (refine (forceH_eq _ _).mpr ?_); conv => whnf) | ((with_reducible show ACall _ _ _ _ _); (refine ACall.of_pure (by assumption) (by rfl) ?_); conv => whnf) | ((with_reducible show Exists _); (refine ⟨_, ACall.of_pure (by assumption) (by rfl) ⟨rfl, rfl⟩, ?_⟩); conv => whnf) | ((with_reducible show _ ∧ _ ∧ _); (refine ⟨by omega, by omega, ?_⟩); conv => whnf) | fail)
    all_goals try (exfalso; omega)
    refine ⟨by decide, ?_⟩
    (conv => whnf); (repeat' first | ((with_reducible refine Box.mk ?_); conv => whnf) | ((with_reducible refine And.intro (fun _ => ?_) (fun _ => ?_)) <;> conv => whnf) | ((with_reducible show AYld _ _ _ _ _); (refine AYld.of tok mixed ?_); conv => whnf) | ((with_reducible show forceH _ _); (refine (forceH_eq _ _).mpr ?_); conv => whnf) | ((with_reducible show ACall _ _ _ _ _); (refine ACall.of_pure (by assumption) (by rfl) ?_); conv => whnf) | ((with_reducible show Exists _); (refine ⟨_, ACall.of_pure (by assumption) (by rfl) ⟨rfl, rfl⟩, ?_⟩); conv => whnf) | ((with_reducible show _ ∧ _ ∧ _); (refine ⟨by omega, by omega, ?_⟩); conv => whnf) | fail)
    exact ⟨7, by show 7 ≤ 8; decide, by show 8 - 7 < 8 - 6; decide, weak_to ⟨congrArg (AV.int .u64) hs, rfl, rfl, wrap_nat (m := 1) (by decide), trivial⟩ rfl⟩
  · have hs := val_step [c0, c1, c2, c3, c4, c5, c6, c7] 7 c7 rfl (by decide)
    (conv => whnf); (repeat' first | ((with_reducible refine Box.mk ?_); conv => whnf) | ((with_reducible refine And.intro (fun _ => ?_) (fun _ => ?_)) <;> conv => whnf) | ((with_reducible show AYld _ _ _ _ _); (refine AYld.of tok mixed ?_); conv => whnf) | ((with_reducible show forceH _ _); (refine (forceH_eq _ _).mpr ?_); conv => whnf) | ((with_reducible show ACall _ _ _ _ _); (refine ACall.of_pure (by assumption) (by rfl) ?_); conv => whnf) | ((with_reducible show Exists _); (refine ⟨_, ACall.of_pure (by assumption) (by rfl) ⟨rfl, rfl⟩, ?_⟩); conv => whnf) | ((with_reducible show _ ∧ _ ∧ _); (refine ⟨by omega, by omega, ?_⟩); conv => whnf) | fail)
    all_goals try (exfalso; omega)
    refine ⟨by decide, ?_⟩
    (conv => whnf); (repeat' first | ((with_reducible refine Box.mk ?_); conv => whnf) | ((with_reducible refine And.intro (fun _ => ?_) (fun _ => ?_)) <;> conv => whnf) | ((with_reducible show AYld _ _ _ _ _); (refine AYld.of tok mixed ?_); conv => whnf) | ((with_reducible show forceH _ _); (refine (forceH_eq _ _).mpr ?_); conv => whnf) | ((with_reducible show ACall _ _ _ _ _); (refine ACall.of_pure (by assumption) (by rfl) ?_); conv => whnf) | ((with_reducible show Exists _); (refine ⟨_, ACall.of_pure (by assumption) (by rfl) ⟨rfl, rfl⟩, ?_⟩); conv => whnf) | ((with_reducible show _ ∧ _ ∧ _); (refine ⟨by omega, by omega, ?_⟩); conv => whnf) | fail)
    exact ⟨8, by show 8 ≤ 8; decide, by show 8 - 8 < 8 - 7; decide, weak_to ⟨congrArg (AV.int .u64) hs, rfl, rfl, wrap_nat (m := 1) (by decide), trivial⟩ rfl⟩
  · (conv => whnf); (repeat' first | ((with_reducible refine Box.mk ?_); conv => whnf) | ((with_reducible refine And.intro (fun _ => ?_) (fun _ => ?_)) <;> conv => whnf) | ((with_reducible show AYld _ _ _ _ _); (refine AYld.of tok mixed ?_); conv => whnf) | ((with_reducible show forceH _ _); (refine (forceH_eq _ _).mpr ?_); conv => whnf) | ((with_reducible show ACall _ _ _ _ _); (refine ACall.of_pure (by assumption) (by rfl) ?_); conv => whnf) | ((with_reducible show Exists _); (refine ⟨_, ACall.of_pure (by assumption) (by rfl) ⟨rfl, rfl⟩, ?_⟩); conv => whnf) | ((with_reducible show _ ∧ _ ∧ _); (refine ⟨by omega, by omega, ?_⟩); conv => whnf) | fail)
    all_goals try (exfalso; omega)
    exact weak_to ⟨rfl, trivial⟩ rfl
set_option maxHeartbeats 4000000 in
theorem fNumberB (c0 c1 c2 c3 c4 c5 c6 c7 c8 c9 c10 c11 c12 c13 c14 c15 : UInt8) : DCall P 45 [.asl 0 8 8] [.box 89 (cel [c0, c1, c2, c3, c4, c5, c6, c7, c8, c9, c10, c11, c12, c13, c14, c15])] (.int .u64 (valB [c8, c9, c10, c11, c12, c13, c14, c15] : Nat)) [.box 89 (cel [c0, c1, c2, c3, c4, c5, c6, c7, c8, c9, c10, c11, c12, c13, c14, c15])] := by
  refine DCall.of_awp tok mixed fn45 (Nat.le_of_ble_eq_true rfl) ?_
  (conv => whnf); (repeat' first | ((with_reducible refine Box.mk ?_); conv => whnf) | ((with_reducible refine And.intro (fun _ => ?_) (fun _ => ?_)) <;> conv => whnf) | ((with_reducible show AYld _ _ _ _ _); (refine AYld.of tok mixed ?_); conv => whnf) | ((with_reducible show forceH _ _); (refine (forceH_eq _ _).mpr ?_); conv => whnf) | ((with_reducible show ACall _ _ _ _ _); (refine ACall.of_pure (by assumption) (by rfl) ?_); conv => whnf) | ((with_reducible show Exists _); (refine ⟨_, ACall.of_pure (by assumption) (by rfl) ⟨rfl, rfl⟩, ?_⟩); conv => whnf) | ((with_reducible show _ ∧ _ ∧ _); (refine ⟨by omega, by omega, ?_⟩); conv => whnf) | fail)
  refine aloop (fun i : Nat => i ≤ 8) (fun i => ⟨envL [(3, .int .u64 (valB (([c8, c9, c10, c11, c12, c13, c14, c15] : Bs).take i) : Nat)), (6, .asl 0 8 8), (7, .int .i64 8), (8, .int .i64 i)], [.box 89 (cel [c0, c1, c2, c3, c4, c5, c6, c7, c8, c9, c10, c11, c12, c13, c14, c15])]⟩) (fun i => 8 - i) 0 (Nat.zero_le _) (weak_to ⟨rfl, rfl, rfl, rfl, trivial⟩ rfl) ?_
  intro i hi
  have hcase : i = 0 ∨ i = 1 ∨ i = 2 ∨ i = 3 ∨ i = 4 ∨ i = 5 ∨ i = 6 ∨ i = 7 ∨ i = 8 := by have hi : i ≤ 8 := hi; omega
  rcases hcase with rfl | rfl | rfl | rfl | rfl | rfl | rfl | rfl | rfl
  · have hs := val_step [c8, c9, c10, c11, c12, c13, c14, c15] 0 c8 rfl (by decide)
    (conv => whnf); (repeat' first | ((with_reducible refine Box.mk ?_); conv => whnf) | ((with_reducible refine And.intro (fun _ => ?_) (fun _ => ?_)) <;> conv => whnf) | ((with_reducible show AYld _ _ _ _ _); (refine AYld.of tok mixed ?_); conv => whnf) | ((with_reducible show forceH _ _); (refine (forceH_eq _ _).mpr ?_); conv => whnf) | ((with_reducible show ACall _ _ _ _ _); (refine ACall.of_pure (by assumption) (by rfl) ?_); conv => whnf) | ((with_reducible show Exists _); (refine ⟨_, ACall.of_pure (by assumption) (by rfl) ⟨rfl, rfl⟩, ?_⟩); conv => whnf) | ((with_reducible show _ ∧ _ ∧ _); (refine ⟨by omega, by omega, ?_⟩); conv => whnf) | fail)
    all_goals try (exfalso; omega)
    refine ⟨by decide, ?_⟩
    (conv => whnf); (repeat' first | ((with_reducible refine Box.mk ?_); conv => whnf) | ((with_reducible refine And.intro (fun _ => ?_) (fun _ => ?_)) <;> conv => whnf) | ((with_reducible show AYld _ _ _ _ _); (refine AYld.of tok mixed ?_); conv => whnf) | ((with_reducible show forceH _ _); (refine (forceH_eq _ _).mpr ?_); conv => whnf) | ((with_reducible show ACall _ _ _ _ _); (refine ACall.of_pure (by assumption) (by rfl) ?_); conv => whnf) | ((with_reducible show Exists _); (refine ⟨_, ACall.of_pure (by assumption) (by rfl) ⟨rfl, rfl⟩, ?_⟩); conv => whnf) | ((with_reducible show _ ∧ _ ∧ _); (refine ⟨by omega, by omega, ?_⟩); conv => whnf) | fail)
    exact ⟨1, by show 1 ≤ 8; decide, by show 8 - 1 < 8 - 0; decide, weak_to ⟨congrArg (AV.int .u64) hs, rfl, rfl, wrap_nat (m := 1) (by decide), trivial⟩ rfl⟩
  · have hs := val_step [c8, c9, c10, c11, c12, c13, c14, c15] 1 c9 rfl (by decide)
    (conv => whnf); (repeat' first | ((with_reducible refine Box.mk ?_); conv => whnf) | ((with_reducible refine And.intro (fun _ => ?_) (fun _ => ?_)) <;> conv => whnf) | ((with_reducible show AYld _ _ _ _ _); (refine AYld.of tok mixed ?_); conv => whnf) | ((with_reducible show forceH _ _); (refine (forceH_eq _ _).mpr ?_); conv => whnf) | ((with_reducible show ACall _ _ _ _ _); (refine ACall.of_pure (by assumption) (by rfl) ?_); conv => whnf) | ((with_reducible show Exists _); (refine ⟨_, ACall.of_pure (by assumption) (by rfl) ⟨rfl, rfl⟩, ?_⟩); conv => whnf) | ((with_reducible show _ ∧ _ ∧ _); (refine ⟨by omega, by omega, ?_⟩); conv => whnf) | fail)
    all_goals try (exfalso; omega)
    refine ⟨by decide, ?_⟩
    (conv => whnf); (repeat' first | ((with_reducible refine Box.mk ?_); conv => whnf) | ((with_reducible refine And.intro (fun _ => ?_) (fun _ => ?_)) <;> conv => whnf) | ((with_reducible show AYld _ _ _ _ _); (refine AYld.of tok mixed ?_); conv => whnf) | ((with_reducible show forceH _ _); (refine (forceH_eq _ _).mpr ?_); conv => whnf) | ((with_reducible show ACall _ _ _ _ _); (refine ACall.of_pure (by assumption) (by rfl) ?_); conv => whnf) | ((with_reducible show Exists _); (refine ⟨_, ACall.of_pure (by assumption) (by rfl) ⟨rfl, rfl⟩, ?_⟩); conv => whnf) | ((with_reducible show _ ∧ _ ∧ _); (refine ⟨by omega, by omega, ?_⟩); conv => whnf) | fail)
    exact ⟨2, by show 2 ≤ 8; decide, by show 8 - 2 < 8 - 1; decide, weak_to ⟨congrArg (AV.int .u64) hs, rfl, rfl, wrap_nat (m := 1) (by decide), trivial⟩ rfl⟩
  · have hs := val_step [c8, c9, c10, c11, c12, c13, c14, c15] 2 c10 rfl (by decide)
    (conv => whnf); (repeat' first | ((with_reducible refine Box.mk ?_); conv => whnf) | ((with_reducible refine And.intro (fun _ => ?_) (fun _ => ?_)) <;> conv => whnf) | ((with_reducible show AYld _ _ _ _ _); (refine AYld.of tok mixed ?_); conv => whnf) | ((with_reducible show forceH _ _); (refine (forceH_eq _ _).mpr ?_); conv => whnf) | ((with_reducible show ACall _ _ _ _ _); (refine ACall.of_pure (by assumption) (by rfl) ?_); conv => whnf) | ((with_reducible show Exists _); (refine ⟨_, ACall.of_pure (by assumption) (by rfl) ⟨rfl, rfl⟩, ?_⟩); conv => whnf) | ((with_reducible show _ ∧ _ ∧ _); (refine ⟨by omega, by omega, ?_⟩); conv => whnf) | fail)
    all_goals try (exfalso; omega)
    refine ⟨by decide, ?_⟩
    (conv => whnf); (repeat' first | ((with_reducible refine Box.mk ?_); conv => whnf) | ((with_reducible refine And.intro (fun _ => ?_) (fun _ => ?_)) <;> conv => whnf) | ((with_reducible show AYld _ _ _ _ _); (refine AYld.of tok mixed ?_); conv => whnf) | ((with_reducible show forceH _ _); (refine (forceH_eq _ _).mpr ?_); conv => whnf) | ((with_reducible show ACall _ _ _ _ _); (refine ACall.of_pure (by assumption) (by rfl) ?_); conv => whnf) | ((with_reducible show Exists _); (refine ⟨_, ACall.of_pure (by assumption) (by rfl) ⟨rfl, rfl⟩, ?_⟩); conv => whnf) | ((with_reducible show _ ∧ _ ∧ _); (refine ⟨by omega, by omega, ?_⟩); conv => whnf) | fail)
    exact ⟨3, by show 3 ≤ 8; decide, by show 8 - 3 < 8 - 2; decide, weak_to ⟨congrArg (AV.int .u64) hs, rfl, rfl, wrap_nat (m := 1) (by decide), trivial⟩ rfl⟩
  · have hs := val_step [c8, c9, c10, c11, c12, c13, c14, c15] 3 c11 rfl (by decide)
    (conv => whnf); (repeat' first | ((with_reducible refine Box.mk ?_); conv => whnf) | ((with_reducible refine And.intro (fun _ => ?_) (fun _ => ?_)) <;> conv => whnf) | ((with_reducible show AYld _ _ _ _ _); (refine AYld.of tok mixed ?_); conv => whnf) | ((with_reducible show forceH _ _); (refine (forceH_eq _ _).mpr ?_); conv => whnf) | ((with_reducible show ACall _ _ _ _ _); (refine ACall.of_pure (by assumption) (by rfl) ?_); conv => whnf) | ((with_reducible show Exists _); (refine ⟨_, ACall.of_pure (by assumption) (by rfl) ⟨rfl, rfl⟩, ?_⟩); conv => whnf) | ((with_reducible show _ ∧ _ ∧ _); (refine ⟨by omega, by omega, ?_⟩); conv => whnf) | fail)
    all_goals try (exfalso; omega)
    refine ⟨by decide, ?_⟩
    (conv => whnf); (repeat' first | ((with_reducible refine Box.mk ?_); conv => whnf) | ((with_reducible refine And.intro (fun _ => ?_) (fun _ => ?_)) <;> conv => whnf) | ((with_reducible show AYld _ _ _ _ _); (refine AYld.of tok mixed ?_); conv => whnf) | ((with_reducible show forceH _ _); (refine (forceH_eq _ _).mpr ?_); conv => whnf) | ((with_reducible show ACall _ _ _ _ _); (refine ACall.of_pure (by assumption) (by rfl) ?_); conv => whnf) | ((with_reducible show Exists _); (refine ⟨_, ACall.of_pure (by assumption) (by rfl) ⟨rfl, rfl⟩, ?_⟩); conv => whnf) | ((with_reducible show _ ∧ _ ∧ _); (refine ⟨by omega, by omega, ?_⟩); conv => whnf) | fail)
    exact ⟨4, by show 4 ≤ 8; decide, by show 8 - 4 < 8 - 3; decide, weak_to ⟨congrArg (AV.int .u64) hs, rfl, rfl, wrap_nat (m := 1) (by decide), trivial⟩ rfl⟩
  · have hs := val_step [c8, c9, c10, c11, c12, c13, c14, c15] 4 c12 rfl (by decide)
    (conv => whnf); (repeat' first | ((with_reducible refine Box.mk ?_); conv => whnf) | ((with_reducible refine And.intro (fun _ => ?_) (fun _ => ?_)) <;> conv => whnf) | ((with_reducible show AYld _ _ _ _ _); (refine AYld.of tok mixed ?_); conv => whnf) | ((with_reducible show forceH _ _); (refine (forceH_eq _ _).mpr ?_); conv => whnf) | ((with_reducible show ACall _ _ _ _ _); (refine ACall.of_pure (by assumption) (by rfl) ?_); conv => whnf) | ((with_reducible show Exists _); (refine ⟨_, ACall.of_pure (by assumption) (by rfl) ⟨rfl, rfl⟩, ?_⟩); conv => whnf) | ((with_reducible show _ ∧ _ ∧ _); (refine ⟨by omega, by omega, ?_⟩); conv => whnf) | fail)
    all_goals try (exfalso; omega)
    refine ⟨by decide, ?_⟩
    (conv => whnf); (repeat' first | ((with_reducible refine Box.mk ?_); conv => whnf) | ((with_reducible refine And.intro (fun _ => ?_) (fun _ => ?_)) <;> conv => whnf) | ((with_reducible show AYld _ _ _ _ _); (refine AYld.of tok mixed ?_); conv => whnf) | ((with_reducible show forceH _ _); (refine (forceH_eq _ _).mpr ?_); conv => whnf) | ((with_reducible show ACall _ _ _ _ _); (refine ACall.of_pure (by assumption) (by rfl) ?_); conv => whnf) | ((with_reducible show Exists _); (refine ⟨_, ACall.of_pure (by assumption) (by rfl) ⟨rfl, rfl⟩, ?_⟩); conv => whnf) | ((with_reducible show _ ∧ _ ∧ _); (refine ⟨by omega, by omega, ?_⟩); conv => whnf) | fail)
    exact ⟨5, by show 5 ≤ 8; decide, by show 8 - 5 < 8 - 4; decide, weak_to ⟨congrArg (AV.int .u64) hs, rfl, rfl, wrap_nat (m := 1) (by decide), trivial⟩ rfl⟩
  · have hs := val_step [c8, c9, c10, c11, c12, c13, c14, c15] 5 c13 rfl (by decide)
    (conv => whnf); (repeat' first | ((with_reducible refine Box.mk ?_); conv => whnf) | ((with_reducible refine And.intro (fun _ => ?_) (fun _ => ?_)) <;> conv => whnf) | ((with_reducible show AYld _ _ _ _ _); (refine AYld.of tok mixed ?_); conv => whnf) | ((with_reducible show forceH _ _); (refine (forceH_eq _ _).mpr ?_); conv => whnf) | ((with_reducible show ACall _ _ _ _ _); (refine ACall.of_pure (by assumption) (by rfl) ?_); conv => whnf) | ((with_reducible show Exists _); (refine ⟨_, ACall.of_pure (by assumption) (by rfl) ⟨rfl, rfl⟩, ?_⟩); conv => whnf) | ((with_reducible show _ ∧ _ ∧ _); (refine ⟨by omega, by omega, ?_⟩); conv => whnf) | fail)
    all_goals try (exfalso; omega)
    refine ⟨by decide, ?_⟩
    (conv => whnf); (repeat' first | ((with_reducible refine Box.mk ?_); conv => whnf) | ((with_reducible refine And.intro (fun _ => ?_) (fun _ => ?_)) <;> conv => whnf) | ((with_reducible show AYld _ _ _ _ _); (refine AYld.of tok mixed ?_); conv => whnf) | ((with_reducible show forceH _ _); (refine (forceH_eq _ _).mpr ?_); conv => whnf) | ((with_reducible show ACall _ _ _ _ _); (refine ACall.of_pure (by assumption) (by rfl) ?_); conv => whnf) | ((with_reducible show Exists _); (refine ⟨_, ACall.of_pure (by assumption) (by rfl) ⟨rfl, rfl⟩, ?_⟩); conv => whnf) | ((with_reducible show _ ∧ _ ∧ _); (refine ⟨by omega, by omega, ?_⟩); conv => whnf) | fail)
    exact ⟨6, by show 6 ≤ 8; decide, by show 8 - 6 < 8 - 5; decide, weak_to ⟨congrArg (AV.int .u64) hs, rfl, rfl, wrap_nat (m := 1) (by decide), trivial⟩ rfl⟩
  · have hs := val_step [c8, c9, c10, c11, c12, c13, c14, c15] 6 c14 rfl (by decide)
    (conv => whnf); (repeat' first | ((with_reducible refine Box.mk ?_); conv => whnf) | ((with_reducible refine And.intro (fun _ => ?_) (fun _ => ?_)) <;> conv => whnf) | ((with_reducible show AYld _ _ _ _ _); (refine AYld.of tok mixed ?_); conv => whnf) | ((with_reducible show forceH _ _); (refine (forceH_eq _ _).mpr ?_); conv => whnf) | ((with_reducible show ACall _ _ _ _ _); (refine ACall.of_pure (by assumption) (by rfl) ?_); conv => whnf) | ((with_reducible show Exists _); (refine ⟨_, ACall.of_pure (by assumption) (by rfl) ⟨rfl, rfl⟩, ?_⟩); conv => whnf) | ((with_reducible show _ ∧ _ ∧ _); (refine ⟨by omega, by omega, ?_⟩); conv => whnf) | fail)
    all_goals try (exfalso; omega)
    refine ⟨by decide, ?_⟩
    (conv => whnf); (repeat' first | ((with_reducible refine Box.mk ?_); conv => whnf) | ((with_reducible refine And.intro (fun _ => ?_) (fun _ => ?_)) <;> conv => whnf) | ((with_reducible show AYld _ _ _ _ _); (refine AYld.of tok mixed ?_); conv => whnf) | ((with_reducible show forceH _ _); (refine (forceH_eq _ _).mpr ?_); conv => whnf) | ((with_reducible show ACall _ _ _ _ _); (refine ACall.of_pure (by assumption) (by rfl) ?_); conv => whnf) | ((with_reducible show Exists _); (refine ⟨_, ACall.of_pure (by assumption) (by rfl) ⟨rfl, rfl⟩, ?_⟩); conv => whnf) | ((with_reducible show _ ∧ _ ∧ _); (refine ⟨by omega, by omega, ?_⟩); conv => whnf) | fail)
    exact ⟨7, by show 7 ≤ 8; decide, by show 8 - 7 < 8 - 6; decide, weak_to ⟨congrArg (AV.int .u64) hs, rfl, rfl, wrap_nat (m := 1) (by decide), trivial⟩ rfl⟩
  · have hs := val_step [c8, c9, c10, c11, c12, c13, c14, c15] 7 c15 rfl (by decide)
    (conv => whnf); (repeat' first | ((with_reducible refine Box.mk ?_); conv => whnf) | ((with_reducible refine And.intro (fun _ => ?_) (fun _ => ?_)) <;> conv => whnf) | ((with_reducible show AYld _ _ _ _ _); (refine AYld.of tok mixed ?_); conv => whnf) | ((with_reducible show forceH _ _); (refine (forceH_eq _ _).mpr ?_); conv => whnf) | ((with_reducible show ACall _ _ _ _ _); (refine ACall.of_pure (by assumption) (by rfl) ?_); conv => whnf) | ((with_reducible show Exists _); (refine ⟨_, ACall.of_pure (by assumption) (by rfl) ⟨rfl, rfl⟩, ?_⟩); conv => whnf) | ((with_reducible show _ ∧ _ ∧ _); (refine ⟨by omega, by omega, ?_⟩); conv => whnf) | fail)
    all_goals try (exfalso; omega)
    refine ⟨by decide, ?_⟩
    (conv => whnf); (repeat' first | ((with_reducible refine Box.mk ?_); conv => whnf) | ((with_reducible refine And.intro (fun _ => ?_) (fun _ => ?_)) <;> conv => whnf) | ((with_reducible show AYld _ _ _ _ _); (refine AYld.of tok mixed ?_); conv => whnf) | ((with_reducible show forceH _ _); (refine (forceH_eq _ _).mpr ?_); conv => whnf) | ((with_reducible show ACall _ _ _ _ _); (refine ACall.of_pure (by assumption) (by rfl) ?_); conv => whnf) | ((with_reducible show Exists _); (refine ⟨_, ACall.of_pure (by assumption) (by rfl) ⟨rfl, rfl⟩, ?_⟩); conv => whnf) | ((with_reducible show _ ∧ _ ∧ _); (refine ⟨by omega, by omega, ?_⟩); conv => whnf) | fail)
    exact ⟨8, by show 8 ≤ 8; decide, by show 8 - 8 < 8 - 7; decide, weak_to ⟨congrArg (AV.int .u64) hs, rfl, rfl, wrap_nat (m := 1) (by decide), trivial⟩ rfl⟩
  · (conv => whnf); (repeat' first | ((with_reducible refine Box.mk ?_); conv => whnf) | ((with_reducible refine And.intro (fun _ => ?_) (fun _ => ?_)) <;> conv => whnf) | ((with_reducible show AYld _ _ _ _ _); (refine AYld.of tok mixed ?_); conv => whnf) | ((with_reducible show forceH _ _); (refine (forceH_eq _ _).mpr ?_); conv => whnf) | ((with_reducible show ACall _ _ _ _ _); (refine ACall.of_pure (by assumption) (by rfl) ?_); conv => whnf) | ((with_reducible show Exists _); (refine ⟨_, ACall.of_pure (by assumption) (by rfl) ⟨rfl, rfl⟩, ?_⟩); conv => whnf) | ((with_reducible show _ ∧ _ ∧ _); (refine ⟨by omega, by omega, ?_⟩); conv => whnf) | fail)
    all_goals try (exfalso; omega)
    exact weak_to ⟨rfl, trivial⟩ rfl
end Go.Proofs.YtnajpmepcffnaaaDoor
end

section
/- field: addresses and paths of values. -/
namespace Go.Proofs.YtnajpmepcffnaaaDoor
open Go.Ve

def fourK (b : Bs) : Ky := ⟨1, 32, valB b * 2 ^ 96, []⟩
def sixK (b : Bs) : Ky := ⟨2, 128, valB b, []⟩
def addrK (b : Bs) : Ky := if b.length = 4 then fourK b else sixK b
theorem fAddr4 (b : Bs) (hb : b.length = 4) : PCall P 46 [.sl (bcl b)] (kv (fourK b)) := by
  have hbl := bcl_len b
  have q1 := fNumber_ok b (by omega)
  have hv : valB b < 4294967296 := by have := valB_lt b; rw [hb] at this; exact this
  have q2 := four_ok (valB b) hv
  have hw := wrap_u32 (n := (valB b : Nat)) (by omega) (by omega)
  unfold fourK
  generalize valB b = n at *
  refine PCall.of_awp tok mixed fn46 (Nat.le_of_ble_eq_true rfl) ?_
  (conv => whnf); (repeat' first | ((with_reducible refine Box.mk ?_); conv => whnf) | ((with_reducible refine And.intro (fun _ => ?_) (fun _ => ?_)) <;> conv => whnf) | ((with_reducible show AYld _ _ _ _ _); (refine AYld.of tok mixed ?_); conv => whnf) | ((with_reducible show forceH _ _); (refine (forceH_eq _ _).mpr ?_); conv => whnf) | ((with_reducible show ACall _ _ _ _ _); (refine ACall.of_pure (by assumption) (by rfl) ?_); conv => whnf) | ((with_reducible show Exists _); (refine ⟨_, ACall.of_pure (by assumption) (by rfl) ⟨rfl, rfl⟩, ?_⟩); conv => whnf) | ((with_reducible show _ ∧ _ ∧ _); (refine ⟨by omega, by omega, ?_⟩); conv => whnf) | fail)
  · rw [hw]
    refine ACall.of_pure q2 rfl ?_
    (conv => whnf); (repeat' first | ((with_reducible refine Box.mk ?_); conv => whnf) | ((with_reducible refine And.intro (fun _ => ?_) (fun _ => ?_)) <;> conv => whnf) | ((with_reducible show AYld _ _ _ _ _); (refine AYld.of tok mixed ?_); conv => whnf) | ((with_reducible show forceH _ _); (refine (forceH_eq _ _).mpr ?_); conv => whnf) | ((with_reducible show ACall _ _ _ _ _); (refine ACall.of_pure (by assumption) (by rfl) ?_); conv => whnf) | ((with_reducible show Exists _); (refine ⟨_, ACall.of_pure (by assumption) (by rfl) ⟨rfl, rfl⟩, ?_⟩); conv => whnf) | ((with_reducible show _ ∧ _ ∧ _); (refine ⟨by omega, by omega, ?_⟩); conv => whnf) | fail)
    rfl
  · exfalso; omega
theorem halves {hi lo : Nat} (h1 : hi < H64) (h2 : lo < H64) : hi * H64 + lo < 2 ^ 128 ∧ (hi * H64 + lo) / H64 = hi ∧ (hi * H64 + lo) % H64 = lo := by
  have hpos : 0 < H64 := Nat.lt_of_le_of_lt (Nat.zero_le _) h1
  refine ⟨?_, ?_, ?_⟩
  · rw [← hh]
    calc hi * H64 + lo < hi * H64 + H64 := Nat.add_lt_add_left h2 _
      _ = (hi + 1) * H64 := by rw [Nat.add_mul, Nat.one_mul]
      _ ≤ H64 * H64 := Nat.mul_le_mul_right _ h1
  · rw [Nat.add_comm, Nat.add_mul_div_right _ _ hpos, Nat.div_eq_of_lt h2, Nat.zero_add]
  · rw [Nat.add_comm, Nat.add_mul_mod_self_right, Nat.mod_eq_of_lt h2]
theorem val16 (a b : Bs) (ha : a.length = 8) (hb : b.length = 8) : valB (a ++ b) < 2 ^ 128 ∧ valB (a ++ b) / H64 = valB a ∧ valB (a ++ b) % H64 = valB b := by
  have h := valB_app a b
  rw [hb, show (256 : Nat) ^ 8 = H64 by rw [h64, show (256 : Nat) = 2 ^ 8 from rfl, ← Nat.pow_mul]] at h
  rw [h]
  exact halves (valB_lt8 (by omega)) (valB_lt8 (by omega))
theorem list16 {b : Bs} (h : b.length = 16) : ∃ c0 c1 c2 c3 c4 c5 c6 c7 c8 c9 c10 c11 c12 c13 c14 c15, b = [c0, c1, c2, c3, c4, c5, c6, c7, c8, c9, c10, c11, c12, c13, c14, c15] := by
  match b, h with
  | [c0, c1, c2, c3, c4, c5, c6, c7, c8, c9, c10, c11, c12, c13, c14, c15], _ => exact ⟨c0, c1, c2, c3, c4, c5, c6, c7, c8, c9, c10, c11, c12, c13, c14, c15, rfl⟩
set_option maxHeartbeats 4000000 in
theorem fAddr6 (b : Bs) (hb : b.length = 16) : PCall P 46 [.sl (bcl b)] (kv (sixK b)) := by
  obtain ⟨c0, c1, c2, c3, c4, c5, c6, c7, c8, c9, c10, c11, c12, c13, c14, c15, rfl⟩ := list16 hb
  have q1 := fNumberA c0 c1 c2 c3 c4 c5 c6 c7 c8 c9 c10 c11 c12 c13 c14 c15
  have q2 := fNumberB c0 c1 c2 c3 c4 c5 c6 c7 c8 c9 c10 c11 c12 c13 c14 c15
  have hv : valB [c0, c1, c2, c3, c4, c5, c6, c7, c8, c9, c10, c11, c12, c13, c14, c15] < 2 ^ 128 ∧ valB [c0, c1, c2, c3, c4, c5, c6, c7, c8, c9, c10, c11, c12, c13, c14, c15] / H64 = valB [c0, c1, c2, c3, c4, c5, c6, c7] ∧ valB [c0, c1, c2, c3, c4, c5, c6, c7, c8, c9, c10, c11, c12, c13, c14, c15] % H64 = valB [c8, c9, c10, c11, c12, c13, c14, c15] := val16 [c0, c1, c2, c3, c4, c5, c6, c7] [c8, c9, c10, c11, c12, c13, c14, c15] rfl rfl
  obtain ⟨h1, h2, h3⟩ := hv
  unfold sixK
  generalize valB [c0, c1, c2, c3, c4, c5, c6, c7, c8, c9, c10, c11, c12, c13, c14, c15] = N at *
  generalize valB [c0, c1, c2, c3, c4, c5, c6, c7] = hi at *
  generalize valB [c8, c9, c10, c11, c12, c13, c14, c15] = lo at *
  have q3 := six_ok N h1
  unfold wv at q3
  rw [h2, h3] at q3
  refine PCall.of_awp tok mixed fn46 (Nat.le_of_ble_eq_true rfl) ?_
  (conv => whnf); (repeat' first | ((with_reducible refine Box.mk ?_); conv => whnf) | ((with_reducible refine And.intro (fun _ => ?_) (fun _ => ?_)) <;> conv => whnf) | ((with_reducible show AYld _ _ _ _ _); (refine AYld.of tok mixed ?_); conv => whnf) | ((with_reducible show forceH _ _); (refine (forceH_eq _ _).mpr ?_); conv => whnf) | ((with_reducible show ACall _ _ _ _ _); (refine ACall.of_pure (by assumption) (by rfl) ?_); conv => whnf) | ((with_reducible show Exists _); (refine ⟨_, ACall.of_pure (by assumption) (by rfl) ⟨rfl, rfl⟩, ?_⟩); conv => whnf) | ((with_reducible show _ ∧ _ ∧ _); (refine ⟨by omega, by omega, ?_⟩); conv => whnf) | fail)
  all_goals try (rename_i hbad; exact absurd hbad (show ¬ ((16 : Int) = 4) by decide))
  refine ⟨bcl_cells _, ?_⟩
  (conv => whnf); (repeat' first | ((with_reducible refine Box.mk ?_); conv => whnf) | ((with_reducible refine And.intro (fun _ => ?_) (fun _ => ?_)) <;> conv => whnf) | ((with_reducible show AYld _ _ _ _ _); (refine AYld.of tok mixed ?_); conv => whnf) | ((with_reducible show forceH _ _); (refine (forceH_eq _ _).mpr ?_); conv => whnf) | ((with_reducible show ACall _ _ _ _ _); (refine ACall.of_pure (by assumption) (by rfl) ?_); conv => whnf) | ((with_reducible show Exists _); (refine ⟨_, ACall.of_pure (by assumption) (by rfl) ⟨rfl, rfl⟩, ?_⟩); conv => whnf) | ((with_reducible show _ ∧ _ ∧ _); (refine ⟨by omega, by omega, ?_⟩); conv => whnf) | fail)
  refine ⟨[], by kernel_rfl, ?_⟩
  (conv => whnf); (repeat' first | ((with_reducible refine Box.mk ?_); conv => whnf) | ((with_reducible refine And.intro (fun _ => ?_) (fun _ => ?_)) <;> conv => whnf) | ((with_reducible show AYld _ _ _ _ _); (refine AYld.of tok mixed ?_); conv => whnf) | ((with_reducible show forceH _ _); (refine (forceH_eq _ _).mpr ?_); conv => whnf) | ((with_reducible show ACall _ _ _ _ _); (refine ACall.of_pure (by assumption) (by rfl) ?_); conv => whnf) | ((with_reducible show Exists _); (refine ⟨_, ACall.of_pure (by assumption) (by rfl) ⟨rfl, rfl⟩, ?_⟩); conv => whnf) | ((with_reducible show _ ∧ _ ∧ _); (refine ⟨by omega, by omega, ?_⟩); conv => whnf) | fail)
  refine aDr [1] q1 rfl rfl rfl rfl ?_
  (conv => whnf); (repeat' first | ((with_reducible refine Box.mk ?_); conv => whnf) | ((with_reducible refine And.intro (fun _ => ?_) (fun _ => ?_)) <;> conv => whnf) | ((with_reducible show AYld _ _ _ _ _); (refine AYld.of tok mixed ?_); conv => whnf) | ((with_reducible show forceH _ _); (refine (forceH_eq _ _).mpr ?_); conv => whnf) | ((with_reducible show ACall _ _ _ _ _); (refine ACall.of_pure (by assumption) (by rfl) ?_); conv => whnf) | ((with_reducible show Exists _); (refine ⟨_, ACall.of_pure (by assumption) (by rfl) ⟨rfl, rfl⟩, ?_⟩); conv => whnf) | ((with_reducible show _ ∧ _ ∧ _); (refine ⟨by omega, by omega, ?_⟩); conv => whnf) | fail)
  refine aDr [1] q2 rfl rfl rfl rfl ?_
  (conv => whnf); (repeat' first | ((with_reducible refine Box.mk ?_); conv => whnf) | ((with_reducible refine And.intro (fun _ => ?_) (fun _ => ?_)) <;> conv => whnf) | ((with_reducible show AYld _ _ _ _ _); (refine AYld.of tok mixed ?_); conv => whnf) | ((with_reducible show forceH _ _); (refine (forceH_eq _ _).mpr ?_); conv => whnf) | ((with_reducible show ACall _ _ _ _ _); (refine ACall.of_pure (by assumption) (by rfl) ?_); conv => whnf) | ((with_reducible show Exists _); (refine ⟨_, ACall.of_pure (by assumption) (by rfl) ⟨rfl, rfl⟩, ?_⟩); conv => whnf) | ((with_reducible show _ ∧ _ ∧ _); (refine ⟨by omega, by omega, ?_⟩); conv => whnf) | fail)
  rfl
/-- The text of a path's value. -/
def pathT (s : Sc) (b : Bs) : Bs := if s.len = 65535 then b else trimZ b
theorem pathT_len (s : Sc) (b : Bs) : (pathT s b).length ≤ b.length := by
  unfold pathT trimZ
  split
  · exact Nat.le_refl _
  · rw [List.length_take]; omega
theorem fPath_ok (s : Sc) (b : Bs) (hb : b.length < 4294967281) : PCall P 47 [sv s, .sl (bcl b)] (.tup [kv (bif okPath (pathT s b) then ofPathK (pathT s b) else zeroK), .int .i64 (bif okPath (pathT s b) then 0 else 3)]) := by
  have q1 := trimRight_ok b (by omega)
  have q2 := path_ok (pathT s b) (Nat.lt_of_le_of_lt (pathT_len s b) hb)
  have hT : ∀ h : s.len = 65535, pathT s b = b := fun h => by unfold pathT; rw [if_pos h]
  have hF : ∀ h : ¬ s.len = 65535, pathT s b = trimZ b := fun h => by unfold pathT; rw [if_neg h]
  generalize hk : (bif okPath (pathT s b) then ofPathK (pathT s b) else zeroK) = k at *
  generalize (bif okPath (pathT s b) then (0 : Int) else 3) = e at *
  by_cases h6 : s.len = 65535
  · rw [hT h6] at q2
    refine PCall.of_awp tok mixed fn47 (Nat.le_of_ble_eq_true rfl) ?_
    (conv => whnf); (repeat' first | ((with_reducible refine Box.mk ?_); conv => whnf) | ((with_reducible refine And.intro (fun _ => ?_) (fun _ => ?_)) <;> conv => whnf) | ((with_reducible show AYld _ _ _ _ _); (refine AYld.of tok mixed ?_); conv => whnf) | ((with_reducible show forceH _ _); (refine (forceH_eq _ _).mpr ?_); conv => whnf) | ((with_reducible show ACall _ _ _ _ _); (refine ACall.of_pure (by assumption) (by rfl) ?_); conv => whnf) | ((with_reducible show Exists _); (refine ⟨_, ACall.of_pure (by assumption) (by rfl) ⟨rfl, rfl⟩, ?_⟩); conv => whnf) | ((with_reducible show _ ∧ _ ∧ _); (refine ⟨by omega, by omega, ?_⟩); conv => whnf) | fail)
    refine ⟨_, rfl, ?_⟩
    (conv => whnf); (repeat' first | ((with_reducible refine Box.mk ?_); conv => whnf) | ((with_reducible refine And.intro (fun _ => ?_) (fun _ => ?_)) <;> conv => whnf) | ((with_reducible show AYld _ _ _ _ _); (refine AYld.of tok mixed ?_); conv => whnf) | ((with_reducible show forceH _ _); (refine (forceH_eq _ _).mpr ?_); conv => whnf) | ((with_reducible show ACall _ _ _ _ _); (refine ACall.of_pure (by assumption) (by rfl) ?_); conv => whnf) | ((with_reducible show Exists _); (refine ⟨_, ACall.of_pure (by assumption) (by rfl) ⟨rfl, rfl⟩, ?_⟩); conv => whnf) | ((with_reducible show _ ∧ _ ∧ _); (refine ⟨by omega, by omega, ?_⟩); conv => whnf) | fail)
    all_goals try contradiction
    rfl
  · rw [hF h6] at q2
    refine PCall.of_awp tok mixed fn47 (Nat.le_of_ble_eq_true rfl) ?_
    (conv => whnf); (repeat' first | ((with_reducible refine Box.mk ?_); conv => whnf) | ((with_reducible refine And.intro (fun _ => ?_) (fun _ => ?_)) <;> conv => whnf) | ((with_reducible show AYld _ _ _ _ _); (refine AYld.of tok mixed ?_); conv => whnf) | ((with_reducible show forceH _ _); (refine (forceH_eq _ _).mpr ?_); conv => whnf) | ((with_reducible show ACall _ _ _ _ _); (refine ACall.of_pure (by assumption) (by rfl) ?_); conv => whnf) | ((with_reducible show Exists _); (refine ⟨_, ACall.of_pure (by assumption) (by rfl) ⟨rfl, rfl⟩, ?_⟩); conv => whnf) | ((with_reducible show _ ∧ _ ∧ _); (refine ⟨by omega, by omega, ?_⟩); conv => whnf) | fail)
    refine ⟨_, rfl, ?_⟩
    (conv => whnf); (repeat' first | ((with_reducible refine Box.mk ?_); conv => whnf) | ((with_reducible refine And.intro (fun _ => ?_) (fun _ => ?_)) <;> conv => whnf) | ((with_reducible show AYld _ _ _ _ _); (refine AYld.of tok mixed ?_); conv => whnf) | ((with_reducible show forceH _ _); (refine (forceH_eq _ _).mpr ?_); conv => whnf) | ((with_reducible show ACall _ _ _ _ _); (refine ACall.of_pure (by assumption) (by rfl) ?_); conv => whnf) | ((with_reducible show Exists _); (refine ⟨_, ACall.of_pure (by assumption) (by rfl) ⟨rfl, rfl⟩, ?_⟩); conv => whnf) | ((with_reducible show _ ∧ _ ∧ _); (refine ⟨by omega, by omega, ?_⟩); conv => whnf) | fail)
    all_goals try contradiction
    rfl
end Go.Proofs.YtnajpmepcffnaaaDoor
end

section
/- field: what a value says of a flow. -/
namespace Go.Proofs.YtnajpmepcffnaaaDoor
open Go.Ve

/-- A flow: addresses, paths, packets, bytes. -/
structure Rc where
  a0 : Ky
  a1 : Ky
  p0 : Ky
  p1 : Ky
  pk : Nat
  by_ : Nat
  deriving DecidableEq
def rcc (r : Rc) : List AV :=
  [.int .i64 r.a0.kind, .int .i64 r.a0.len, .int .u64 ((r.a0.n / H64 : Nat) : Int), .int .u64 ((r.a0.n % H64 : Nat) : Int), .str r.a0.path,
   .int .i64 r.a1.kind, .int .i64 r.a1.len, .int .u64 ((r.a1.n / H64 : Nat) : Int), .int .u64 ((r.a1.n % H64 : Nat) : Int), .str r.a1.path,
   .int .i64 r.p0.kind, .int .i64 r.p0.len, .int .u64 ((r.p0.n / H64 : Nat) : Int), .int .u64 ((r.p0.n % H64 : Nat) : Int), .str r.p0.path,
   .int .i64 r.p1.kind, .int .i64 r.p1.len, .int .u64 ((r.p1.n / H64 : Nat) : Int), .int .u64 ((r.p1.n % H64 : Nat) : Int), .str r.p1.path,
   .int .u64 (r.pk : Int), .int .u64 (r.by_ : Int)]
def rcv (r : Rc) : AV := .agg (rcc r)
def zeroR : Rc := ⟨zeroK, zeroK, zeroK, zeroK, 0, 0⟩
/-- The fault of a value. -/
def setE (s : Sc) (b : Bs) : Int :=
  if saysS s = -1 ∨ (s.len ≠ 65535 ∧ (b.length : Int) ≠ s.len) then 14 else if (saysS s = 7 ∨ saysS s = 8) ∧ okPath (pathT s b) = false then 3 else 0
/-- A flow with what a value says. -/
def updR (s : Sc) (b : Bs) (r : Rc) : Rc :=
  if saysS s = 1 then { r with by_ := valB b } else if saysS s = 2 then { r with pk := valB b } else
  if saysS s = 3 ∨ saysS s = 5 then { r with a0 := addrK b } else if saysS s = 4 ∨ saysS s = 6 then { r with a1 := addrK b } else
  if saysS s = 7 then { r with p0 := ofPathK (pathT s b) } else if saysS s = 8 then { r with p1 := ofPathK (pathT s b) } else r
def setR (s : Sc) (b : Bs) (r : Rc) : Rc := if setE s b = 0 then updR s b r else zeroR
theorem says_cases (s : Sc) : saysS s = -1 ∨ saysS s = 0 ∨ (RightS s ∧ ((saysS s = 1 ∧ 1 ≤ s.len ∧ s.len ≤ 8) ∨ (saysS s = 2 ∧ 1 ≤ s.len ∧ s.len ≤ 8) ∨ (saysS s = 3 ∧ s.len = 4) ∨ (saysS s = 4 ∧ s.len = 4) ∨ (saysS s = 5 ∧ s.len = 16) ∨ (saysS s = 6 ∧ s.len = 16) ∨ saysS s = 7 ∨ saysS s = 8)) := by
  unfold saysS inL usualS
  by_cases hR : RightS s
  · rw [if_neg (fun h => h hR)]
    have hR2 := hR
    unfold RightS at hR2
    by_cases h0 : s.ent = 0
    · rw [if_pos h0]
      split
      · dsimp only; split <;> simp_all <;> omega
      · split
        · dsimp only; split <;> simp_all <;> omega
        · split
          · dsimp only; split <;> simp_all <;> omega
          · split
            · dsimp only; split <;> simp_all <;> omega
            · split
              · dsimp only; split <;> simp_all <;> omega
              · split
                · dsimp only; split <;> simp_all <;> omega
                · dsimp only; split <;> simp_all
    · rw [if_neg h0]
      split
      · exact .inr (.inr ⟨hR, by simp⟩)
      · split
        · exact .inr (.inr ⟨hR, by simp⟩)
        · exact .inr (.inl rfl)
  · rw [if_pos hR]; exact .inl rfl
set_option maxHeartbeats 8000000 in
theorem fSet_ok (s : Sc) (b : Bs) (r : Rc) (hb : b.length < 4294967281) : PCall P 27 [rcv r, sv s, .sl (bcl b)] (.tup [rcv (setR s b r), .int .i64 (setE s b)]) := by
  have q1 := fSays_ok s
  have hbl := bcl_len b
  rcases says_cases s with h | h | ⟨hR, h | h | h | h | h | h | h | h⟩
  · have e1 : setE s b = 14 := by unfold setE; rw [if_pos (.inl h)]
    have e2 : setR s b r = zeroR := by unfold setR; rw [e1, if_neg (by decide)]
    rw [e1, e2]
    rw [h] at q1
    refine PCall.of_awp tok mixed fn27 (Nat.le_of_ble_eq_true rfl) ?_
    (conv => whnf); (repeat' first | ((with_reducible refine Box.mk ?_); conv => whnf) | ((with_reducible refine And.intro (fun _ => ?_) (fun _ => ?_)) <;> conv => whnf) | ((with_reducible show AYld _ _ _ _ _); (refine AYld.of tok mixed ?_); conv => whnf) | ((with_reducible show forceH _ _); (refine (forceH_eq _ _).mpr ?_); conv => whnf) | ((with_reducible show ACall _ _ _ _ _); (refine ACall.of_pure (by assumption) (by rfl) ?_); conv => whnf) | ((with_reducible show Exists _); (refine ⟨_, ACall.of_pure (by assumption) (by rfl) ⟨rfl, rfl⟩, ?_⟩); conv => whnf) | ((with_reducible show _ ∧ _ ∧ _); (refine ⟨by omega, by omega, ?_⟩); conv => whnf) | fail)
    all_goals try contradiction
    rfl
  · rw [h] at q1
    by_cases hm : s.len ≠ 65535 ∧ (b.length : Int) ≠ s.len
    · have hm1 := hm.1
      have hm2 := hm.2
      have e1 : setE s b = 14 := by unfold setE; rw [if_pos (.inr hm)]
      have e2 : setR s b r = zeroR := by unfold setR; rw [e1, if_neg (by decide)]
      rw [e1, e2]
      refine PCall.of_awp tok mixed fn27 (Nat.le_of_ble_eq_true rfl) ?_
      (conv => whnf); (repeat' first | ((with_reducible refine Box.mk ?_); conv => whnf) | ((with_reducible refine And.intro (fun _ => ?_) (fun _ => ?_)) <;> conv => whnf) | ((with_reducible show AYld _ _ _ _ _); (refine AYld.of tok mixed ?_); conv => whnf) | ((with_reducible show forceH _ _); (refine (forceH_eq _ _).mpr ?_); conv => whnf) | ((with_reducible show ACall _ _ _ _ _); (refine ACall.of_pure (by assumption) (by rfl) ?_); conv => whnf) | ((with_reducible show Exists _); (refine ⟨_, ACall.of_pure (by assumption) (by rfl) ⟨rfl, rfl⟩, ?_⟩); conv => whnf) | ((with_reducible show _ ∧ _ ∧ _); (refine ⟨by omega, by omega, ?_⟩); conv => whnf) | fail)
      all_goals try (exfalso; omega)
      all_goals rfl
    · have hn : ¬ (saysS s = -1 ∨ (s.len ≠ 65535 ∧ (b.length : Int) ≠ s.len)) := fun hc => by
        rcases hc with hc | hc
        · rw [h] at hc; cases hc
        · exact hm hc
      have e1 : setE s b = 0 := by unfold setE; rw [if_neg hn, if_neg (by rw [h]; rintro ⟨hc | hc, _⟩ <;> cases hc)]
      have e2 : setR s b r = r := by unfold setR updR; rw [e1, if_pos rfl, h]; rfl
      rw [e1, e2]
      refine PCall.of_awp tok mixed fn27 (Nat.le_of_ble_eq_true rfl) ?_
      (conv => whnf); (repeat' first | ((with_reducible refine Box.mk ?_); conv => whnf) | ((with_reducible refine And.intro (fun _ => ?_) (fun _ => ?_)) <;> conv => whnf) | ((with_reducible show AYld _ _ _ _ _); (refine AYld.of tok mixed ?_); conv => whnf) | ((with_reducible show forceH _ _); (refine (forceH_eq _ _).mpr ?_); conv => whnf) | ((with_reducible show ACall _ _ _ _ _); (refine ACall.of_pure (by assumption) (by rfl) ?_); conv => whnf) | ((with_reducible show Exists _); (refine ⟨_, ACall.of_pure (by assumption) (by rfl) ⟨rfl, rfl⟩, ?_⟩); conv => whnf) | ((with_reducible show _ ∧ _ ∧ _); (refine ⟨by omega, by omega, ?_⟩); conv => whnf) | fail)
      all_goals try (exfalso; omega)
      all_goals rfl
  · obtain ⟨h, hl1, hl2⟩ := h
    rw [h] at q1
    by_cases hm : s.len ≠ 65535 ∧ (b.length : Int) ≠ s.len
    · have hm1 := hm.1
      have hm2 := hm.2
      have e1 : setE s b = 14 := by unfold setE; rw [if_pos (.inr hm)]
      have e2 : setR s b r = zeroR := by unfold setR; rw [e1, if_neg (by decide)]
      rw [e1, e2]
      refine PCall.of_awp tok mixed fn27 (Nat.le_of_ble_eq_true rfl) ?_
      (conv => whnf); (repeat' first | ((with_reducible refine Box.mk ?_); conv => whnf) | ((with_reducible refine And.intro (fun _ => ?_) (fun _ => ?_)) <;> conv => whnf) | ((with_reducible show AYld _ _ _ _ _); (refine AYld.of tok mixed ?_); conv => whnf) | ((with_reducible show forceH _ _); (refine (forceH_eq _ _).mpr ?_); conv => whnf) | ((with_reducible show ACall _ _ _ _ _); (refine ACall.of_pure (by assumption) (by rfl) ?_); conv => whnf) | ((with_reducible show Exists _); (refine ⟨_, ACall.of_pure (by assumption) (by rfl) ⟨rfl, rfl⟩, ?_⟩); conv => whnf) | ((with_reducible show _ ∧ _ ∧ _); (refine ⟨by omega, by omega, ?_⟩); conv => whnf) | fail)
      all_goals try (exfalso; omega)
      all_goals rfl
    · have hn : ¬ (saysS s = -1 ∨ (s.len ≠ 65535 ∧ (b.length : Int) ≠ s.len)) := fun hc => by
        rcases hc with hc | hc
        · rw [h] at hc; cases hc
        · exact hm hc
      have e1 : setE s b = 0 := by unfold setE; rw [if_neg hn, if_neg (by rw [h]; rintro ⟨hc | hc, _⟩ <;> cases hc)]
      have e2 : setR s b r = { r with by_ := valB b } := by unfold setR updR; rw [e1, if_pos rfl, h]; rfl
      rw [e1, e2]
      have q2 := fNumber_ok b (by omega)
      generalize valB b = n at *
      refine PCall.of_awp tok mixed fn27 (Nat.le_of_ble_eq_true rfl) ?_
      (conv => whnf); (repeat' first | ((with_reducible refine Box.mk ?_); conv => whnf) | ((with_reducible refine And.intro (fun _ => ?_) (fun _ => ?_)) <;> conv => whnf) | ((with_reducible show AYld _ _ _ _ _); (refine AYld.of tok mixed ?_); conv => whnf) | ((with_reducible show forceH _ _); (refine (forceH_eq _ _).mpr ?_); conv => whnf) | ((with_reducible show ACall _ _ _ _ _); (refine ACall.of_pure (by assumption) (by rfl) ?_); conv => whnf) | ((with_reducible show Exists _); (refine ⟨_, ACall.of_pure (by assumption) (by rfl) ⟨rfl, rfl⟩, ?_⟩); conv => whnf) | ((with_reducible show _ ∧ _ ∧ _); (refine ⟨by omega, by omega, ?_⟩); conv => whnf) | fail)
      all_goals try (exfalso; omega)
      all_goals rfl
  · obtain ⟨h, hl1, hl2⟩ := h
    rw [h] at q1
    by_cases hm : s.len ≠ 65535 ∧ (b.length : Int) ≠ s.len
    · have hm1 := hm.1
      have hm2 := hm.2
      have e1 : setE s b = 14 := by unfold setE; rw [if_pos (.inr hm)]
      have e2 : setR s b r = zeroR := by unfold setR; rw [e1, if_neg (by decide)]
      rw [e1, e2]
      refine PCall.of_awp tok mixed fn27 (Nat.le_of_ble_eq_true rfl) ?_
      (conv => whnf); (repeat' first | ((with_reducible refine Box.mk ?_); conv => whnf) | ((with_reducible refine And.intro (fun _ => ?_) (fun _ => ?_)) <;> conv => whnf) | ((with_reducible show AYld _ _ _ _ _); (refine AYld.of tok mixed ?_); conv => whnf) | ((with_reducible show forceH _ _); (refine (forceH_eq _ _).mpr ?_); conv => whnf) | ((with_reducible show ACall _ _ _ _ _); (refine ACall.of_pure (by assumption) (by rfl) ?_); conv => whnf) | ((with_reducible show Exists _); (refine ⟨_, ACall.of_pure (by assumption) (by rfl) ⟨rfl, rfl⟩, ?_⟩); conv => whnf) | ((with_reducible show _ ∧ _ ∧ _); (refine ⟨by omega, by omega, ?_⟩); conv => whnf) | fail)
      all_goals try (exfalso; omega)
      all_goals rfl
    · have hn : ¬ (saysS s = -1 ∨ (s.len ≠ 65535 ∧ (b.length : Int) ≠ s.len)) := fun hc => by
        rcases hc with hc | hc
        · rw [h] at hc; cases hc
        · exact hm hc
      have e1 : setE s b = 0 := by unfold setE; rw [if_neg hn, if_neg (by rw [h]; rintro ⟨hc | hc, _⟩ <;> cases hc)]
      have e2 : setR s b r = { r with pk := valB b } := by unfold setR updR; rw [e1, if_pos rfl, h]; rfl
      rw [e1, e2]
      have q2 := fNumber_ok b (by omega)
      generalize valB b = n at *
      refine PCall.of_awp tok mixed fn27 (Nat.le_of_ble_eq_true rfl) ?_
      (conv => whnf); (repeat' first | ((with_reducible refine Box.mk ?_); conv => whnf) | ((with_reducible refine And.intro (fun _ => ?_) (fun _ => ?_)) <;> conv => whnf) | ((with_reducible show AYld _ _ _ _ _); (refine AYld.of tok mixed ?_); conv => whnf) | ((with_reducible show forceH _ _); (refine (forceH_eq _ _).mpr ?_); conv => whnf) | ((with_reducible show ACall _ _ _ _ _); (refine ACall.of_pure (by assumption) (by rfl) ?_); conv => whnf) | ((with_reducible show Exists _); (refine ⟨_, ACall.of_pure (by assumption) (by rfl) ⟨rfl, rfl⟩, ?_⟩); conv => whnf) | ((with_reducible show _ ∧ _ ∧ _); (refine ⟨by omega, by omega, ?_⟩); conv => whnf) | fail)
      all_goals try (exfalso; omega)
      all_goals rfl
  · obtain ⟨h, hl⟩ := h
    rw [h] at q1
    by_cases hm : s.len ≠ 65535 ∧ (b.length : Int) ≠ s.len
    · have hm1 := hm.1
      have hm2 := hm.2
      have e1 : setE s b = 14 := by unfold setE; rw [if_pos (.inr hm)]
      have e2 : setR s b r = zeroR := by unfold setR; rw [e1, if_neg (by decide)]
      rw [e1, e2]
      refine PCall.of_awp tok mixed fn27 (Nat.le_of_ble_eq_true rfl) ?_
      (conv => whnf); (repeat' first | ((with_reducible refine Box.mk ?_); conv => whnf) | ((with_reducible refine And.intro (fun _ => ?_) (fun _ => ?_)) <;> conv => whnf) | ((with_reducible show AYld _ _ _ _ _); (refine AYld.of tok mixed ?_); conv => whnf) | ((with_reducible show forceH _ _); (refine (forceH_eq _ _).mpr ?_); conv => whnf) | ((with_reducible show ACall _ _ _ _ _); (refine ACall.of_pure (by assumption) (by rfl) ?_); conv => whnf) | ((with_reducible show Exists _); (refine ⟨_, ACall.of_pure (by assumption) (by rfl) ⟨rfl, rfl⟩, ?_⟩); conv => whnf) | ((with_reducible show _ ∧ _ ∧ _); (refine ⟨by omega, by omega, ?_⟩); conv => whnf) | fail)
      all_goals try (exfalso; omega)
      all_goals rfl
    · have hn : ¬ (saysS s = -1 ∨ (s.len ≠ 65535 ∧ (b.length : Int) ≠ s.len)) := fun hc => by
        rcases hc with hc | hc
        · rw [h] at hc; cases hc
        · exact hm hc
      have e1 : setE s b = 0 := by unfold setE; rw [if_neg hn, if_neg (by rw [h]; rintro ⟨hc | hc, _⟩ <;> cases hc)]
      have e2 : setR s b r = { r with a0 := addrK b } := by unfold setR updR; rw [e1, if_pos rfl, h]; rfl
      rw [e1, e2]
      have q2 : PCall P 46 [.sl (bcl b)] (kv (addrK b)) := by unfold addrK; rw [if_pos (by omega)]; exact fAddr4 b (by omega)
      generalize addrK b = k at *
      refine PCall.of_awp tok mixed fn27 (Nat.le_of_ble_eq_true rfl) ?_
      (conv => whnf); (repeat' first | ((with_reducible refine Box.mk ?_); conv => whnf) | ((with_reducible refine And.intro (fun _ => ?_) (fun _ => ?_)) <;> conv => whnf) | ((with_reducible show AYld _ _ _ _ _); (refine AYld.of tok mixed ?_); conv => whnf) | ((with_reducible show forceH _ _); (refine (forceH_eq _ _).mpr ?_); conv => whnf) | ((with_reducible show ACall _ _ _ _ _); (refine ACall.of_pure (by assumption) (by rfl) ?_); conv => whnf) | ((with_reducible show Exists _); (refine ⟨_, ACall.of_pure (by assumption) (by rfl) ⟨rfl, rfl⟩, ?_⟩); conv => whnf) | ((with_reducible show _ ∧ _ ∧ _); (refine ⟨by omega, by omega, ?_⟩); conv => whnf) | fail)
      all_goals try (exfalso; omega)
      all_goals rfl
  · obtain ⟨h, hl⟩ := h
    rw [h] at q1
    by_cases hm : s.len ≠ 65535 ∧ (b.length : Int) ≠ s.len
    · have hm1 := hm.1
      have hm2 := hm.2
      have e1 : setE s b = 14 := by unfold setE; rw [if_pos (.inr hm)]
      have e2 : setR s b r = zeroR := by unfold setR; rw [e1, if_neg (by decide)]
      rw [e1, e2]
      refine PCall.of_awp tok mixed fn27 (Nat.le_of_ble_eq_true rfl) ?_
      (conv => whnf); (repeat' first | ((with_reducible refine Box.mk ?_); conv => whnf) | ((with_reducible refine And.intro (fun _ => ?_) (fun _ => ?_)) <;> conv => whnf) | ((with_reducible show AYld _ _ _ _ _); (refine AYld.of tok mixed ?_); conv => whnf) | ((with_reducible show forceH _ _); (refine (forceH_eq _ _).mpr ?_); conv => whnf) | ((with_reducible show ACall _ _ _ _ _); (refine ACall.of_pure (by assumption) (by rfl) ?_); conv => whnf) | ((with_reducible show Exists _); (refine ⟨_, ACall.of_pure (by assumption) (by rfl) ⟨rfl, rfl⟩, ?_⟩); conv => whnf) | ((with_reducible show _ ∧ _ ∧ _); (refine ⟨by omega, by omega, ?_⟩); conv => whnf) | fail)
      all_goals try (exfalso; omega)
      all_goals rfl
    · have hn : ¬ (saysS s = -1 ∨ (s.len ≠ 65535 ∧ (b.length : Int) ≠ s.len)) := fun hc => by
        rcases hc with hc | hc
        · rw [h] at hc; cases hc
        · exact hm hc
      have e1 : setE s b = 0 := by unfold setE; rw [if_neg hn, if_neg (by rw [h]; rintro ⟨hc | hc, _⟩ <;> cases hc)]
      have e2 : setR s b r = { r with a1 := addrK b } := by unfold setR updR; rw [e1, if_pos rfl, h]; rfl
      rw [e1, e2]
      have q2 : PCall P 46 [.sl (bcl b)] (kv (addrK b)) := by unfold addrK; rw [if_pos (by omega)]; exact fAddr4 b (by omega)
      generalize addrK b = k at *
      refine PCall.of_awp tok mixed fn27 (Nat.le_of_ble_eq_true rfl) ?_
      (conv => whnf); (repeat' first | ((with_reducible refine Box.mk ?_); conv => whnf) | ((with_reducible refine And.intro (fun _ => ?_) (fun _ => ?_)) <;> conv => whnf) | ((with_reducible show AYld _ _ _ _ _); (refine AYld.of tok mixed ?_); conv => whnf) | ((with_reducible show forceH _ _); (refine (forceH_eq _ _).mpr ?_); conv => whnf) | ((with_reducible show ACall _ _ _ _ _); (refine ACall.of_pure (by assumption) (by rfl) ?_); conv => whnf) | ((with_reducible show Exists _); (refine ⟨_, ACall.of_pure (by assumption) (by rfl) ⟨rfl, rfl⟩, ?_⟩); conv => whnf) | ((with_reducible show _ ∧ _ ∧ _); (refine ⟨by omega, by omega, ?_⟩); conv => whnf) | fail)
      all_goals try (exfalso; omega)
      all_goals rfl
  · obtain ⟨h, hl⟩ := h
    rw [h] at q1
    by_cases hm : s.len ≠ 65535 ∧ (b.length : Int) ≠ s.len
    · have hm1 := hm.1
      have hm2 := hm.2
      have e1 : setE s b = 14 := by unfold setE; rw [if_pos (.inr hm)]
      have e2 : setR s b r = zeroR := by unfold setR; rw [e1, if_neg (by decide)]
      rw [e1, e2]
      refine PCall.of_awp tok mixed fn27 (Nat.le_of_ble_eq_true rfl) ?_
      (conv => whnf); (repeat' first | ((with_reducible refine Box.mk ?_); conv => whnf) | ((with_reducible refine And.intro (fun _ => ?_) (fun _ => ?_)) <;> conv => whnf) | ((with_reducible show AYld _ _ _ _ _); (refine AYld.of tok mixed ?_); conv => whnf) | ((with_reducible show forceH _ _); (refine (forceH_eq _ _).mpr ?_); conv => whnf) | ((with_reducible show ACall _ _ _ _ _); (refine ACall.of_pure (by assumption) (by rfl) ?_); conv => whnf) | ((with_reducible show Exists _); (refine ⟨_, ACall.of_pure (by assumption) (by rfl) ⟨rfl, rfl⟩, ?_⟩); conv => whnf) | ((with_reducible show _ ∧ _ ∧ _); (refine ⟨by omega, by omega, ?_⟩); conv => whnf) | fail)
      all_goals try (exfalso; omega)
      all_goals rfl
    · have hn : ¬ (saysS s = -1 ∨ (s.len ≠ 65535 ∧ (b.length : Int) ≠ s.len)) := fun hc => by
        rcases hc with hc | hc
        · rw [h] at hc; cases hc
        · exact hm hc
      have e1 : setE s b = 0 := by unfold setE; rw [if_neg hn, if_neg (by rw [h]; rintro ⟨hc | hc, _⟩ <;> cases hc)]
      have e2 : setR s b r = { r with a0 := addrK b } := by unfold setR updR; rw [e1, if_pos rfl, h]; rfl
      rw [e1, e2]
      have q2 : PCall P 46 [.sl (bcl b)] (kv (addrK b)) := by unfold addrK; rw [if_neg (by omega)]; exact fAddr6 b (by omega)
      generalize addrK b = k at *
      refine PCall.of_awp tok mixed fn27 (Nat.le_of_ble_eq_true rfl) ?_
      (conv => whnf); (repeat' first | ((with_reducible refine Box.mk ?_); conv => whnf) | ((with_reducible refine And.intro (fun _ => ?_) (fun _ => ?_)) <;> conv => whnf) | ((with_reducible show AYld _ _ _ _ _); (refine AYld.of tok mixed ?_); conv => whnf) | ((with_reducible show forceH _ _); (refine (forceH_eq _ _).mpr ?_); conv => whnf) | ((with_reducible show ACall _ _ _ _ _); (refine ACall.of_pure (by assumption) (by rfl) ?_); conv => whnf) | ((with_reducible show Exists _); (refine ⟨_, ACall.of_pure (by assumption) (by rfl) ⟨rfl, rfl⟩, ?_⟩); conv => whnf) | ((with_reducible show _ ∧ _ ∧ _); (refine ⟨by omega, by omega, ?_⟩); conv => whnf) | fail)
      all_goals try (exfalso; omega)
      all_goals rfl
  · obtain ⟨h, hl⟩ := h
    rw [h] at q1
    by_cases hm : s.len ≠ 65535 ∧ (b.length : Int) ≠ s.len
    · have hm1 := hm.1
      have hm2 := hm.2
      have e1 : setE s b = 14 := by unfold setE; rw [if_pos (.inr hm)]
      have e2 : setR s b r = zeroR := by unfold setR; rw [e1, if_neg (by decide)]
      rw [e1, e2]
      refine PCall.of_awp tok mixed fn27 (Nat.le_of_ble_eq_true rfl) ?_
      (conv => whnf); (repeat' first | ((with_reducible refine Box.mk ?_); conv => whnf) | ((with_reducible refine And.intro (fun _ => ?_) (fun _ => ?_)) <;> conv => whnf) | ((with_reducible show AYld _ _ _ _ _); (refine AYld.of tok mixed ?_); conv => whnf) | ((with_reducible show forceH _ _); (refine (forceH_eq _ _).mpr ?_); conv => whnf) | ((with_reducible show ACall _ _ _ _ _); (refine ACall.of_pure (by assumption) (by rfl) ?_); conv => whnf) | ((with_reducible show Exists _); (refine ⟨_, ACall.of_pure (by assumption) (by rfl) ⟨rfl, rfl⟩, ?_⟩); conv => whnf) | ((with_reducible show _ ∧ _ ∧ _); (refine ⟨by omega, by omega, ?_⟩); conv => whnf) | fail)
      all_goals try (exfalso; omega)
      all_goals rfl
    · have hn : ¬ (saysS s = -1 ∨ (s.len ≠ 65535 ∧ (b.length : Int) ≠ s.len)) := fun hc => by
        rcases hc with hc | hc
        · rw [h] at hc; cases hc
        · exact hm hc
      have e1 : setE s b = 0 := by unfold setE; rw [if_neg hn, if_neg (by rw [h]; rintro ⟨hc | hc, _⟩ <;> cases hc)]
      have e2 : setR s b r = { r with a1 := addrK b } := by unfold setR updR; rw [e1, if_pos rfl, h]; rfl
      rw [e1, e2]
      have q2 : PCall P 46 [.sl (bcl b)] (kv (addrK b)) := by unfold addrK; rw [if_neg (by omega)]; exact fAddr6 b (by omega)
      generalize addrK b = k at *
      refine PCall.of_awp tok mixed fn27 (Nat.le_of_ble_eq_true rfl) ?_
      (conv => whnf); (repeat' first | ((with_reducible refine Box.mk ?_); conv => whnf) | ((with_reducible refine And.intro (fun _ => ?_) (fun _ => ?_)) <;> conv => whnf) | ((with_reducible show AYld _ _ _ _ _); (refine AYld.of tok mixed ?_); conv => whnf) | ((with_reducible show forceH _ _); (refine (forceH_eq _ _).mpr ?_); conv => whnf) | ((with_reducible show ACall _ _ _ _ _); (refine ACall.of_pure (by assumption) (by rfl) ?_); conv => whnf) | ((with_reducible show Exists _); (refine ⟨_, ACall.of_pure (by assumption) (by rfl) ⟨rfl, rfl⟩, ?_⟩); conv => whnf) | ((with_reducible show _ ∧ _ ∧ _); (refine ⟨by omega, by omega, ?_⟩); conv => whnf) | fail)
      all_goals try (exfalso; omega)
      all_goals rfl
  · rw [h] at q1
    by_cases hm : s.len ≠ 65535 ∧ (b.length : Int) ≠ s.len
    · have hm1 := hm.1
      have hm2 := hm.2
      have e1 : setE s b = 14 := by unfold setE; rw [if_pos (.inr hm)]
      have e2 : setR s b r = zeroR := by unfold setR; rw [e1, if_neg (by decide)]
      rw [e1, e2]
      refine PCall.of_awp tok mixed fn27 (Nat.le_of_ble_eq_true rfl) ?_
      (conv => whnf); (repeat' first | ((with_reducible refine Box.mk ?_); conv => whnf) | ((with_reducible refine And.intro (fun _ => ?_) (fun _ => ?_)) <;> conv => whnf) | ((with_reducible show AYld _ _ _ _ _); (refine AYld.of tok mixed ?_); conv => whnf) | ((with_reducible show forceH _ _); (refine (forceH_eq _ _).mpr ?_); conv => whnf) | ((with_reducible show ACall _ _ _ _ _); (refine ACall.of_pure (by assumption) (by rfl) ?_); conv => whnf) | ((with_reducible show Exists _); (refine ⟨_, ACall.of_pure (by assumption) (by rfl) ⟨rfl, rfl⟩, ?_⟩); conv => whnf) | ((with_reducible show _ ∧ _ ∧ _); (refine ⟨by omega, by omega, ?_⟩); conv => whnf) | fail)
      all_goals try (exfalso; omega)
      all_goals rfl
    · have hn : ¬ (saysS s = -1 ∨ (s.len ≠ 65535 ∧ (b.length : Int) ≠ s.len)) := fun hc => by
        rcases hc with hc | hc
        · rw [h] at hc; cases hc
        · exact hm hc
      have q2 := fPath_ok s b hb
      cases hok : okPath (pathT s b) with
      | false =>
        have e1 : setE s b = 3 := by unfold setE; rw [if_neg hn, if_pos ⟨.inl h, hok⟩]
        have e2 : setR s b r = zeroR := by unfold setR; rw [e1, if_neg (by decide)]
        rw [hok] at q2
        rw [e1, e2]
        replace q2 := pEq q2 (show _ = AV.tup [kv zeroK, .int .i64 3] from rfl)
        refine PCall.of_awp tok mixed fn27 (Nat.le_of_ble_eq_true rfl) ?_
        (conv => whnf); (repeat' first | ((with_reducible refine Box.mk ?_); conv => whnf) | ((with_reducible refine And.intro (fun _ => ?_) (fun _ => ?_)) <;> conv => whnf) | ((with_reducible show AYld _ _ _ _ _); (refine AYld.of tok mixed ?_); conv => whnf) | ((with_reducible show forceH _ _); (refine (forceH_eq _ _).mpr ?_); conv => whnf) | ((with_reducible show ACall _ _ _ _ _); (refine ACall.of_pure (by assumption) (by rfl) ?_); conv => whnf) | ((with_reducible show Exists _); (refine ⟨_, ACall.of_pure (by assumption) (by rfl) ⟨rfl, rfl⟩, ?_⟩); conv => whnf) | ((with_reducible show _ ∧ _ ∧ _); (refine ⟨by omega, by omega, ?_⟩); conv => whnf) | fail)
        all_goals try (exfalso; omega)
        all_goals rfl
      | true =>
        have e1 : setE s b = 0 := by unfold setE; rw [if_neg hn, if_neg (fun hc => by rw [hok] at hc; cases hc.2)]
        have e2 : setR s b r = { r with p0 := ofPathK (pathT s b) } := by unfold setR updR; rw [e1, if_pos rfl, h]; rfl
        rw [hok] at q2
        rw [e1, e2]
        replace q2 := pEq q2 (show _ = AV.tup [kv (ofPathK (pathT s b)), .int .i64 0] from rfl)
        generalize ofPathK (pathT s b) = k at *
        refine PCall.of_awp tok mixed fn27 (Nat.le_of_ble_eq_true rfl) ?_
        (conv => whnf); (repeat' first | ((with_reducible refine Box.mk ?_); conv => whnf) | ((with_reducible refine And.intro (fun _ => ?_) (fun _ => ?_)) <;> conv => whnf) | ((with_reducible show AYld _ _ _ _ _); (refine AYld.of tok mixed ?_); conv => whnf) | ((with_reducible show forceH _ _); (refine (forceH_eq _ _).mpr ?_); conv => whnf) | ((with_reducible show ACall _ _ _ _ _); (refine ACall.of_pure (by assumption) (by rfl) ?_); conv => whnf) | ((with_reducible show Exists _); (refine ⟨_, ACall.of_pure (by assumption) (by rfl) ⟨rfl, rfl⟩, ?_⟩); conv => whnf) | ((with_reducible show _ ∧ _ ∧ _); (refine ⟨by omega, by omega, ?_⟩); conv => whnf) | fail)
        all_goals try (exfalso; omega)
        all_goals rfl
  · rw [h] at q1
    by_cases hm : s.len ≠ 65535 ∧ (b.length : Int) ≠ s.len
    · have hm1 := hm.1
      have hm2 := hm.2
      have e1 : setE s b = 14 := by unfold setE; rw [if_pos (.inr hm)]
      have e2 : setR s b r = zeroR := by unfold setR; rw [e1, if_neg (by decide)]
      rw [e1, e2]
      refine PCall.of_awp tok mixed fn27 (Nat.le_of_ble_eq_true rfl) ?_
      (conv => whnf); (repeat' first | ((with_reducible refine Box.mk ?_); conv => whnf) | ((with_reducible refine And.intro (fun _ => ?_) (fun _ => ?_)) <;> conv => whnf) | ((with_reducible show AYld _ _ _ _ _); (refine AYld.of tok mixed ?_); conv => whnf) | ((with_reducible show forceH _ _); (refine (forceH_eq _ _).mpr ?_); conv => whnf) | ((with_reducible show ACall _ _ _ _ _); (refine ACall.of_pure (by assumption) (by rfl) ?_); conv => whnf) | ((with_reducible show Exists _); (refine ⟨_, ACall.of_pure (by assumption) (by rfl) ⟨rfl, rfl⟩, ?_⟩); conv => whnf) | ((with_reducible show _ ∧ _ ∧ _); (refine ⟨by omega, by omega, ?_⟩); conv => whnf) | fail)
      all_goals try (exfalso; omega)
      all_goals rfl
    · have hn : ¬ (saysS s = -1 ∨ (s.len ≠ 65535 ∧ (b.length : Int) ≠ s.len)) := fun hc => by
        rcases hc with hc | hc
        · rw [h] at hc; cases hc
        · exact hm hc
      have q2 := fPath_ok s b hb
      cases hok : okPath (pathT s b) with
      | false =>
        have e1 : setE s b = 3 := by unfold setE; rw [if_neg hn, if_pos ⟨.inr h, hok⟩]
        have e2 : setR s b r = zeroR := by unfold setR; rw [e1, if_neg (by decide)]
        rw [hok] at q2
        rw [e1, e2]
        replace q2 := pEq q2 (show _ = AV.tup [kv zeroK, .int .i64 3] from rfl)
        refine PCall.of_awp tok mixed fn27 (Nat.le_of_ble_eq_true rfl) ?_
        (conv => whnf); (repeat' first | ((with_reducible refine Box.mk ?_); conv => whnf) | ((with_reducible refine And.intro (fun _ => ?_) (fun _ => ?_)) <;> conv => whnf) | ((with_reducible show AYld _ _ _ _ _); (refine AYld.of tok mixed ?_); conv => whnf) | ((with_reducible show forceH _ _); (refine (forceH_eq _ _).mpr ?_); conv => whnf) | ((with_reducible show ACall _ _ _ _ _); (refine ACall.of_pure (by assumption) (by rfl) ?_); conv => whnf) | ((with_reducible show Exists _); (refine ⟨_, ACall.of_pure (by assumption) (by rfl) ⟨rfl, rfl⟩, ?_⟩); conv => whnf) | ((with_reducible show _ ∧ _ ∧ _); (refine ⟨by omega, by omega, ?_⟩); conv => whnf) | fail)
        all_goals try (exfalso; omega)
        all_goals rfl
      | true =>
        have e1 : setE s b = 0 := by unfold setE; rw [if_neg hn, if_neg (fun hc => by rw [hok] at hc; cases hc.2)]
        have e2 : setR s b r = { r with p1 := ofPathK (pathT s b) } := by unfold setR updR; rw [e1, if_pos rfl, h]; rfl
        rw [hok] at q2
        rw [e1, e2]
        replace q2 := pEq q2 (show _ = AV.tup [kv (ofPathK (pathT s b)), .int .i64 0] from rfl)
        generalize ofPathK (pathT s b) = k at *
        refine PCall.of_awp tok mixed fn27 (Nat.le_of_ble_eq_true rfl) ?_
        (conv => whnf); (repeat' first | ((with_reducible refine Box.mk ?_); conv => whnf) | ((with_reducible refine And.intro (fun _ => ?_) (fun _ => ?_)) <;> conv => whnf) | ((with_reducible show AYld _ _ _ _ _); (refine AYld.of tok mixed ?_); conv => whnf) | ((with_reducible show forceH _ _); (refine (forceH_eq _ _).mpr ?_); conv => whnf) | ((with_reducible show ACall _ _ _ _ _); (refine ACall.of_pure (by assumption) (by rfl) ?_); conv => whnf) | ((with_reducible show Exists _); (refine ⟨_, ACall.of_pure (by assumption) (by rfl) ⟨rfl, rfl⟩, ?_⟩); conv => whnf) | ((with_reducible show _ ∧ _ ∧ _); (refine ⟨by omega, by omega, ?_⟩); conv => whnf) | fail)
        all_goals try (exfalso; omega)
        all_goals rfl
end Go.Proofs.YtnajpmepcffnaaaDoor
end

section
/- field: the value that says of a flow what a field says. -/
namespace Go.Proofs.YtnajpmepcffnaaaDoor
open Go.Ve

/-- The bytes of an address: so many, or zeros. -/
def bytesK (k : Ky) (kind : Int) (n : Nat) : Bs := if k.kind = kind then (numB (k.n / H64) 8 ++ numB (k.n % H64) 8).take n else List.replicate n 0
/-- A path's text, if it is one. -/
def textK (k : Ky) : Bs := if k.kind = 3 ∧ okPath k.path = true then k.path else []
/-- What a field says of a flow. -/
def ofR (r : Rc) (s : Sc) : Bs :=
  if saysS s = 1 then numB r.by_ (szN s.len) else if saysS s = 2 then numB r.pk (szN s.len) else
  if saysS s = 3 then bytesK r.a0 1 4 else if saysS s = 4 then bytesK r.a1 1 4 else if saysS s = 5 then bytesK r.a0 2 16 else if saysS s = 6 then bytesK r.a1 2 16 else
  if saysS s = 7 then textK r.p0 else if saysS s = 8 then textK r.p1 else []
theorem fBytes_ok (k : Ky) (kind : Int) (n : Nat) (hn : n ≤ 16) : DCall P 48 [kv k, .int .i64 kind, .int .i64 n] [] (.sl (bcl (bytesK k kind n))) [] := by
  have q1 := wWideN (k.n / H64) (k.n % H64)
  have q2 := wBytesR (numB (k.n / H64) 8 ++ numB (k.n % H64) 8) (by rw [List.length_append, numB_len, numB_len]; decide)
  have hl : (numB (k.n / H64) 8 ++ numB (k.n % H64) 8).length = 16 := by rw [List.length_append, numB_len, numB_len]
  have hT : k.kind = kind → bytesK k kind n = (numB (k.n / H64) 8 ++ numB (k.n % H64) 8).take n := fun h => by unfold bytesK; rw [if_pos h]
  have hF : ¬ k.kind = kind → bytesK k kind n = List.replicate n 0 := fun h => by unfold bytesK; rw [if_neg h]
  have hz := zeros_bcl n
  generalize numB (k.n / H64) 8 ++ numB (k.n % H64) 8 = w at *
  have hbl := bcl_len w
  have hc : List.drop 0 (List.take ((n : Nat) : Int).toNat (bcl w)) = bcl (w.take n) := cut_bcl w n
  refine DCall.of_awp tok mixed fn48 (Nat.le_of_ble_eq_true rfl) ?_
  (conv => whnf); (repeat' first | ((with_reducible refine Box.mk ?_); conv => whnf) | ((with_reducible refine And.intro (fun _ => ?_) (fun _ => ?_)) <;> conv => whnf) | ((with_reducible show AYld _ _ _ _ _); (refine AYld.of tok mixed ?_); conv => whnf) | ((with_reducible show forceH _ _); (refine (forceH_eq _ _).mpr ?_); conv => whnf) | ((with_reducible show ACall _ _ _ _ _); (refine ACall.of_pure (by assumption) (by rfl) ?_); conv => whnf) | ((with_reducible show Exists _); (refine ⟨_, ACall.of_pure (by assumption) (by rfl) ⟨rfl, rfl⟩, ?_⟩); conv => whnf) | ((with_reducible show _ ∧ _ ∧ _); (refine ⟨by omega, by omega, ?_⟩); conv => whnf) | fail)
  · rename_i h
    rw [hT h]
    refine aW [1] q1 rfl rfl rfl ?_
    (conv => whnf); (repeat' first | ((with_reducible refine Box.mk ?_); conv => whnf) | ((with_reducible refine And.intro (fun _ => ?_) (fun _ => ?_)) <;> conv => whnf) | ((with_reducible show AYld _ _ _ _ _); (refine AYld.of tok mixed ?_); conv => whnf) | ((with_reducible show forceH _ _); (refine (forceH_eq _ _).mpr ?_); conv => whnf) | ((with_reducible show ACall _ _ _ _ _); (refine ACall.of_pure (by assumption) (by rfl) ?_); conv => whnf) | ((with_reducible show Exists _); (refine ⟨_, ACall.of_pure (by assumption) (by rfl) ⟨rfl, rfl⟩, ?_⟩); conv => whnf) | ((with_reducible show _ ∧ _ ∧ _); (refine ⟨by omega, by omega, ?_⟩); conv => whnf) | fail)
    refine aW [1, 2] q2 rfl rfl rfl ?_
    (conv => whnf); (repeat' first | ((with_reducible refine Box.mk ?_); conv => whnf) | ((with_reducible refine And.intro (fun _ => ?_) (fun _ => ?_)) <;> conv => whnf) | ((with_reducible show AYld _ _ _ _ _); (refine AYld.of tok mixed ?_); conv => whnf) | ((with_reducible show forceH _ _); (refine (forceH_eq _ _).mpr ?_); conv => whnf) | ((with_reducible show ACall _ _ _ _ _); (refine ACall.of_pure (by assumption) (by rfl) ?_); conv => whnf) | ((with_reducible show Exists _); (refine ⟨_, ACall.of_pure (by assumption) (by rfl) ⟨rfl, rfl⟩, ?_⟩); conv => whnf) | ((with_reducible show _ ∧ _ ∧ _); (refine ⟨by omega, by omega, ?_⟩); conv => whnf) | fail)
    refine ⟨bcl_all _, ?_⟩
    rw [hc]
    (conv => whnf); (repeat' first | ((with_reducible refine Box.mk ?_); conv => whnf) | ((with_reducible refine And.intro (fun _ => ?_) (fun _ => ?_)) <;> conv => whnf) | ((with_reducible show AYld _ _ _ _ _); (refine AYld.of tok mixed ?_); conv => whnf) | ((with_reducible show forceH _ _); (refine (forceH_eq _ _).mpr ?_); conv => whnf) | ((with_reducible show ACall _ _ _ _ _); (refine ACall.of_pure (by assumption) (by rfl) ?_); conv => whnf) | ((with_reducible show Exists _); (refine ⟨_, ACall.of_pure (by assumption) (by rfl) ⟨rfl, rfl⟩, ?_⟩); conv => whnf) | ((with_reducible show _ ∧ _ ∧ _); (refine ⟨by omega, by omega, ?_⟩); conv => whnf) | fail)
    exact weak_ren_to [] rfl rfl rfl ⟨rfl, trivial⟩
  · rename_i h
    rw [hF h]
    refine ⟨by show (n : Int) * ((1 : Nat) : Int) ≤ _; omega, by omega, ?_⟩
    (conv => whnf); (repeat' first | ((with_reducible refine Box.mk ?_); conv => whnf) | ((with_reducible refine And.intro (fun _ => ?_) (fun _ => ?_)) <;> conv => whnf) | ((with_reducible show AYld _ _ _ _ _); (refine AYld.of tok mixed ?_); conv => whnf) | ((with_reducible show forceH _ _); (refine (forceH_eq _ _).mpr ?_); conv => whnf) | ((with_reducible show ACall _ _ _ _ _); (refine ACall.of_pure (by assumption) (by rfl) ?_); conv => whnf) | ((with_reducible show Exists _); (refine ⟨_, ACall.of_pure (by assumption) (by rfl) ⟨rfl, rfl⟩, ?_⟩); conv => whnf) | ((with_reducible show _ ∧ _ ∧ _); (refine ⟨by omega, by omega, ?_⟩); conv => whnf) | fail)
    show Weak _ ⟨_, [_, Ob.row _ _ (List.replicate n [AV.int .u8 0])]⟩ _
    rw [hz]
    exact weak_cr 1 [] rfl rfl rfl rfl rfl
theorem fText_ok (k : Ky) (hk : k.path.length < 4294967281) : PCall P 49 [kv k] (.sl (bcl (textK k))) ∨ (textK k = [] ∧ PCall P 49 [kv k] .nils) := by
  have q := right_ok k.path hk
  by_cases h3 : k.kind = 3
  · cases hok : okPath k.path with
    | true =>
      rw [hok] at q
      have e : textK k = k.path := by unfold textK; rw [if_pos ⟨h3, hok⟩]
      refine .inl ?_
      rw [e]
      refine PCall.of_awp tok mixed fn49 (Nat.le_of_ble_eq_true rfl) ?_
      (conv => whnf); (repeat' first | ((with_reducible refine Box.mk ?_); conv => whnf) | ((with_reducible refine And.intro (fun _ => ?_) (fun _ => ?_)) <;> conv => whnf) | ((with_reducible show AYld _ _ _ _ _); (refine AYld.of tok mixed ?_); conv => whnf) | ((with_reducible show forceH _ _); (refine (forceH_eq _ _).mpr ?_); conv => whnf) | ((with_reducible show ACall _ _ _ _ _); (refine ACall.of_pure (by assumption) (by rfl) ?_); conv => whnf) | ((with_reducible show Exists _); (refine ⟨_, ACall.of_pure (by assumption) (by rfl) ⟨rfl, rfl⟩, ?_⟩); conv => whnf) | ((with_reducible show _ ∧ _ ∧ _); (refine ⟨by omega, by omega, ?_⟩); conv => whnf) | fail)
      all_goals try (exfalso; omega)
      refine ⟨by omega, ?_⟩
      (conv => whnf); (repeat' first | ((with_reducible refine Box.mk ?_); conv => whnf) | ((with_reducible refine And.intro (fun _ => ?_) (fun _ => ?_)) <;> conv => whnf) | ((with_reducible show AYld _ _ _ _ _); (refine AYld.of tok mixed ?_); conv => whnf) | ((with_reducible show forceH _ _); (refine (forceH_eq _ _).mpr ?_); conv => whnf) | ((with_reducible show ACall _ _ _ _ _); (refine ACall.of_pure (by assumption) (by rfl) ?_); conv => whnf) | ((with_reducible show Exists _); (refine ⟨_, ACall.of_pure (by assumption) (by rfl) ⟨rfl, rfl⟩, ?_⟩); conv => whnf) | ((with_reducible show _ ∧ _ ∧ _); (refine ⟨by omega, by omega, ?_⟩); conv => whnf) | fail)
      rfl
    | false =>
      rw [hok] at q
      refine .inr ⟨by unfold textK; rw [if_neg (fun h => by rw [hok] at h; cases h.2)], ?_⟩
      refine PCall.of_awp tok mixed fn49 (Nat.le_of_ble_eq_true rfl) ?_
      (conv => whnf); (repeat' first | ((with_reducible refine Box.mk ?_); conv => whnf) | ((with_reducible refine And.intro (fun _ => ?_) (fun _ => ?_)) <;> conv => whnf) | ((with_reducible show AYld _ _ _ _ _); (refine AYld.of tok mixed ?_); conv => whnf) | ((with_reducible show forceH _ _); (refine (forceH_eq _ _).mpr ?_); conv => whnf) | ((with_reducible show ACall _ _ _ _ _); (refine ACall.of_pure (by assumption) (by rfl) ?_); conv => whnf) | ((with_reducible show Exists _); (refine ⟨_, ACall.of_pure (by assumption) (by rfl) ⟨rfl, rfl⟩, ?_⟩); conv => whnf) | ((with_reducible show _ ∧ _ ∧ _); (refine ⟨by omega, by omega, ?_⟩); conv => whnf) | fail)
      all_goals try (exfalso; omega)
      rfl
  · refine .inr ⟨by unfold textK; rw [if_neg (fun h => h3 h.1)], ?_⟩
    refine PCall.of_awp tok mixed fn49 (Nat.le_of_ble_eq_true rfl) ?_
    (conv => whnf); (repeat' first | ((with_reducible refine Box.mk ?_); conv => whnf) | ((with_reducible refine And.intro (fun _ => ?_) (fun _ => ?_)) <;> conv => whnf) | ((with_reducible show AYld _ _ _ _ _); (refine AYld.of tok mixed ?_); conv => whnf) | ((with_reducible show forceH _ _); (refine (forceH_eq _ _).mpr ?_); conv => whnf) | ((with_reducible show ACall _ _ _ _ _); (refine ACall.of_pure (by assumption) (by rfl) ?_); conv => whnf) | ((with_reducible show Exists _); (refine ⟨_, ACall.of_pure (by assumption) (by rfl) ⟨rfl, rfl⟩, ?_⟩); conv => whnf) | ((with_reducible show _ ∧ _ ∧ _); (refine ⟨by omega, by omega, ?_⟩); conv => whnf) | fail)
    all_goals try contradiction
    rfl
set_option maxHeartbeats 8000000 in
theorem fOf_ok (r : Rc) (s : Sc) (h0 : r.p0.path.length < 4294967281) (h1 : r.p1.path.length < 4294967281) : DCall P 29 [rcv r, sv s] [] (.sl (bcl (ofR r s))) [] := by
  have q1 := fSays_ok s
  rcases says_cases s with h | h | ⟨hR, h | h | h | h | h | h | h | h⟩
  · rw [h] at q1
    have e : ofR r s = [] := by unfold ofR; rw [h]; rfl
    rw [e]
    refine DCall.of_awp tok mixed fn29 (Nat.le_of_ble_eq_true rfl) ?_
    (conv => whnf); (repeat' first | ((with_reducible refine Box.mk ?_); conv => whnf) | ((with_reducible refine And.intro (fun _ => ?_) (fun _ => ?_)) <;> conv => whnf) | ((with_reducible show AYld _ _ _ _ _); (refine AYld.of tok mixed ?_); conv => whnf) | ((with_reducible show forceH _ _); (refine (forceH_eq _ _).mpr ?_); conv => whnf) | ((with_reducible show ACall _ _ _ _ _); (refine ACall.of_pure (by assumption) (by rfl) ?_); conv => whnf) | ((with_reducible show Exists _); (refine ⟨_, ACall.of_pure (by assumption) (by rfl) ⟨rfl, rfl⟩, ?_⟩); conv => whnf) | ((with_reducible show _ ∧ _ ∧ _); (refine ⟨by omega, by omega, ?_⟩); conv => whnf) | fail)
    all_goals try (exfalso; omega)
    exact weak_nr [] rfl rfl rfl rfl
  · rw [h] at q1
    have e : ofR r s = [] := by unfold ofR; rw [h]; rfl
    rw [e]
    refine DCall.of_awp tok mixed fn29 (Nat.le_of_ble_eq_true rfl) ?_
    (conv => whnf); (repeat' first | ((with_reducible refine Box.mk ?_); conv => whnf) | ((with_reducible refine And.intro (fun _ => ?_) (fun _ => ?_)) <;> conv => whnf) | ((with_reducible show AYld _ _ _ _ _); (refine AYld.of tok mixed ?_); conv => whnf) | ((with_reducible show forceH _ _); (refine (forceH_eq _ _).mpr ?_); conv => whnf) | ((with_reducible show ACall _ _ _ _ _); (refine ACall.of_pure (by assumption) (by rfl) ?_); conv => whnf) | ((with_reducible show Exists _); (refine ⟨_, ACall.of_pure (by assumption) (by rfl) ⟨rfl, rfl⟩, ?_⟩); conv => whnf) | ((with_reducible show _ ∧ _ ∧ _); (refine ⟨by omega, by omega, ?_⟩); conv => whnf) | fail)
    all_goals try (exfalso; omega)
    exact weak_nr [] rfl rfl rfl rfl
  · obtain ⟨h, hl1, hl2⟩ := h
    rw [h] at q1
    have e : ofR r s = numB r.by_ (szN s.len) := by unfold ofR; rw [h]; rfl
    rw [e]
    have q2 := wNumN r.by_ s.len
    have hz := szN_pos s.len
    have q3 := wBytesR (numB r.by_ (szN s.len)) (by rw [numB_len]; omega)
    generalize numB r.by_ (szN s.len) = w at *
    refine DCall.of_awp tok mixed fn29 (Nat.le_of_ble_eq_true rfl) ?_
    (conv => whnf); (repeat' first | ((with_reducible refine Box.mk ?_); conv => whnf) | ((with_reducible refine And.intro (fun _ => ?_) (fun _ => ?_)) <;> conv => whnf) | ((with_reducible show AYld _ _ _ _ _); (refine AYld.of tok mixed ?_); conv => whnf) | ((with_reducible show forceH _ _); (refine (forceH_eq _ _).mpr ?_); conv => whnf) | ((with_reducible show ACall _ _ _ _ _); (refine ACall.of_pure (by assumption) (by rfl) ?_); conv => whnf) | ((with_reducible show Exists _); (refine ⟨_, ACall.of_pure (by assumption) (by rfl) ⟨rfl, rfl⟩, ?_⟩); conv => whnf) | ((with_reducible show _ ∧ _ ∧ _); (refine ⟨by omega, by omega, ?_⟩); conv => whnf) | fail)
    all_goals try (exfalso; omega)
    refine aW [2] q2 rfl rfl rfl ?_
    (conv => whnf); (repeat' first | ((with_reducible refine Box.mk ?_); conv => whnf) | ((with_reducible refine And.intro (fun _ => ?_) (fun _ => ?_)) <;> conv => whnf) | ((with_reducible show AYld _ _ _ _ _); (refine AYld.of tok mixed ?_); conv => whnf) | ((with_reducible show forceH _ _); (refine (forceH_eq _ _).mpr ?_); conv => whnf) | ((with_reducible show ACall _ _ _ _ _); (refine ACall.of_pure (by assumption) (by rfl) ?_); conv => whnf) | ((with_reducible show Exists _); (refine ⟨_, ACall.of_pure (by assumption) (by rfl) ⟨rfl, rfl⟩, ?_⟩); conv => whnf) | ((with_reducible show _ ∧ _ ∧ _); (refine ⟨by omega, by omega, ?_⟩); conv => whnf) | fail)
    refine aW [2, 3] q3 rfl rfl rfl ?_
    (conv => whnf); (repeat' first | ((with_reducible refine Box.mk ?_); conv => whnf) | ((with_reducible refine And.intro (fun _ => ?_) (fun _ => ?_)) <;> conv => whnf) | ((with_reducible show AYld _ _ _ _ _); (refine AYld.of tok mixed ?_); conv => whnf) | ((with_reducible show forceH _ _); (refine (forceH_eq _ _).mpr ?_); conv => whnf) | ((with_reducible show ACall _ _ _ _ _); (refine ACall.of_pure (by assumption) (by rfl) ?_); conv => whnf) | ((with_reducible show Exists _); (refine ⟨_, ACall.of_pure (by assumption) (by rfl) ⟨rfl, rfl⟩, ?_⟩); conv => whnf) | ((with_reducible show _ ∧ _ ∧ _); (refine ⟨by omega, by omega, ?_⟩); conv => whnf) | fail)
    exact weak_ren_to [] rfl rfl rfl ⟨rfl, trivial⟩
  · obtain ⟨h, hl1, hl2⟩ := h
    rw [h] at q1
    have e : ofR r s = numB r.pk (szN s.len) := by unfold ofR; rw [h]; rfl
    rw [e]
    have q2 := wNumN r.pk s.len
    have hz := szN_pos s.len
    have q3 := wBytesR (numB r.pk (szN s.len)) (by rw [numB_len]; omega)
    generalize numB r.pk (szN s.len) = w at *
    refine DCall.of_awp tok mixed fn29 (Nat.le_of_ble_eq_true rfl) ?_
    (conv => whnf); (repeat' first | ((with_reducible refine Box.mk ?_); conv => whnf) | ((with_reducible refine And.intro (fun _ => ?_) (fun _ => ?_)) <;> conv => whnf) | ((with_reducible show AYld _ _ _ _ _); (refine AYld.of tok mixed ?_); conv => whnf) | ((with_reducible show forceH _ _); (refine (forceH_eq _ _).mpr ?_); conv => whnf) | ((with_reducible show ACall _ _ _ _ _); (refine ACall.of_pure (by assumption) (by rfl) ?_); conv => whnf) | ((with_reducible show Exists _); (refine ⟨_, ACall.of_pure (by assumption) (by rfl) ⟨rfl, rfl⟩, ?_⟩); conv => whnf) | ((with_reducible show _ ∧ _ ∧ _); (refine ⟨by omega, by omega, ?_⟩); conv => whnf) | fail)
    all_goals try (exfalso; omega)
    refine aW [2] q2 rfl rfl rfl ?_
    (conv => whnf); (repeat' first | ((with_reducible refine Box.mk ?_); conv => whnf) | ((with_reducible refine And.intro (fun _ => ?_) (fun _ => ?_)) <;> conv => whnf) | ((with_reducible show AYld _ _ _ _ _); (refine AYld.of tok mixed ?_); conv => whnf) | ((with_reducible show forceH _ _); (refine (forceH_eq _ _).mpr ?_); conv => whnf) | ((with_reducible show ACall _ _ _ _ _); (refine ACall.of_pure (by assumption) (by rfl) ?_); conv => whnf) | ((with_reducible show Exists _); (refine ⟨_, ACall.of_pure (by assumption) (by rfl) ⟨rfl, rfl⟩, ?_⟩); conv => whnf) | ((with_reducible show _ ∧ _ ∧ _); (refine ⟨by omega, by omega, ?_⟩); conv => whnf) | fail)
    refine aW [2, 3] q3 rfl rfl rfl ?_
    (conv => whnf); (repeat' first | ((with_reducible refine Box.mk ?_); conv => whnf) | ((with_reducible refine And.intro (fun _ => ?_) (fun _ => ?_)) <;> conv => whnf) | ((with_reducible show AYld _ _ _ _ _); (refine AYld.of tok mixed ?_); conv => whnf) | ((with_reducible show forceH _ _); (refine (forceH_eq _ _).mpr ?_); conv => whnf) | ((with_reducible show ACall _ _ _ _ _); (refine ACall.of_pure (by assumption) (by rfl) ?_); conv => whnf) | ((with_reducible show Exists _); (refine ⟨_, ACall.of_pure (by assumption) (by rfl) ⟨rfl, rfl⟩, ?_⟩); conv => whnf) | ((with_reducible show _ ∧ _ ∧ _); (refine ⟨by omega, by omega, ?_⟩); conv => whnf) | fail)
    exact weak_ren_to [] rfl rfl rfl ⟨rfl, trivial⟩
  · obtain ⟨h, hl⟩ := h
    rw [h] at q1
    have e : ofR r s = bytesK r.a0 1 4 := by unfold ofR; rw [h]; rfl
    rw [e]
    have q2 := fBytes_ok r.a0 1 4 (by decide)
    generalize bytesK r.a0 1 4 = w at *
    refine DCall.of_awp tok mixed fn29 (Nat.le_of_ble_eq_true rfl) ?_
    (conv => whnf); (repeat' first | ((with_reducible refine Box.mk ?_); conv => whnf) | ((with_reducible refine And.intro (fun _ => ?_) (fun _ => ?_)) <;> conv => whnf) | ((with_reducible show AYld _ _ _ _ _); (refine AYld.of tok mixed ?_); conv => whnf) | ((with_reducible show forceH _ _); (refine (forceH_eq _ _).mpr ?_); conv => whnf) | ((with_reducible show ACall _ _ _ _ _); (refine ACall.of_pure (by assumption) (by rfl) ?_); conv => whnf) | ((with_reducible show Exists _); (refine ⟨_, ACall.of_pure (by assumption) (by rfl) ⟨rfl, rfl⟩, ?_⟩); conv => whnf) | ((with_reducible show _ ∧ _ ∧ _); (refine ⟨by omega, by omega, ?_⟩); conv => whnf) | fail)
    all_goals try (exfalso; omega)
    refine aW [] q2 rfl rfl rfl ?_
    (conv => whnf); (repeat' first | ((with_reducible refine Box.mk ?_); conv => whnf) | ((with_reducible refine And.intro (fun _ => ?_) (fun _ => ?_)) <;> conv => whnf) | ((with_reducible show AYld _ _ _ _ _); (refine AYld.of tok mixed ?_); conv => whnf) | ((with_reducible show forceH _ _); (refine (forceH_eq _ _).mpr ?_); conv => whnf) | ((with_reducible show ACall _ _ _ _ _); (refine ACall.of_pure (by assumption) (by rfl) ?_); conv => whnf) | ((with_reducible show Exists _); (refine ⟨_, ACall.of_pure (by assumption) (by rfl) ⟨rfl, rfl⟩, ?_⟩); conv => whnf) | ((with_reducible show _ ∧ _ ∧ _); (refine ⟨by omega, by omega, ?_⟩); conv => whnf) | fail)
    exact weak_ren_to [] rfl rfl rfl ⟨rfl, trivial⟩
  · obtain ⟨h, hl⟩ := h
    rw [h] at q1
    have e : ofR r s = bytesK r.a1 1 4 := by unfold ofR; rw [h]; rfl
    rw [e]
    have q2 := fBytes_ok r.a1 1 4 (by decide)
    generalize bytesK r.a1 1 4 = w at *
    refine DCall.of_awp tok mixed fn29 (Nat.le_of_ble_eq_true rfl) ?_
    (conv => whnf); (repeat' first | ((with_reducible refine Box.mk ?_); conv => whnf) | ((with_reducible refine And.intro (fun _ => ?_) (fun _ => ?_)) <;> conv => whnf) | ((with_reducible show AYld _ _ _ _ _); (refine AYld.of tok mixed ?_); conv => whnf) | ((with_reducible show forceH _ _); (refine (forceH_eq _ _).mpr ?_); conv => whnf) | ((with_reducible show ACall _ _ _ _ _); (refine ACall.of_pure (by assumption) (by rfl) ?_); conv => whnf) | ((with_reducible show Exists _); (refine ⟨_, ACall.of_pure (by assumption) (by rfl) ⟨rfl, rfl⟩, ?_⟩); conv => whnf) | ((with_reducible show _ ∧ _ ∧ _); (refine ⟨by omega, by omega, ?_⟩); conv => whnf) | fail)
    all_goals try (exfalso; omega)
    refine aW [] q2 rfl rfl rfl ?_
    (conv => whnf); (repeat' first | ((with_reducible refine Box.mk ?_); conv => whnf) | ((with_reducible refine And.intro (fun _ => ?_) (fun _ => ?_)) <;> conv => whnf) | ((with_reducible show AYld _ _ _ _ _); (refine AYld.of tok mixed ?_); conv => whnf) | ((with_reducible show forceH _ _); (refine (forceH_eq _ _).mpr ?_); conv => whnf) | ((with_reducible show ACall _ _ _ _ _); (refine ACall.of_pure (by assumption) (by rfl) ?_); conv => whnf) | ((with_reducible show Exists _); (refine ⟨_, ACall.of_pure (by assumption) (by rfl) ⟨rfl, rfl⟩, ?_⟩); conv => whnf) | ((with_reducible show _ ∧ _ ∧ _); (refine ⟨by omega, by omega, ?_⟩); conv => whnf) | fail)
    exact weak_ren_to [] rfl rfl rfl ⟨rfl, trivial⟩
  · obtain ⟨h, hl⟩ := h
    rw [h] at q1
    have e : ofR r s = bytesK r.a0 2 16 := by unfold ofR; rw [h]; rfl
    rw [e]
    have q2 := fBytes_ok r.a0 2 16 (by decide)
    generalize bytesK r.a0 2 16 = w at *
    refine DCall.of_awp tok mixed fn29 (Nat.le_of_ble_eq_true rfl) ?_
    (conv => whnf); (repeat' first | ((with_reducible refine Box.mk ?_); conv => whnf) | ((with_reducible refine And.intro (fun _ => ?_) (fun _ => ?_)) <;> conv => whnf) | ((with_reducible show AYld _ _ _ _ _); (refine AYld.of tok mixed ?_); conv => whnf) | ((with_reducible show forceH _ _); (refine (forceH_eq _ _).mpr ?_); conv => whnf) | ((with_reducible show ACall _ _ _ _ _); (refine ACall.of_pure (by assumption) (by rfl) ?_); conv => whnf) | ((with_reducible show Exists _); (refine ⟨_, ACall.of_pure (by assumption) (by rfl) ⟨rfl, rfl⟩, ?_⟩); conv => whnf) | ((with_reducible show _ ∧ _ ∧ _); (refine ⟨by omega, by omega, ?_⟩); conv => whnf) | fail)
    all_goals try (exfalso; omega)
    refine aW [] q2 rfl rfl rfl ?_
    (conv => whnf); (repeat' first | ((with_reducible refine Box.mk ?_); conv => whnf) | ((with_reducible refine And.intro (fun _ => ?_) (fun _ => ?_)) <;> conv => whnf) | ((with_reducible show AYld _ _ _ _ _); (refine AYld.of tok mixed ?_); conv => whnf) | ((with_reducible show forceH _ _); (refine (forceH_eq _ _).mpr ?_); conv => whnf) | ((with_reducible show ACall _ _ _ _ _); (refine ACall.of_pure (by assumption) (by rfl) ?_); conv => whnf) | ((with_reducible show Exists _); (refine ⟨_, ACall.of_pure (by assumption) (by rfl) ⟨rfl, rfl⟩, ?_⟩); conv => whnf) | ((with_reducible show _ ∧ _ ∧ _); (refine ⟨by omega, by omega, ?_⟩); conv => whnf) | fail)
    exact weak_ren_to [] rfl rfl rfl ⟨rfl, trivial⟩
  · obtain ⟨h, hl⟩ := h
    rw [h] at q1
    have e : ofR r s = bytesK r.a1 2 16 := by unfold ofR; rw [h]; rfl
    rw [e]
    have q2 := fBytes_ok r.a1 2 16 (by decide)
    generalize bytesK r.a1 2 16 = w at *
    refine DCall.of_awp tok mixed fn29 (Nat.le_of_ble_eq_true rfl) ?_
    (conv => whnf); (repeat' first | ((with_reducible refine Box.mk ?_); conv => whnf) | ((with_reducible refine And.intro (fun _ => ?_) (fun _ => ?_)) <;> conv => whnf) | ((with_reducible show AYld _ _ _ _ _); (refine AYld.of tok mixed ?_); conv => whnf) | ((with_reducible show forceH _ _); (refine (forceH_eq _ _).mpr ?_); conv => whnf) | ((with_reducible show ACall _ _ _ _ _); (refine ACall.of_pure (by assumption) (by rfl) ?_); conv => whnf) | ((with_reducible show Exists _); (refine ⟨_, ACall.of_pure (by assumption) (by rfl) ⟨rfl, rfl⟩, ?_⟩); conv => whnf) | ((with_reducible show _ ∧ _ ∧ _); (refine ⟨by omega, by omega, ?_⟩); conv => whnf) | fail)
    all_goals try (exfalso; omega)
    refine aW [] q2 rfl rfl rfl ?_
    (conv => whnf); (repeat' first | ((with_reducible refine Box.mk ?_); conv => whnf) | ((with_reducible refine And.intro (fun _ => ?_) (fun _ => ?_)) <;> conv => whnf) | ((with_reducible show AYld _ _ _ _ _); (refine AYld.of tok mixed ?_); conv => whnf) | ((with_reducible show forceH _ _); (refine (forceH_eq _ _).mpr ?_); conv => whnf) | ((with_reducible show ACall _ _ _ _ _); (refine ACall.of_pure (by assumption) (by rfl) ?_); conv => whnf) | ((with_reducible show Exists _); (refine ⟨_, ACall.of_pure (by assumption) (by rfl) ⟨rfl, rfl⟩, ?_⟩); conv => whnf) | ((with_reducible show _ ∧ _ ∧ _); (refine ⟨by omega, by omega, ?_⟩); conv => whnf) | fail)
    exact weak_ren_to [] rfl rfl rfl ⟨rfl, trivial⟩
  · rw [h] at q1
    have e : ofR r s = textK r.p0 := by unfold ofR; rw [h]; rfl
    rw [e]
    rcases fText_ok r.p0 h0 with q2 | ⟨e2, q2⟩
    · generalize textK r.p0 = w at *
      refine DCall.of_awp tok mixed fn29 (Nat.le_of_ble_eq_true rfl) ?_
      (conv => whnf); (repeat' first | ((with_reducible refine Box.mk ?_); conv => whnf) | ((with_reducible refine And.intro (fun _ => ?_) (fun _ => ?_)) <;> conv => whnf) | ((with_reducible show AYld _ _ _ _ _); (refine AYld.of tok mixed ?_); conv => whnf) | ((with_reducible show forceH _ _); (refine (forceH_eq _ _).mpr ?_); conv => whnf) | ((with_reducible show ACall _ _ _ _ _); (refine ACall.of_pure (by assumption) (by rfl) ?_); conv => whnf) | ((with_reducible show Exists _); (refine ⟨_, ACall.of_pure (by assumption) (by rfl) ⟨rfl, rfl⟩, ?_⟩); conv => whnf) | ((with_reducible show _ ∧ _ ∧ _); (refine ⟨by omega, by omega, ?_⟩); conv => whnf) | fail)
      all_goals try (exfalso; omega)
      exact weak_ren_to [] rfl rfl rfl ⟨rfl, trivial⟩
    · rw [e2]
      refine DCall.of_awp tok mixed fn29 (Nat.le_of_ble_eq_true rfl) ?_
      (conv => whnf); (repeat' first | ((with_reducible refine Box.mk ?_); conv => whnf) | ((with_reducible refine And.intro (fun _ => ?_) (fun _ => ?_)) <;> conv => whnf) | ((with_reducible show AYld _ _ _ _ _); (refine AYld.of tok mixed ?_); conv => whnf) | ((with_reducible show forceH _ _); (refine (forceH_eq _ _).mpr ?_); conv => whnf) | ((with_reducible show ACall _ _ _ _ _); (refine ACall.of_pure (by assumption) (by rfl) ?_); conv => whnf) | ((with_reducible show Exists _); (refine ⟨_, ACall.of_pure (by assumption) (by rfl) ⟨rfl, rfl⟩, ?_⟩); conv => whnf) | ((with_reducible show _ ∧ _ ∧ _); (refine ⟨by omega, by omega, ?_⟩); conv => whnf) | fail)
      all_goals try (exfalso; omega)
      exact weak_nr [] rfl rfl rfl rfl
  · rw [h] at q1
    have e : ofR r s = textK r.p1 := by unfold ofR; rw [h]; rfl
    rw [e]
    rcases fText_ok r.p1 h1 with q2 | ⟨e2, q2⟩
    · generalize textK r.p1 = w at *
      refine DCall.of_awp tok mixed fn29 (Nat.le_of_ble_eq_true rfl) ?_
      (conv => whnf); (repeat' first | ((with_reducible refine Box.mk ?_); conv => whnf) | ((with_reducible refine And.intro (fun _ => ?_) (fun _ => ?_)) <;> conv => whnf) | ((with_reducible show AYld _ _ _ _ _); (refine AYld.of tok mixed ?_); conv => whnf) | ((with_reducible show forceH _ _); (refine (forceH_eq _ _).mpr ?_); conv => whnf) | ((with_reducible show ACall _ _ _ _ _); (refine ACall.of_pure (by assumption) (by rfl) ?_); conv => whnf) | ((with_reducible show Exists _); (refine ⟨_, ACall.of_pure (by assumption) (by rfl) ⟨rfl, rfl⟩, ?_⟩); conv => whnf) | ((with_reducible show _ ∧ _ ∧ _); (refine ⟨by omega, by omega, ?_⟩); conv => whnf) | fail)
      all_goals try (exfalso; omega)
      exact weak_ren_to [] rfl rfl rfl ⟨rfl, trivial⟩
    · rw [e2]
      refine DCall.of_awp tok mixed fn29 (Nat.le_of_ble_eq_true rfl) ?_
      (conv => whnf); (repeat' first | ((with_reducible refine Box.mk ?_); conv => whnf) | ((with_reducible refine And.intro (fun _ => ?_) (fun _ => ?_)) <;> conv => whnf) | ((with_reducible show AYld _ _ _ _ _); (refine AYld.of tok mixed ?_); conv => whnf) | ((with_reducible show forceH _ _); (refine (forceH_eq _ _).mpr ?_); conv => whnf) | ((with_reducible show ACall _ _ _ _ _); (refine ACall.of_pure (by assumption) (by rfl) ?_); conv => whnf) | ((with_reducible show Exists _); (refine ⟨_, ACall.of_pure (by assumption) (by rfl) ⟨rfl, rfl⟩, ?_⟩); conv => whnf) | ((with_reducible show _ ∧ _ ∧ _); (refine ⟨by omega, by omega, ?_⟩); conv => whnf) | fail)
      all_goals try (exfalso; omega)
      exact weak_nr [] rfl rfl rfl rfl
end Go.Proofs.YtnajpmepcffnaaaDoor
end

section
/- field: what must come of fixed calls. -/
namespace Go.Proofs.YtnajpmepcffnaaaDoor
open Go.Ve

def sP : Sc := ⟨1, 32473, 65535⟩
def s8 : Sc := ⟨8, 0, 4⟩
def tP : Bs := [110, 101, 116, 46, 100, 99, 49]
def bP : Bs := [128, 1, 255, 255, 0, 0, 126, 217, 7, 110, 101, 116, 46, 100, 99, 49]
def r7 : Rc := ⟨zeroK, zeroK, zeroK, zeroK, 0, 7⟩
def rP : Rc := ⟨zeroK, zeroK, ⟨3, 2, 0, tP⟩, zeroK, 0, 7⟩
theorem specB_P : specB sP = [128, 1, 255, 255, 0, 0, 126, 217] := by kernel_rfl
theorem putB_P : [128, 1, 255, 255, 0, 0, 126, 217] ++ putB sP tP = bP := by kernel_rfl
theorem read_P : readF bP 0 = (sP, 7 :: tP, 0) := by kernel_rfl
theorem value_P : valueF sP (7 :: tP) 0 = (tP, [], 0) := by kernel_rfl
theorem set_P : setR sP tP r7 = rP ∧ setE sP tP = 0 := ⟨by kernel_rfl, by kernel_rfl⟩
theorem set_8 : setR s8 [1] rP = zeroR ∧ setE s8 [1] = 14 := ⟨by kernel_rfl, by kernel_rfl⟩
theorem of_P : ofR rP sP = tP := by kernel_rfl
set_option maxHeartbeats 8000000 in
theorem alive15_ok : PCall P 19 [] (.bool true) := by
  have c1 := fWriteN sP ⟨by decide, by decide⟩
  rw [specB_P] at c1
  have c2 := fPutR [128, 1, 255, 255, 0, 0, 126, 217] (by decide) sP tP (by decide)
  rw [putB_P] at c2
  have c3 := wBytesR bP (by decide)
  have c4 := from_sl bP (by decide)
  have c5 := fRead_ok bP 0 (by decide)
  rw [read_P] at c5
  have c6 := fValue_ok sP (7 :: tP) 0 (by decide)
  rw [value_P] at c6
  have c7 := fSet_ok sP tP r7 (by decide)
  rw [set_P.1, set_P.2] at c7
  have c8 := fSet_ok s8 [1] rP (by decide)
  rw [set_8.1, set_8.2] at c8
  have c9 : DCall P 17 [.ptr 0 0] (rH [] 0) (.int .i64 0) (rH [] 0) := rEnd_ok [] 0
  have c10 := pEq (fSays_ok sP) (show _ = AV.int .i64 7 by kernel_rfl)
  have c11 := pEq (fSays_ok ⟨8, 0, 5⟩) (show _ = AV.int .i64 (-1) by kernel_rfl)
  have c12 := pEq (fSize_ok [sP, s8] (by decide)) (show _ = AV.int .i64 5 by kernel_rfl)
  have c13 := fOf_ok rP sP (by decide) (by decide)
  rw [of_P] at c13
  refine PCall.of_awp tok mixed fn19 (Nat.le_of_ble_eq_true rfl) ?_
  (conv => whnf); (repeat' first | ((with_reducible refine Box.mk ?_); conv => whnf) | ((with_reducible refine And.intro (fun _ => ?_) (fun _ => ?_)) <;> conv => whnf) | ((with_reducible show AYld _ _ _ _ _); (refine AYld.of tok mixed ?_); conv => whnf) | ((with_reducible show forceH _ _); (refine (forceH_eq _ _).mpr ?_); conv => whnf) | ((with_reducible show ACall _ _ _ _ _); (refine ACall.of_pure (by assumption) (by rfl) ?_); conv => whnf) | ((with_reducible show Exists _); (refine ⟨_, ACall.of_pure (by assumption) (by rfl) ⟨rfl, rfl⟩, ?_⟩); conv => whnf) | ((with_reducible show _ ∧ _ ∧ _); (refine ⟨by omega, by omega, ?_⟩); conv => whnf) | fail)
  refine aW [0] c1 rfl rfl rfl ?_
  (conv => whnf); (repeat' first | ((with_reducible refine Box.mk ?_); conv => whnf) | ((with_reducible refine And.intro (fun _ => ?_) (fun _ => ?_)) <;> conv => whnf) | ((with_reducible show AYld _ _ _ _ _); (refine AYld.of tok mixed ?_); conv => whnf) | ((with_reducible show forceH _ _); (refine (forceH_eq _ _).mpr ?_); conv => whnf) | ((with_reducible show ACall _ _ _ _ _); (refine ACall.of_pure (by assumption) (by rfl) ?_); conv => whnf) | ((with_reducible show Exists _); (refine ⟨_, ACall.of_pure (by assumption) (by rfl) ⟨rfl, rfl⟩, ?_⟩); conv => whnf) | ((with_reducible show _ ∧ _ ∧ _); (refine ⟨by omega, by omega, ?_⟩); conv => whnf) | fail)
  refine aW [0, 2] c2 rfl rfl rfl ?_
  (conv => whnf); (repeat' first | ((with_reducible refine Box.mk ?_); conv => whnf) | ((with_reducible refine And.intro (fun _ => ?_) (fun _ => ?_)) <;> conv => whnf) | ((with_reducible show AYld _ _ _ _ _); (refine AYld.of tok mixed ?_); conv => whnf) | ((with_reducible show forceH _ _); (refine (forceH_eq _ _).mpr ?_); conv => whnf) | ((with_reducible show ACall _ _ _ _ _); (refine ACall.of_pure (by assumption) (by rfl) ?_); conv => whnf) | ((with_reducible show Exists _); (refine ⟨_, ACall.of_pure (by assumption) (by rfl) ⟨rfl, rfl⟩, ?_⟩); conv => whnf) | ((with_reducible show _ ∧ _ ∧ _); (refine ⟨by omega, by omega, ?_⟩); conv => whnf) | fail)
  refine aW [0, 4] c3 rfl rfl rfl ?_
  (conv => whnf); (repeat' first | ((with_reducible refine Box.mk ?_); conv => whnf) | ((with_reducible refine And.intro (fun _ => ?_) (fun _ => ?_)) <;> conv => whnf) | ((with_reducible show AYld _ _ _ _ _); (refine AYld.of tok mixed ?_); conv => whnf) | ((with_reducible show forceH _ _); (refine (forceH_eq _ _).mpr ?_); conv => whnf) | ((with_reducible show ACall _ _ _ _ _); (refine ACall.of_pure (by assumption) (by rfl) ?_); conv => whnf) | ((with_reducible show Exists _); (refine ⟨_, ACall.of_pure (by assumption) (by rfl) ⟨rfl, rfl⟩, ?_⟩); conv => whnf) | ((with_reducible show _ ∧ _ ∧ _); (refine ⟨by omega, by omega, ?_⟩); conv => whnf) | fail)
  all_goals try (rename_i hbad; exact absurd rfl hbad)
  refine aW [] c4 rfl rfl rfl ?_
  (conv => whnf); (repeat' first | ((with_reducible refine Box.mk ?_); conv => whnf) | ((with_reducible refine And.intro (fun _ => ?_) (fun _ => ?_)) <;> conv => whnf) | ((with_reducible show AYld _ _ _ _ _); (refine AYld.of tok mixed ?_); conv => whnf) | ((with_reducible show forceH _ _); (refine (forceH_eq _ _).mpr ?_); conv => whnf) | ((with_reducible show ACall _ _ _ _ _); (refine ACall.of_pure (by assumption) (by rfl) ?_); conv => whnf) | ((with_reducible show Exists _); (refine ⟨_, ACall.of_pure (by assumption) (by rfl) ⟨rfl, rfl⟩, ?_⟩); conv => whnf) | ((with_reducible show _ ∧ _ ∧ _); (refine ⟨by omega, by omega, ?_⟩); conv => whnf) | fail)
  refine aW [5] c5 rfl rfl rfl ?_
  (conv => whnf); (repeat' first | ((with_reducible refine Box.mk ?_); conv => whnf) | ((with_reducible refine And.intro (fun _ => ?_) (fun _ => ?_)) <;> conv => whnf) | ((with_reducible show AYld _ _ _ _ _); (refine AYld.of tok mixed ?_); conv => whnf) | ((with_reducible show forceH _ _); (refine (forceH_eq _ _).mpr ?_); conv => whnf) | ((with_reducible show ACall _ _ _ _ _); (refine ACall.of_pure (by assumption) (by rfl) ?_); conv => whnf) | ((with_reducible show Exists _); (refine ⟨_, ACall.of_pure (by assumption) (by rfl) ⟨rfl, rfl⟩, ?_⟩); conv => whnf) | ((with_reducible show _ ∧ _ ∧ _); (refine ⟨by omega, by omega, ?_⟩); conv => whnf) | fail)
  refine ⟨[(2004, []), (4, [1]), (1008, []), (9, [1, 3, 5])], by kernel_rfl, ?_⟩
  (conv => whnf); (repeat' first | ((with_reducible refine Box.mk ?_); conv => whnf) | ((with_reducible refine And.intro (fun _ => ?_) (fun _ => ?_)) <;> conv => whnf) | ((with_reducible show AYld _ _ _ _ _); (refine AYld.of tok mixed ?_); conv => whnf) | ((with_reducible show forceH _ _); (refine (forceH_eq _ _).mpr ?_); conv => whnf) | ((with_reducible show ACall _ _ _ _ _); (refine ACall.of_pure (by assumption) (by rfl) ?_); conv => whnf) | ((with_reducible show Exists _); (refine ⟨_, ACall.of_pure (by assumption) (by rfl) ⟨rfl, rfl⟩, ?_⟩); conv => whnf) | ((with_reducible show _ ∧ _ ∧ _); (refine ⟨by omega, by omega, ?_⟩); conv => whnf) | fail)
  refine aDw [5] c6 rfl rfl rfl ?_
  (conv => whnf); (repeat' first | ((with_reducible refine Box.mk ?_); conv => whnf) | ((with_reducible refine And.intro (fun _ => ?_) (fun _ => ?_)) <;> conv => whnf) | ((with_reducible show AYld _ _ _ _ _); (refine AYld.of tok mixed ?_); conv => whnf) | ((with_reducible show forceH _ _); (refine (forceH_eq _ _).mpr ?_); conv => whnf) | ((with_reducible show ACall _ _ _ _ _); (refine ACall.of_pure (by assumption) (by rfl) ?_); conv => whnf) | ((with_reducible show Exists _); (refine ⟨_, ACall.of_pure (by assumption) (by rfl) ⟨rfl, rfl⟩, ?_⟩); conv => whnf) | ((with_reducible show _ ∧ _ ∧ _); (refine ⟨by omega, by omega, ?_⟩); conv => whnf) | fail)
  (refine And.intro ?_ ?_); (focus ((conv => whnf); (repeat' first | exact trivial | ((refine And.intro ?_ ?_); (focus ((conv => whnf); (first | exact ⟨rfl, rfl⟩ | exact ⟨by decide, by decide, rfl, rfl⟩ | exact ⟨by omega, by omega, rfl, rfl⟩ | exact ⟨by (simp only [List.length_drop, List.length_take]; omega), rfl, rfl⟩ | exact ⟨_, rfl, rfl, rfl⟩ | exact ⟨by omega, _, by assumption, rfl, rfl, rfl⟩ | ((refine ACall.of_pure (by assumption) (by rfl) ?_); (refine And.intro ?_ ?_ <;> rfl))))); (conv => whnf)))))
  (conv => whnf); (repeat' first | ((with_reducible refine Box.mk ?_); conv => whnf) | ((with_reducible refine And.intro (fun _ => ?_) (fun _ => ?_)) <;> conv => whnf) | ((with_reducible show AYld _ _ _ _ _); (refine AYld.of tok mixed ?_); conv => whnf) | ((with_reducible show forceH _ _); (refine (forceH_eq _ _).mpr ?_); conv => whnf) | ((with_reducible show ACall _ _ _ _ _); (refine ACall.of_pure (by assumption) (by rfl) ?_); conv => whnf) | ((with_reducible show Exists _); (refine ⟨_, ACall.of_pure (by assumption) (by rfl) ⟨rfl, rfl⟩, ?_⟩); conv => whnf) | ((with_reducible show _ ∧ _ ∧ _); (refine ⟨by omega, by omega, ?_⟩); conv => whnf) | fail)
  (refine And.intro ?_ ?_); (focus ((conv => whnf); (repeat' first | exact trivial | ((refine And.intro ?_ ?_); (focus ((conv => whnf); (first | exact ⟨rfl, rfl⟩ | exact ⟨by decide, by decide, rfl, rfl⟩ | exact ⟨by omega, by omega, rfl, rfl⟩ | exact ⟨by (simp only [List.length_drop, List.length_take]; omega), rfl, rfl⟩ | exact ⟨_, rfl, rfl, rfl⟩ | exact ⟨by omega, _, by assumption, rfl, rfl, rfl⟩ | ((refine ACall.of_pure (by assumption) (by rfl) ?_); (refine And.intro ?_ ?_ <;> rfl))))); (conv => whnf)))))
  (conv => whnf); (repeat' first | ((with_reducible refine Box.mk ?_); conv => whnf) | ((with_reducible refine And.intro (fun _ => ?_) (fun _ => ?_)) <;> conv => whnf) | ((with_reducible show AYld _ _ _ _ _); (refine AYld.of tok mixed ?_); conv => whnf) | ((with_reducible show forceH _ _); (refine (forceH_eq _ _).mpr ?_); conv => whnf) | ((with_reducible show ACall _ _ _ _ _); (refine ACall.of_pure (by assumption) (by rfl) ?_); conv => whnf) | ((with_reducible show Exists _); (refine ⟨_, ACall.of_pure (by assumption) (by rfl) ⟨rfl, rfl⟩, ?_⟩); conv => whnf) | ((with_reducible show _ ∧ _ ∧ _); (refine ⟨by omega, by omega, ?_⟩); conv => whnf) | fail)
  refine ACall.of_view c8 rfl rfl ?_
  (conv => whnf); (repeat' first | ((with_reducible refine Box.mk ?_); conv => whnf) | ((with_reducible refine And.intro (fun _ => ?_) (fun _ => ?_)) <;> conv => whnf) | ((with_reducible show AYld _ _ _ _ _); (refine AYld.of tok mixed ?_); conv => whnf) | ((with_reducible show forceH _ _); (refine (forceH_eq _ _).mpr ?_); conv => whnf) | ((with_reducible show ACall _ _ _ _ _); (refine ACall.of_pure (by assumption) (by rfl) ?_); conv => whnf) | ((with_reducible show Exists _); (refine ⟨_, ACall.of_pure (by assumption) (by rfl) ⟨rfl, rfl⟩, ?_⟩); conv => whnf) | ((with_reducible show _ ∧ _ ∧ _); (refine ⟨by omega, by omega, ?_⟩); conv => whnf) | fail)
  refine aW [5] c9 rfl rfl rfl ?_
  (conv => whnf); (repeat' first | ((with_reducible refine Box.mk ?_); conv => whnf) | ((with_reducible refine And.intro (fun _ => ?_) (fun _ => ?_)) <;> conv => whnf) | ((with_reducible show AYld _ _ _ _ _); (refine AYld.of tok mixed ?_); conv => whnf) | ((with_reducible show forceH _ _); (refine (forceH_eq _ _).mpr ?_); conv => whnf) | ((with_reducible show ACall _ _ _ _ _); (refine ACall.of_pure (by assumption) (by rfl) ?_); conv => whnf) | ((with_reducible show Exists _); (refine ⟨_, ACall.of_pure (by assumption) (by rfl) ⟨rfl, rfl⟩, ?_⟩); conv => whnf) | ((with_reducible show _ ∧ _ ∧ _); (refine ⟨by omega, by omega, ?_⟩); conv => whnf) | fail)
  all_goals try (rename_i hbad; first | exact absurd rfl hbad | exact absurd ⟨rfl, rfl, rfl⟩ hbad)
  refine ⟨by decide, _, rfl, rfl, ?_⟩
  (conv => whnf); (repeat' first | ((with_reducible refine Box.mk ?_); conv => whnf) | ((with_reducible refine And.intro (fun _ => ?_) (fun _ => ?_)) <;> conv => whnf) | ((with_reducible show AYld _ _ _ _ _); (refine AYld.of tok mixed ?_); conv => whnf) | ((with_reducible show forceH _ _); (refine (forceH_eq _ _).mpr ?_); conv => whnf) | ((with_reducible show ACall _ _ _ _ _); (refine ACall.of_pure (by assumption) (by rfl) ?_); conv => whnf) | ((with_reducible show Exists _); (refine ⟨_, ACall.of_pure (by assumption) (by rfl) ⟨rfl, rfl⟩, ?_⟩); conv => whnf) | ((with_reducible show _ ∧ _ ∧ _); (refine ⟨by omega, by omega, ?_⟩); conv => whnf) | fail)
  all_goals try (rename_i hbad; first | exact absurd rfl hbad | exact absurd ⟨rfl, rfl, rfl⟩ hbad)
  refine ⟨by decide, _, rfl, rfl, ?_⟩
  (conv => whnf); (repeat' first | ((with_reducible refine Box.mk ?_); conv => whnf) | ((with_reducible refine And.intro (fun _ => ?_) (fun _ => ?_)) <;> conv => whnf) | ((with_reducible show AYld _ _ _ _ _); (refine AYld.of tok mixed ?_); conv => whnf) | ((with_reducible show forceH _ _); (refine (forceH_eq _ _).mpr ?_); conv => whnf) | ((with_reducible show ACall _ _ _ _ _); (refine ACall.of_pure (by assumption) (by rfl) ?_); conv => whnf) | ((with_reducible show Exists _); (refine ⟨_, ACall.of_pure (by assumption) (by rfl) ⟨rfl, rfl⟩, ?_⟩); conv => whnf) | ((with_reducible show _ ∧ _ ∧ _); (refine ⟨by omega, by omega, ?_⟩); conv => whnf) | fail)
  all_goals try (rename_i hbad; first | exact absurd rfl hbad | exact absurd ⟨rfl, rfl, rfl⟩ hbad)
  refine ACall.of_view c12 rfl rfl ?_
  (conv => whnf); (repeat' first | ((with_reducible refine Box.mk ?_); conv => whnf) | ((with_reducible refine And.intro (fun _ => ?_) (fun _ => ?_)) <;> conv => whnf) | ((with_reducible show AYld _ _ _ _ _); (refine AYld.of tok mixed ?_); conv => whnf) | ((with_reducible show forceH _ _); (refine (forceH_eq _ _).mpr ?_); conv => whnf) | ((with_reducible show ACall _ _ _ _ _); (refine ACall.of_pure (by assumption) (by rfl) ?_); conv => whnf) | ((with_reducible show Exists _); (refine ⟨_, ACall.of_pure (by assumption) (by rfl) ⟨rfl, rfl⟩, ?_⟩); conv => whnf) | ((with_reducible show _ ∧ _ ∧ _); (refine ⟨by omega, by omega, ?_⟩); conv => whnf) | fail)
  all_goals try (rename_i hbad; first | exact absurd rfl hbad | exact absurd ⟨rfl, rfl, rfl⟩ hbad)
  refine aW [] c13 rfl rfl rfl ?_
  (conv => whnf); (repeat' first | ((with_reducible refine Box.mk ?_); conv => whnf) | ((with_reducible refine And.intro (fun _ => ?_) (fun _ => ?_)) <;> conv => whnf) | ((with_reducible show AYld _ _ _ _ _); (refine AYld.of tok mixed ?_); conv => whnf) | ((with_reducible show forceH _ _); (refine (forceH_eq _ _).mpr ?_); conv => whnf) | ((with_reducible show ACall _ _ _ _ _); (refine ACall.of_pure (by assumption) (by rfl) ?_); conv => whnf) | ((with_reducible show Exists _); (refine ⟨_, ACall.of_pure (by assumption) (by rfl) ⟨rfl, rfl⟩, ?_⟩); conv => whnf) | ((with_reducible show _ ∧ _ ∧ _); (refine ⟨by omega, by omega, ?_⟩); conv => whnf) | fail)
  refine ⟨_, rfl, ?_⟩
  (conv => whnf); (repeat' first | ((with_reducible refine Box.mk ?_); conv => whnf) | ((with_reducible refine And.intro (fun _ => ?_) (fun _ => ?_)) <;> conv => whnf) | ((with_reducible show AYld _ _ _ _ _); (refine AYld.of tok mixed ?_); conv => whnf) | ((with_reducible show forceH _ _); (refine (forceH_eq _ _).mpr ?_); conv => whnf) | ((with_reducible show ACall _ _ _ _ _); (refine ACall.of_pure (by assumption) (by rfl) ?_); conv => whnf) | ((with_reducible show Exists _); (refine ⟨_, ACall.of_pure (by assumption) (by rfl) ⟨rfl, rfl⟩, ?_⟩); conv => whnf) | ((with_reducible show _ ∧ _ ∧ _); (refine ⟨by omega, by omega, ?_⟩); conv => whnf) | fail)
  all_goals try (rename_i hbad; first | exact absurd rfl hbad | exact absurd ⟨rfl, rfl, rfl⟩ hbad)
  rfl
end Go.Proofs.YtnajpmepcffnaaaDoor
end

section
/- field: the statement on fields. -/
namespace Go.Proofs.YtnajpmepcffnaaaDoor
open Go.Ve

def specsB (l : List Sc) : Bs := l.flatMap specB
theorem specs_take {l : List Sc} {i : Nat} {s : Sc} (h : l[i]? = some s) : specsB (l.take (i + 1)) = specsB (l.take i) ++ specB s := by
  unfold specsB
  rw [List.take_add_one, h, List.flatMap_append]
  simp
theorem specs_len (l : List Sc) : (specsB l).length ≤ l.length * 8 := by
  unfold specsB
  induction l with
  | nil => exact Nat.zero_le _
  | cons p r ih =>
    have := specB_len p
    rw [List.flatMap_cons, List.length_append, List.length_cons]; omega
set_option maxHeartbeats 8000000 in
theorem FieldSpecs_ok (l : List Sc) (hl : ∀ s ∈ l, EntOk s) (hll : l.length ≤ 1048576) (b : Bs) (hb : b.length ≤ 1048576) : PCall P 3 [.sl (scl l), .sl (bcl b)] (.bool true) := by
  have q0 := alive15_ok
  have hsl := scl_len l
  refine PCall.of_awp tok mixed fn3 (Nat.le_of_ble_eq_true rfl) ?_
  (conv => whnf); (repeat' first | ((with_reducible refine Box.mk ?_); conv => whnf) | ((with_reducible refine And.intro (fun _ => ?_) (fun _ => ?_)) <;> conv => whnf) | ((with_reducible show AYld _ _ _ _ _); (refine AYld.of tok mixed ?_); conv => whnf) | ((with_reducible show forceH _ _); (refine (forceH_eq _ _).mpr ?_); conv => whnf) | ((with_reducible show ACall _ _ _ _ _); (refine ACall.of_pure (by assumption) (by rfl) ?_); conv => whnf) | ((with_reducible show Exists _); (refine ⟨_, ACall.of_pure (by assumption) (by rfl) ⟨rfl, rfl⟩, ?_⟩); conv => whnf) | ((with_reducible show _ ∧ _ ∧ _); (refine ⟨by omega, by omega, ?_⟩); conv => whnf) | fail)
  refine aloop (fun i : Nat => i ≤ l.length) (fun i => ⟨envL [(0, .sl (scl l)), (1, .sl (bcl b)), (5, .ptr 0 0), (6, .own 2), (7, .int .i64 i)], [.box 26 [.own 1], .row 5 1 (bcl (specsB (l.take i))), .row 5 1 (bcl (specsB (l.take i)))]⟩) (fun i => l.length - i) 0 (Nat.zero_le _)
    (by
      refine Weak.trans (s' := ⟨envL [(0, .sl (scl l)), (1, .sl (bcl b)), (5, .ptr 0 0), (6, .nils), (7, .int .i64 0)], [.box 26 [.own 1], .row 5 1 []]⟩) ?_ ?_
      · exact weak_nilrow (l := [(0, .sl (scl l)), (1, .sl (bcl b)), (5, .ptr 0 0), (6, .nils), (7, .int .i64 0)]) (H' := [.box 26 [.own 1]]) 5 1 (by decide) ⟨.inl rfl, .inl rfl, .inl rfl, .inl rfl, .inl rfl, trivial⟩ (nrBox 1 _)
      · exact weak_nilrow (l := [(0, .sl (scl l)), (1, .sl (bcl b)), (5, .ptr 0 0), (6, .own 2), (7, .int .i64 0)]) (H' := [.box 26 [.own 1], .row 5 1 []]) 5 1 (by decide) ⟨.inl rfl, .inl rfl, .inl rfl, .inr ⟨rfl, rfl⟩, .inl rfl, trivial⟩ (nrh_refl _ _)) ?_
  intro i hi
  have hi : i ≤ l.length := hi
  by_cases hil : i < l.length
  · have hg0 : l[i]? = some l[i] := List.getElem?_eq_getElem hil
    have hg := scl_get hg0
    have he := hl _ (List.getElem_mem hil)
    have hst := specs_take hg0
    have hlen := specs_len (l.take i)
    have htl : (l.take i).length ≤ l.length := by rw [List.length_take]; omega
    generalize l[i] = s at *
    have q1 := fRight_ok s
    have q2 := xfRight_ok s
    have q3 := fSays_ok s
    have q4 := xfSays_ok s
    have q5 := fWriteR (specsB (l.take i)) (by omega) s he
    have q6 := xBytes_ok s he
    have hbl := bcl_len (specsB (l.take i))
    have hbs := bcl_len (specB s)
    have hsb := specB_len s
    generalize rightS s = rr at *
    generalize saysS s = sa at *
    (conv => whnf); (repeat' first | ((with_reducible refine Box.mk ?_); conv => whnf) | ((with_reducible refine And.intro (fun _ => ?_) (fun _ => ?_)) <;> conv => whnf) | ((with_reducible show AYld _ _ _ _ _); (refine AYld.of tok mixed ?_); conv => whnf) | ((with_reducible show forceH _ _); (refine (forceH_eq _ _).mpr ?_); conv => whnf) | ((with_reducible show ACall _ _ _ _ _); (refine ACall.of_pure (by assumption) (by rfl) ?_); conv => whnf) | ((with_reducible show Exists _); (refine ⟨_, ACall.of_pure (by assumption) (by rfl) ⟨rfl, rfl⟩, ?_⟩); conv => whnf) | ((with_reducible show _ ∧ _ ∧ _); (refine ⟨by omega, by omega, ?_⟩); conv => whnf) | fail)
    all_goals try (exfalso; omega)
    refine ⟨[], by kernel_rfl, ?_⟩
    (conv => whnf); (repeat' first | ((with_reducible refine Box.mk ?_); conv => whnf) | ((with_reducible refine And.intro (fun _ => ?_) (fun _ => ?_)) <;> conv => whnf) | ((with_reducible show AYld _ _ _ _ _); (refine AYld.of tok mixed ?_); conv => whnf) | ((with_reducible show forceH _ _); (refine (forceH_eq _ _).mpr ?_); conv => whnf) | ((with_reducible show ACall _ _ _ _ _); (refine ACall.of_pure (by assumption) (by rfl) ?_); conv => whnf) | ((with_reducible show Exists _); (refine ⟨_, ACall.of_pure (by assumption) (by rfl) ⟨rfl, rfl⟩, ?_⟩); conv => whnf) | ((with_reducible show _ ∧ _ ∧ _); (refine ⟨by omega, by omega, ?_⟩); conv => whnf) | fail)
    refine ⟨by omega, _, hg, rfl, ?_⟩
    (conv => whnf); (repeat' first | ((with_reducible refine Box.mk ?_); conv => whnf) | ((with_reducible refine And.intro (fun _ => ?_) (fun _ => ?_)) <;> conv => whnf) | ((with_reducible show AYld _ _ _ _ _); (refine AYld.of tok mixed ?_); conv => whnf) | ((with_reducible show forceH _ _); (refine (forceH_eq _ _).mpr ?_); conv => whnf) | ((with_reducible show ACall _ _ _ _ _); (refine ACall.of_pure (by assumption) (by rfl) ?_); conv => whnf) | ((with_reducible show Exists _); (refine ⟨_, ACall.of_pure (by assumption) (by rfl) ⟨rfl, rfl⟩, ?_⟩); conv => whnf) | ((with_reducible show _ ∧ _ ∧ _); (refine ⟨by omega, by omega, ?_⟩); conv => whnf) | fail)
    refine ⟨by omega, _, hg, rfl, ?_⟩
    (conv => whnf); (repeat' first | ((with_reducible refine Box.mk ?_); conv => whnf) | ((with_reducible refine And.intro (fun _ => ?_) (fun _ => ?_)) <;> conv => whnf) | ((with_reducible show AYld _ _ _ _ _); (refine AYld.of tok mixed ?_); conv => whnf) | ((with_reducible show forceH _ _); (refine (forceH_eq _ _).mpr ?_); conv => whnf) | ((with_reducible show ACall _ _ _ _ _); (refine ACall.of_pure (by assumption) (by rfl) ?_); conv => whnf) | ((with_reducible show Exists _); (refine ⟨_, ACall.of_pure (by assumption) (by rfl) ⟨rfl, rfl⟩, ?_⟩); conv => whnf) | ((with_reducible show _ ∧ _ ∧ _); (refine ⟨by omega, by omega, ?_⟩); conv => whnf) | fail)
    all_goals try (rename_i hbad; exact absurd rfl hbad)
    refine ⟨by omega, _, hg, rfl, ?_⟩
    (conv => whnf); (repeat' first | ((with_reducible refine Box.mk ?_); conv => whnf) | ((with_reducible refine And.intro (fun _ => ?_) (fun _ => ?_)) <;> conv => whnf) | ((with_reducible show AYld _ _ _ _ _); (refine AYld.of tok mixed ?_); conv => whnf) | ((with_reducible show forceH _ _); (refine (forceH_eq _ _).mpr ?_); conv => whnf) | ((with_reducible show ACall _ _ _ _ _); (refine ACall.of_pure (by assumption) (by rfl) ?_); conv => whnf) | ((with_reducible show Exists _); (refine ⟨_, ACall.of_pure (by assumption) (by rfl) ⟨rfl, rfl⟩, ?_⟩); conv => whnf) | ((with_reducible show _ ∧ _ ∧ _); (refine ⟨by omega, by omega, ?_⟩); conv => whnf) | fail)
    refine ⟨by omega, _, hg, rfl, ?_⟩
    (conv => whnf); (repeat' first | ((with_reducible refine Box.mk ?_); conv => whnf) | ((with_reducible refine And.intro (fun _ => ?_) (fun _ => ?_)) <;> conv => whnf) | ((with_reducible show AYld _ _ _ _ _); (refine AYld.of tok mixed ?_); conv => whnf) | ((with_reducible show forceH _ _); (refine (forceH_eq _ _).mpr ?_); conv => whnf) | ((with_reducible show ACall _ _ _ _ _); (refine ACall.of_pure (by assumption) (by rfl) ?_); conv => whnf) | ((with_reducible show Exists _); (refine ⟨_, ACall.of_pure (by assumption) (by rfl) ⟨rfl, rfl⟩, ?_⟩); conv => whnf) | ((with_reducible show _ ∧ _ ∧ _); (refine ⟨by omega, by omega, ?_⟩); conv => whnf) | fail)
    all_goals try (rename_i hbad; exact absurd rfl hbad)
    refine ⟨by omega, _, hg, rfl, ?_⟩
    (conv => whnf); (repeat' first | ((with_reducible refine Box.mk ?_); conv => whnf) | ((with_reducible refine And.intro (fun _ => ?_) (fun _ => ?_)) <;> conv => whnf) | ((with_reducible show AYld _ _ _ _ _); (refine AYld.of tok mixed ?_); conv => whnf) | ((with_reducible show forceH _ _); (refine (forceH_eq _ _).mpr ?_); conv => whnf) | ((with_reducible show ACall _ _ _ _ _); (refine ACall.of_pure (by assumption) (by rfl) ?_); conv => whnf) | ((with_reducible show Exists _); (refine ⟨_, ACall.of_pure (by assumption) (by rfl) ⟨rfl, rfl⟩, ?_⟩); conv => whnf) | ((with_reducible show _ ∧ _ ∧ _); (refine ⟨by omega, by omega, ?_⟩); conv => whnf) | fail)
    refine aW [0, 1] q5 rfl rfl rfl ?_
    (conv => whnf); (repeat' first | ((with_reducible refine Box.mk ?_); conv => whnf) | ((with_reducible refine And.intro (fun _ => ?_) (fun _ => ?_)) <;> conv => whnf) | ((with_reducible show AYld _ _ _ _ _); (refine AYld.of tok mixed ?_); conv => whnf) | ((with_reducible show forceH _ _); (refine (forceH_eq _ _).mpr ?_); conv => whnf) | ((with_reducible show ACall _ _ _ _ _); (refine ACall.of_pure (by assumption) (by rfl) ?_); conv => whnf) | ((with_reducible show Exists _); (refine ⟨_, ACall.of_pure (by assumption) (by rfl) ⟨rfl, rfl⟩, ?_⟩); conv => whnf) | ((with_reducible show _ ∧ _ ∧ _); (refine ⟨by omega, by omega, ?_⟩); conv => whnf) | fail)
    refine ⟨by omega, _, hg, rfl, ?_⟩
    (conv => whnf); (repeat' first | ((with_reducible refine Box.mk ?_); conv => whnf) | ((with_reducible refine And.intro (fun _ => ?_) (fun _ => ?_)) <;> conv => whnf) | ((with_reducible show AYld _ _ _ _ _); (refine AYld.of tok mixed ?_); conv => whnf) | ((with_reducible show forceH _ _); (refine (forceH_eq _ _).mpr ?_); conv => whnf) | ((with_reducible show ACall _ _ _ _ _); (refine ACall.of_pure (by assumption) (by rfl) ?_); conv => whnf) | ((with_reducible show Exists _); (refine ⟨_, ACall.of_pure (by assumption) (by rfl) ⟨rfl, rfl⟩, ?_⟩); conv => whnf) | ((with_reducible show _ ∧ _ ∧ _); (refine ⟨by omega, by omega, ?_⟩); conv => whnf) | fail)
    refine aW [] q6 rfl rfl rfl ?_
    (conv => whnf); (repeat' first | ((with_reducible refine Box.mk ?_); conv => whnf) | ((with_reducible refine And.intro (fun _ => ?_) (fun _ => ?_)) <;> conv => whnf) | ((with_reducible show AYld _ _ _ _ _); (refine AYld.of tok mixed ?_); conv => whnf) | ((with_reducible show forceH _ _); (refine (forceH_eq _ _).mpr ?_); conv => whnf) | ((with_reducible show ACall _ _ _ _ _); (refine ACall.of_pure (by assumption) (by rfl) ?_); conv => whnf) | ((with_reducible show Exists _); (refine ⟨_, ACall.of_pure (by assumption) (by rfl) ⟨rfl, rfl⟩, ?_⟩); conv => whnf) | ((with_reducible show _ ∧ _ ∧ _); (refine ⟨by omega, by omega, ?_⟩); conv => whnf) | fail)
    refine ⟨bcl_cells _, by rw [hbl, hbs]; show _ * 1 ≤ _; omega, by rw [hbl, hbs]; omega, ?_⟩
    (conv => whnf); (repeat' first | ((with_reducible refine Box.mk ?_); conv => whnf) | ((with_reducible refine And.intro (fun _ => ?_) (fun _ => ?_)) <;> conv => whnf) | ((with_reducible show AYld _ _ _ _ _); (refine AYld.of tok mixed ?_); conv => whnf) | ((with_reducible show forceH _ _); (refine (forceH_eq _ _).mpr ?_); conv => whnf) | ((with_reducible show ACall _ _ _ _ _); (refine ACall.of_pure (by assumption) (by rfl) ?_); conv => whnf) | ((with_reducible show Exists _); (refine ⟨_, ACall.of_pure (by assumption) (by rfl) ⟨rfl, rfl⟩, ?_⟩); conv => whnf) | ((with_reducible show _ ∧ _ ∧ _); (refine ⟨by omega, by omega, ?_⟩); conv => whnf) | fail)
    refine ⟨i + 1, hil, by show l.length - (i + 1) < l.length - i; omega, weak_ren_to [(0, true), (3, true), (4, true)] rfl rfl ?_ ⟨rfl, rfl, rfl, rfl, wrap_nat (m := 1) (by omega), trivial⟩⟩
    rw [hst, bcl_app]; rfl
  · have hi2 : i = l.length := by omega
    subst hi2
    have hfull : l.take l.length = l := List.take_length
    have hlen := specs_len l
    have q1 := from_sl b (by omega)
    have q2 := wBytesR (specsB l) (by omega)
    have q3 := fSize_ok l (by omega)
    have q4 := xfSize_ok l (by omega)
    rw [hfull]
    generalize specsB l = W at *
    generalize sizesF l = z at *
    (conv => whnf); (repeat' first | ((with_reducible refine Box.mk ?_); conv => whnf) | ((with_reducible refine And.intro (fun _ => ?_) (fun _ => ?_)) <;> conv => whnf) | ((with_reducible show AYld _ _ _ _ _); (refine AYld.of tok mixed ?_); conv => whnf) | ((with_reducible show forceH _ _); (refine (forceH_eq _ _).mpr ?_); conv => whnf) | ((with_reducible show ACall _ _ _ _ _); (refine ACall.of_pure (by assumption) (by rfl) ?_); conv => whnf) | ((with_reducible show Exists _); (refine ⟨_, ACall.of_pure (by assumption) (by rfl) ⟨rfl, rfl⟩, ?_⟩); conv => whnf) | ((with_reducible show _ ∧ _ ∧ _); (refine ⟨by omega, by omega, ?_⟩); conv => whnf) | fail)
    all_goals try (exfalso; omega)
    refine aW [] q1 rfl rfl rfl ?_
    (conv => whnf); (repeat' first | ((with_reducible refine Box.mk ?_); conv => whnf) | ((with_reducible refine And.intro (fun _ => ?_) (fun _ => ?_)) <;> conv => whnf) | ((with_reducible show AYld _ _ _ _ _); (refine AYld.of tok mixed ?_); conv => whnf) | ((with_reducible show forceH _ _); (refine (forceH_eq _ _).mpr ?_); conv => whnf) | ((with_reducible show ACall _ _ _ _ _); (refine ACall.of_pure (by assumption) (by rfl) ?_); conv => whnf) | ((with_reducible show Exists _); (refine ⟨_, ACall.of_pure (by assumption) (by rfl) ⟨rfl, rfl⟩, ?_⟩); conv => whnf) | ((with_reducible show _ ∧ _ ∧ _); (refine ⟨by omega, by omega, ?_⟩); conv => whnf) | fail)
    refine aloop (fun x : Nat × Bs × Bs × Int => x.1 ≤ 3 ∧ x.2.1 ++ x.2.2.1 = b) (fun x => ⟨envL [(0, .sl (scl l)), (5, .ptr 0 0), (6, .own 2), (8, .ptr 3 0), (9, .ptr 4 0), (10, .int .i64 x.1)], [.box 26 [.own 1], .row 5 1 (bcl W), .row 5 1 (bcl W)] ++ rH x.2.2.1 x.2.2.2 ++ xH x.2.1 x.2.2.1 x.2.2.2⟩) (fun x => 3 - x.1) (0, [], b, 0) ⟨Nat.zero_le _, rfl⟩ (weak_to ⟨rfl, rfl, rfl, rfl, rfl, rfl, trivial⟩ rfl) ?_
    rintro ⟨k, pre, bs, e⟩ ⟨hk, hpre⟩
    have hk : k ≤ 3 := hk
    have hpre : pre ++ bs = b := hpre
    by_cases hk3 : k < 3
    · have hbs : bs.length ≤ 1048576 := by rw [← hpre, List.length_append] at hb; omega
      have r1 := fRead_ok bs e (by omega)
      obtain ⟨pre', hp', r2⟩ := xfRead_ok pre bs e (by rw [hpre]; omega)
      generalize readF bs e = zz at *
      obtain ⟨s, bs', e'⟩ := zz
      dsimp only at r1 r2 hp'
      have r3 := rEnd_ok bs' e'
      have r4 := xEnd_ok pre' bs' e' (by rw [hp', hpre]; omega)
      (conv => whnf); (repeat' first | ((with_reducible refine Box.mk ?_); conv => whnf) | ((with_reducible refine And.intro (fun _ => ?_) (fun _ => ?_)) <;> conv => whnf) | ((with_reducible show AYld _ _ _ _ _); (refine AYld.of tok mixed ?_); conv => whnf) | ((with_reducible show forceH _ _); (refine (forceH_eq _ _).mpr ?_); conv => whnf) | ((with_reducible show ACall _ _ _ _ _); (refine ACall.of_pure (by assumption) (by rfl) ?_); conv => whnf) | ((with_reducible show Exists _); (refine ⟨_, ACall.of_pure (by assumption) (by rfl) ⟨rfl, rfl⟩, ?_⟩); conv => whnf) | ((with_reducible show _ ∧ _ ∧ _); (refine ⟨by omega, by omega, ?_⟩); conv => whnf) | fail)
      all_goals try (exfalso; omega)
      refine aW [3] r1 rfl rfl rfl ?_
      (conv => whnf); (repeat' first | ((with_reducible refine Box.mk ?_); conv => whnf) | ((with_reducible refine And.intro (fun _ => ?_) (fun _ => ?_)) <;> conv => whnf) | ((with_reducible show AYld _ _ _ _ _); (refine AYld.of tok mixed ?_); conv => whnf) | ((with_reducible show forceH _ _); (refine (forceH_eq _ _).mpr ?_); conv => whnf) | ((with_reducible show ACall _ _ _ _ _); (refine ACall.of_pure (by assumption) (by rfl) ?_); conv => whnf) | ((with_reducible show Exists _); (refine ⟨_, ACall.of_pure (by assumption) (by rfl) ⟨rfl, rfl⟩, ?_⟩); conv => whnf) | ((with_reducible show _ ∧ _ ∧ _); (refine ⟨by omega, by omega, ?_⟩); conv => whnf) | fail)
      refine aW [4] r2 rfl rfl rfl ?_
      (conv => whnf); (repeat' first | ((with_reducible refine Box.mk ?_); conv => whnf) | ((with_reducible refine And.intro (fun _ => ?_) (fun _ => ?_)) <;> conv => whnf) | ((with_reducible show AYld _ _ _ _ _); (refine AYld.of tok mixed ?_); conv => whnf) | ((with_reducible show forceH _ _); (refine (forceH_eq _ _).mpr ?_); conv => whnf) | ((with_reducible show ACall _ _ _ _ _); (refine ACall.of_pure (by assumption) (by rfl) ?_); conv => whnf) | ((with_reducible show Exists _); (refine ⟨_, ACall.of_pure (by assumption) (by rfl) ⟨rfl, rfl⟩, ?_⟩); conv => whnf) | ((with_reducible show _ ∧ _ ∧ _); (refine ⟨by omega, by omega, ?_⟩); conv => whnf) | fail)
      all_goals try (rename_i hbad; exact absurd ⟨rfl, rfl, rfl⟩ hbad)
      refine aW [3] r3 rfl rfl rfl ?_
      (conv => whnf); (repeat' first | ((with_reducible refine Box.mk ?_); conv => whnf) | ((with_reducible refine And.intro (fun _ => ?_) (fun _ => ?_)) <;> conv => whnf) | ((with_reducible show AYld _ _ _ _ _); (refine AYld.of tok mixed ?_); conv => whnf) | ((with_reducible show forceH _ _); (refine (forceH_eq _ _).mpr ?_); conv => whnf) | ((with_reducible show ACall _ _ _ _ _); (refine ACall.of_pure (by assumption) (by rfl) ?_); conv => whnf) | ((with_reducible show Exists _); (refine ⟨_, ACall.of_pure (by assumption) (by rfl) ⟨rfl, rfl⟩, ?_⟩); conv => whnf) | ((with_reducible show _ ∧ _ ∧ _); (refine ⟨by omega, by omega, ?_⟩); conv => whnf) | fail)
      refine aW [4] r4 rfl rfl rfl ?_
      (conv => whnf); (repeat' first | ((with_reducible refine Box.mk ?_); conv => whnf) | ((with_reducible refine And.intro (fun _ => ?_) (fun _ => ?_)) <;> conv => whnf) | ((with_reducible show AYld _ _ _ _ _); (refine AYld.of tok mixed ?_); conv => whnf) | ((with_reducible show forceH _ _); (refine (forceH_eq _ _).mpr ?_); conv => whnf) | ((with_reducible show ACall _ _ _ _ _); (refine ACall.of_pure (by assumption) (by rfl) ?_); conv => whnf) | ((with_reducible show Exists _); (refine ⟨_, ACall.of_pure (by assumption) (by rfl) ⟨rfl, rfl⟩, ?_⟩); conv => whnf) | ((with_reducible show _ ∧ _ ∧ _); (refine ⟨by omega, by omega, ?_⟩); conv => whnf) | fail)
      all_goals try (rename_i hbad; exact absurd rfl hbad)
      exact ⟨(k + 1, pre', bs', e'), ⟨hk3, hp'.trans hpre⟩, by show 3 - (k + 1) < 3 - k; omega, weak_to ⟨rfl, rfl, rfl, rfl, rfl, wrap_nat (m := 1) (by omega), trivial⟩ rfl⟩
    · (conv => whnf); (repeat' first | ((with_reducible refine Box.mk ?_); conv => whnf) | ((with_reducible refine And.intro (fun _ => ?_) (fun _ => ?_)) <;> conv => whnf) | ((with_reducible show AYld _ _ _ _ _); (refine AYld.of tok mixed ?_); conv => whnf) | ((with_reducible show forceH _ _); (refine (forceH_eq _ _).mpr ?_); conv => whnf) | ((with_reducible show ACall _ _ _ _ _); (refine ACall.of_pure (by assumption) (by rfl) ?_); conv => whnf) | ((with_reducible show Exists _); (refine ⟨_, ACall.of_pure (by assumption) (by rfl) ⟨rfl, rfl⟩, ?_⟩); conv => whnf) | ((with_reducible show _ ∧ _ ∧ _); (refine ⟨by omega, by omega, ?_⟩); conv => whnf) | fail)
      all_goals try (exfalso; omega)
      refine ⟨[], by kernel_rfl, ?_⟩
      (conv => whnf); (repeat' first | ((with_reducible refine Box.mk ?_); conv => whnf) | ((with_reducible refine And.intro (fun _ => ?_) (fun _ => ?_)) <;> conv => whnf) | ((with_reducible show AYld _ _ _ _ _); (refine AYld.of tok mixed ?_); conv => whnf) | ((with_reducible show forceH _ _); (refine (forceH_eq _ _).mpr ?_); conv => whnf) | ((with_reducible show ACall _ _ _ _ _); (refine ACall.of_pure (by assumption) (by rfl) ?_); conv => whnf) | ((with_reducible show Exists _); (refine ⟨_, ACall.of_pure (by assumption) (by rfl) ⟨rfl, rfl⟩, ?_⟩); conv => whnf) | ((with_reducible show _ ∧ _ ∧ _); (refine ⟨by omega, by omega, ?_⟩); conv => whnf) | fail)
      refine aDr [0, 1] q2 rfl rfl rfl rfl ?_
      (conv => whnf); (repeat' first | ((with_reducible refine Box.mk ?_); conv => whnf) | ((with_reducible refine And.intro (fun _ => ?_) (fun _ => ?_)) <;> conv => whnf) | ((with_reducible show AYld _ _ _ _ _); (refine AYld.of tok mixed ?_); conv => whnf) | ((with_reducible show forceH _ _); (refine (forceH_eq _ _).mpr ?_); conv => whnf) | ((with_reducible show ACall _ _ _ _ _); (refine ACall.of_pure (by assumption) (by rfl) ?_); conv => whnf) | ((with_reducible show Exists _); (refine ⟨_, ACall.of_pure (by assumption) (by rfl) ⟨rfl, rfl⟩, ?_⟩); conv => whnf) | ((with_reducible show _ ∧ _ ∧ _); (refine ⟨by omega, by omega, ?_⟩); conv => whnf) | fail)
      refine ⟨_, rfl, ?_⟩
      (conv => whnf); (repeat' first | ((with_reducible refine Box.mk ?_); conv => whnf) | ((with_reducible refine And.intro (fun _ => ?_) (fun _ => ?_)) <;> conv => whnf) | ((with_reducible show AYld _ _ _ _ _); (refine AYld.of tok mixed ?_); conv => whnf) | ((with_reducible show forceH _ _); (refine (forceH_eq _ _).mpr ?_); conv => whnf) | ((with_reducible show ACall _ _ _ _ _); (refine ACall.of_pure (by assumption) (by rfl) ?_); conv => whnf) | ((with_reducible show Exists _); (refine ⟨_, ACall.of_pure (by assumption) (by rfl) ⟨rfl, rfl⟩, ?_⟩); conv => whnf) | ((with_reducible show _ ∧ _ ∧ _); (refine ⟨by omega, by omega, ?_⟩); conv => whnf) | fail)
      refine ⟨_, rfl, ?_⟩
      (conv => whnf); (repeat' first | ((with_reducible refine Box.mk ?_); conv => whnf) | ((with_reducible refine And.intro (fun _ => ?_) (fun _ => ?_)) <;> conv => whnf) | ((with_reducible show AYld _ _ _ _ _); (refine AYld.of tok mixed ?_); conv => whnf) | ((with_reducible show forceH _ _); (refine (forceH_eq _ _).mpr ?_); conv => whnf) | ((with_reducible show ACall _ _ _ _ _); (refine ACall.of_pure (by assumption) (by rfl) ?_); conv => whnf) | ((with_reducible show Exists _); (refine ⟨_, ACall.of_pure (by assumption) (by rfl) ⟨rfl, rfl⟩, ?_⟩); conv => whnf) | ((with_reducible show _ ∧ _ ∧ _); (refine ⟨by omega, by omega, ?_⟩); conv => whnf) | fail)
      all_goals try (rename_i hbad; exact absurd rfl hbad)
      all_goals rfl
end Go.Proofs.YtnajpmepcffnaaaDoor
end

section
/- field: the statement on values. -/
namespace Go.Proofs.YtnajpmepcffnaaaDoor
open Go.Ve

set_option maxHeartbeats 8000000 in
theorem FieldValues_ok (s : Sc) (b v : Bs) (hb : b.length ≤ 1048576) (hv : v.length ≤ 1048576) : PCall P 4 [sv s, .sl (bcl b), .sl (bcl v)] (.bool true) := by
  have q0 := alive15_ok
  have q1 := from_sl b (by omega)
  have r1 := fValue_ok s b 0 (by omega)
  obtain ⟨pre', hp', r2⟩ := xfValue_ok s [] b 0 (by show b.length ≤ _; omega)
  generalize valueF s b 0 = zz at *
  obtain ⟨u, bs', e'⟩ := zz
  dsimp only at r1 r2 hp'
  have r3 := rEnd_ok bs' e'
  have r4 := xEnd_ok pre' bs' e' (by rw [hp']; show b.length ≤ _; omega)
  have p1 := fPutN s v (by omega)
  have p2 := xfPut_ok s v (by omega)
  have p4 := putB_len s v
  have p3 := wBytesR (putB s v) (by omega)
  refine PCall.of_awp tok mixed fn4 (Nat.le_of_ble_eq_true rfl) ?_
  (conv => whnf); (repeat' first | ((with_reducible refine Box.mk ?_); conv => whnf) | ((with_reducible refine And.intro (fun _ => ?_) (fun _ => ?_)) <;> conv => whnf) | ((with_reducible show AYld _ _ _ _ _); (refine AYld.of tok mixed ?_); conv => whnf) | ((with_reducible show forceH _ _); (refine (forceH_eq _ _).mpr ?_); conv => whnf) | ((with_reducible show ACall _ _ _ _ _); (refine ACall.of_pure (by assumption) (by rfl) ?_); conv => whnf) | ((with_reducible show Exists _); (refine ⟨_, ACall.of_pure (by assumption) (by rfl) ⟨rfl, rfl⟩, ?_⟩); conv => whnf) | ((with_reducible show _ ∧ _ ∧ _); (refine ⟨by omega, by omega, ?_⟩); conv => whnf) | fail)
  all_goals try (exfalso; omega)
  refine aW [] q1 rfl rfl rfl ?_
  (conv => whnf); (repeat' first | ((with_reducible refine Box.mk ?_); conv => whnf) | ((with_reducible refine And.intro (fun _ => ?_) (fun _ => ?_)) <;> conv => whnf) | ((with_reducible show AYld _ _ _ _ _); (refine AYld.of tok mixed ?_); conv => whnf) | ((with_reducible show forceH _ _); (refine (forceH_eq _ _).mpr ?_); conv => whnf) | ((with_reducible show ACall _ _ _ _ _); (refine ACall.of_pure (by assumption) (by rfl) ?_); conv => whnf) | ((with_reducible show Exists _); (refine ⟨_, ACall.of_pure (by assumption) (by rfl) ⟨rfl, rfl⟩, ?_⟩); conv => whnf) | ((with_reducible show _ ∧ _ ∧ _); (refine ⟨by omega, by omega, ?_⟩); conv => whnf) | fail)
  refine ⟨[(2002, []), (2006, []), (3005, [2]), (6, [3])], by kernel_rfl, ?_⟩
  (conv => whnf); (repeat' first | ((with_reducible refine Box.mk ?_); conv => whnf) | ((with_reducible refine And.intro (fun _ => ?_) (fun _ => ?_)) <;> conv => whnf) | ((with_reducible show AYld _ _ _ _ _); (refine AYld.of tok mixed ?_); conv => whnf) | ((with_reducible show forceH _ _); (refine (forceH_eq _ _).mpr ?_); conv => whnf) | ((with_reducible show ACall _ _ _ _ _); (refine ACall.of_pure (by assumption) (by rfl) ?_); conv => whnf) | ((with_reducible show Exists _); (refine ⟨_, ACall.of_pure (by assumption) (by rfl) ⟨rfl, rfl⟩, ?_⟩); conv => whnf) | ((with_reducible show _ ∧ _ ∧ _); (refine ⟨by omega, by omega, ?_⟩); conv => whnf) | fail)
  refine aDw [1] r1 rfl rfl rfl ?_
  (conv => whnf); (repeat' first | ((with_reducible refine Box.mk ?_); conv => whnf) | ((with_reducible refine And.intro (fun _ => ?_) (fun _ => ?_)) <;> conv => whnf) | ((with_reducible show AYld _ _ _ _ _); (refine AYld.of tok mixed ?_); conv => whnf) | ((with_reducible show forceH _ _); (refine (forceH_eq _ _).mpr ?_); conv => whnf) | ((with_reducible show ACall _ _ _ _ _); (refine ACall.of_pure (by assumption) (by rfl) ?_); conv => whnf) | ((with_reducible show Exists _); (refine ⟨_, ACall.of_pure (by assumption) (by rfl) ⟨rfl, rfl⟩, ?_⟩); conv => whnf) | ((with_reducible show _ ∧ _ ∧ _); (refine ⟨by omega, by omega, ?_⟩); conv => whnf) | fail)
  refine ⟨_, rfl, ?_⟩
  (conv => whnf); (repeat' first | ((with_reducible refine Box.mk ?_); conv => whnf) | ((with_reducible refine And.intro (fun _ => ?_) (fun _ => ?_)) <;> conv => whnf) | ((with_reducible show AYld _ _ _ _ _); (refine AYld.of tok mixed ?_); conv => whnf) | ((with_reducible show forceH _ _); (refine (forceH_eq _ _).mpr ?_); conv => whnf) | ((with_reducible show ACall _ _ _ _ _); (refine ACall.of_pure (by assumption) (by rfl) ?_); conv => whnf) | ((with_reducible show Exists _); (refine ⟨_, ACall.of_pure (by assumption) (by rfl) ⟨rfl, rfl⟩, ?_⟩); conv => whnf) | ((with_reducible show _ ∧ _ ∧ _); (refine ⟨by omega, by omega, ?_⟩); conv => whnf) | fail)
  (refine And.intro ?_ ?_); (focus ((conv => whnf); (repeat' first | exact trivial | ((refine And.intro ?_ ?_); (focus ((conv => whnf); (first | exact ⟨rfl, rfl⟩ | exact ⟨by decide, by decide, rfl, rfl⟩ | exact ⟨by omega, by omega, rfl, rfl⟩ | exact ⟨by (simp only [List.length_drop, List.length_take]; omega), rfl, rfl⟩ | exact ⟨_, rfl, rfl, rfl⟩ | exact ⟨by omega, _, by assumption, rfl, rfl, rfl⟩ | ((refine ACall.of_pure (by assumption) (by rfl) ?_); (refine And.intro ?_ ?_ <;> rfl))))); (conv => whnf)))))
  (conv => whnf); (repeat' first | ((with_reducible refine Box.mk ?_); conv => whnf) | ((with_reducible refine And.intro (fun _ => ?_) (fun _ => ?_)) <;> conv => whnf) | ((with_reducible show AYld _ _ _ _ _); (refine AYld.of tok mixed ?_); conv => whnf) | ((with_reducible show forceH _ _); (refine (forceH_eq _ _).mpr ?_); conv => whnf) | ((with_reducible show ACall _ _ _ _ _); (refine ACall.of_pure (by assumption) (by rfl) ?_); conv => whnf) | ((with_reducible show Exists _); (refine ⟨_, ACall.of_pure (by assumption) (by rfl) ⟨rfl, rfl⟩, ?_⟩); conv => whnf) | ((with_reducible show _ ∧ _ ∧ _); (refine ⟨by omega, by omega, ?_⟩); conv => whnf) | fail)
  refine aDw [2] r2 rfl rfl rfl ?_
  (conv => whnf); (repeat' first | ((with_reducible refine Box.mk ?_); conv => whnf) | ((with_reducible refine And.intro (fun _ => ?_) (fun _ => ?_)) <;> conv => whnf) | ((with_reducible show AYld _ _ _ _ _); (refine AYld.of tok mixed ?_); conv => whnf) | ((with_reducible show forceH _ _); (refine (forceH_eq _ _).mpr ?_); conv => whnf) | ((with_reducible show ACall _ _ _ _ _); (refine ACall.of_pure (by assumption) (by rfl) ?_); conv => whnf) | ((with_reducible show Exists _); (refine ⟨_, ACall.of_pure (by assumption) (by rfl) ⟨rfl, rfl⟩, ?_⟩); conv => whnf) | ((with_reducible show _ ∧ _ ∧ _); (refine ⟨by omega, by omega, ?_⟩); conv => whnf) | fail)
  (refine And.intro ?_ ?_); (focus ((conv => whnf); (repeat' first | exact trivial | ((refine And.intro ?_ ?_); (focus ((conv => whnf); (first | exact ⟨rfl, rfl⟩ | exact ⟨by decide, by decide, rfl, rfl⟩ | exact ⟨by omega, by omega, rfl, rfl⟩ | exact ⟨by (simp only [List.length_drop, List.length_take]; omega), rfl, rfl⟩ | exact ⟨_, rfl, rfl, rfl⟩ | exact ⟨by omega, _, by assumption, rfl, rfl, rfl⟩ | ((refine ACall.of_pure (by assumption) (by rfl) ?_); (refine And.intro ?_ ?_ <;> rfl))))); (conv => whnf)))))
  (conv => whnf); (repeat' first | ((with_reducible refine Box.mk ?_); conv => whnf) | ((with_reducible refine And.intro (fun _ => ?_) (fun _ => ?_)) <;> conv => whnf) | ((with_reducible show AYld _ _ _ _ _); (refine AYld.of tok mixed ?_); conv => whnf) | ((with_reducible show forceH _ _); (refine (forceH_eq _ _).mpr ?_); conv => whnf) | ((with_reducible show ACall _ _ _ _ _); (refine ACall.of_pure (by assumption) (by rfl) ?_); conv => whnf) | ((with_reducible show Exists _); (refine ⟨_, ACall.of_pure (by assumption) (by rfl) ⟨rfl, rfl⟩, ?_⟩); conv => whnf) | ((with_reducible show _ ∧ _ ∧ _); (refine ⟨by omega, by omega, ?_⟩); conv => whnf) | fail)
  refine ⟨_, rfl, ?_⟩
  (conv => whnf); (repeat' first | ((with_reducible refine Box.mk ?_); conv => whnf) | ((with_reducible refine And.intro (fun _ => ?_) (fun _ => ?_)) <;> conv => whnf) | ((with_reducible show AYld _ _ _ _ _); (refine AYld.of tok mixed ?_); conv => whnf) | ((with_reducible show forceH _ _); (refine (forceH_eq _ _).mpr ?_); conv => whnf) | ((with_reducible show ACall _ _ _ _ _); (refine ACall.of_pure (by assumption) (by rfl) ?_); conv => whnf) | ((with_reducible show Exists _); (refine ⟨_, ACall.of_pure (by assumption) (by rfl) ⟨rfl, rfl⟩, ?_⟩); conv => whnf) | ((with_reducible show _ ∧ _ ∧ _); (refine ⟨by omega, by omega, ?_⟩); conv => whnf) | fail)
  all_goals try (rename_i hbad; exact absurd rfl hbad)
  refine aDr [1] r3 rfl rfl rfl rfl ?_
  (conv => whnf); (repeat' first | ((with_reducible refine Box.mk ?_); conv => whnf) | ((with_reducible refine And.intro (fun _ => ?_) (fun _ => ?_)) <;> conv => whnf) | ((with_reducible show AYld _ _ _ _ _); (refine AYld.of tok mixed ?_); conv => whnf) | ((with_reducible show forceH _ _); (refine (forceH_eq _ _).mpr ?_); conv => whnf) | ((with_reducible show ACall _ _ _ _ _); (refine ACall.of_pure (by assumption) (by rfl) ?_); conv => whnf) | ((with_reducible show Exists _); (refine ⟨_, ACall.of_pure (by assumption) (by rfl) ⟨rfl, rfl⟩, ?_⟩); conv => whnf) | ((with_reducible show _ ∧ _ ∧ _); (refine ⟨by omega, by omega, ?_⟩); conv => whnf) | fail)
  refine aDr [2] r4 rfl rfl rfl rfl ?_
  (conv => whnf); (repeat' first | ((with_reducible refine Box.mk ?_); conv => whnf) | ((with_reducible refine And.intro (fun _ => ?_) (fun _ => ?_)) <;> conv => whnf) | ((with_reducible show AYld _ _ _ _ _); (refine AYld.of tok mixed ?_); conv => whnf) | ((with_reducible show forceH _ _); (refine (forceH_eq _ _).mpr ?_); conv => whnf) | ((with_reducible show ACall _ _ _ _ _); (refine ACall.of_pure (by assumption) (by rfl) ?_); conv => whnf) | ((with_reducible show Exists _); (refine ⟨_, ACall.of_pure (by assumption) (by rfl) ⟨rfl, rfl⟩, ?_⟩); conv => whnf) | ((with_reducible show _ ∧ _ ∧ _); (refine ⟨by omega, by omega, ?_⟩); conv => whnf) | fail)
  all_goals try (rename_i hbad; exact absurd rfl hbad)
  refine aW [3] p1 rfl rfl rfl ?_
  (conv => whnf); (repeat' first | ((with_reducible refine Box.mk ?_); conv => whnf) | ((with_reducible refine And.intro (fun _ => ?_) (fun _ => ?_)) <;> conv => whnf) | ((with_reducible show AYld _ _ _ _ _); (refine AYld.of tok mixed ?_); conv => whnf) | ((with_reducible show forceH _ _); (refine (forceH_eq _ _).mpr ?_); conv => whnf) | ((with_reducible show ACall _ _ _ _ _); (refine ACall.of_pure (by assumption) (by rfl) ?_); conv => whnf) | ((with_reducible show Exists _); (refine ⟨_, ACall.of_pure (by assumption) (by rfl) ⟨rfl, rfl⟩, ?_⟩); conv => whnf) | ((with_reducible show _ ∧ _ ∧ _); (refine ⟨by omega, by omega, ?_⟩); conv => whnf) | fail)
  refine ⟨[], by kernel_rfl, ?_⟩
  (conv => whnf); (repeat' first | ((with_reducible refine Box.mk ?_); conv => whnf) | ((with_reducible refine And.intro (fun _ => ?_) (fun _ => ?_)) <;> conv => whnf) | ((with_reducible show AYld _ _ _ _ _); (refine AYld.of tok mixed ?_); conv => whnf) | ((with_reducible show forceH _ _); (refine (forceH_eq _ _).mpr ?_); conv => whnf) | ((with_reducible show ACall _ _ _ _ _); (refine ACall.of_pure (by assumption) (by rfl) ?_); conv => whnf) | ((with_reducible show Exists _); (refine ⟨_, ACall.of_pure (by assumption) (by rfl) ⟨rfl, rfl⟩, ?_⟩); conv => whnf) | ((with_reducible show _ ∧ _ ∧ _); (refine ⟨by omega, by omega, ?_⟩); conv => whnf) | fail)
  refine aDr [3, 4] p3 rfl rfl rfl rfl ?_
  (conv => whnf); (repeat' first | ((with_reducible refine Box.mk ?_); conv => whnf) | ((with_reducible refine And.intro (fun _ => ?_) (fun _ => ?_)) <;> conv => whnf) | ((with_reducible show AYld _ _ _ _ _); (refine AYld.of tok mixed ?_); conv => whnf) | ((with_reducible show forceH _ _); (refine (forceH_eq _ _).mpr ?_); conv => whnf) | ((with_reducible show ACall _ _ _ _ _); (refine ACall.of_pure (by assumption) (by rfl) ?_); conv => whnf) | ((with_reducible show Exists _); (refine ⟨_, ACall.of_pure (by assumption) (by rfl) ⟨rfl, rfl⟩, ?_⟩); conv => whnf) | ((with_reducible show _ ∧ _ ∧ _); (refine ⟨by omega, by omega, ?_⟩); conv => whnf) | fail)
  refine ⟨_, rfl, ?_⟩
  (conv => whnf); (repeat' first | ((with_reducible refine Box.mk ?_); conv => whnf) | ((with_reducible refine And.intro (fun _ => ?_) (fun _ => ?_)) <;> conv => whnf) | ((with_reducible show AYld _ _ _ _ _); (refine AYld.of tok mixed ?_); conv => whnf) | ((with_reducible show forceH _ _); (refine (forceH_eq _ _).mpr ?_); conv => whnf) | ((with_reducible show ACall _ _ _ _ _); (refine ACall.of_pure (by assumption) (by rfl) ?_); conv => whnf) | ((with_reducible show Exists _); (refine ⟨_, ACall.of_pure (by assumption) (by rfl) ⟨rfl, rfl⟩, ?_⟩); conv => whnf) | ((with_reducible show _ ∧ _ ∧ _); (refine ⟨by omega, by omega, ?_⟩); conv => whnf) | fail)
  refine aDr [] p2 rfl rfl rfl rfl ?_
  (conv => whnf); (repeat' first | ((with_reducible refine Box.mk ?_); conv => whnf) | ((with_reducible refine And.intro (fun _ => ?_) (fun _ => ?_)) <;> conv => whnf) | ((with_reducible show AYld _ _ _ _ _); (refine AYld.of tok mixed ?_); conv => whnf) | ((with_reducible show forceH _ _); (refine (forceH_eq _ _).mpr ?_); conv => whnf) | ((with_reducible show ACall _ _ _ _ _); (refine ACall.of_pure (by assumption) (by rfl) ?_); conv => whnf) | ((with_reducible show Exists _); (refine ⟨_, ACall.of_pure (by assumption) (by rfl) ⟨rfl, rfl⟩, ?_⟩); conv => whnf) | ((with_reducible show _ ∧ _ ∧ _); (refine ⟨by omega, by omega, ?_⟩); conv => whnf) | fail)
  refine ⟨_, rfl, ?_⟩
  (conv => whnf); (repeat' first | ((with_reducible refine Box.mk ?_); conv => whnf) | ((with_reducible refine And.intro (fun _ => ?_) (fun _ => ?_)) <;> conv => whnf) | ((with_reducible show AYld _ _ _ _ _); (refine AYld.of tok mixed ?_); conv => whnf) | ((with_reducible show forceH _ _); (refine (forceH_eq _ _).mpr ?_); conv => whnf) | ((with_reducible show ACall _ _ _ _ _); (refine ACall.of_pure (by assumption) (by rfl) ?_); conv => whnf) | ((with_reducible show Exists _); (refine ⟨_, ACall.of_pure (by assumption) (by rfl) ⟨rfl, rfl⟩, ?_⟩); conv => whnf) | ((with_reducible show _ ∧ _ ∧ _); (refine ⟨by omega, by omega, ?_⟩); conv => whnf) | fail)
  all_goals try (rename_i hbad; exact absurd rfl hbad)
  all_goals rfl
end Go.Proofs.YtnajpmepcffnaaaDoor
end
