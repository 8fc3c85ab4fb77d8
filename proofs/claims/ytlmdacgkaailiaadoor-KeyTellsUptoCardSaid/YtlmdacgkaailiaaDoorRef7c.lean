/- key, the document's answer: the walk of a key's letters. -/
import Derived.Test.YtlmdacgkaailiaaDoorRef7b
namespace Go.Proofs.YtlmdacgkaailiaaDoor
open Go.Ve

def lv1 : List Bs → AV
  | [] => .nils
  | _ :: _ => .own 1
def lh1 (k : Ky) : List Bs → Hp
  | [] => [.box 48 [.int .i64 k.kind, .int .i64 k.len, .int .u64 ((k.n / H64 : Nat) : Int), .int .u64 ((k.n % H64 : Nat) : Int), .str k.path]]
  | x :: l => [.box 48 [.int .i64 k.kind, .int .i64 k.len, .int .u64 ((k.n / H64 : Nat) : Int), .int .u64 ((k.n % H64 : Nat) : Int), .str k.path], .row 9 1 (strs (x :: l))]

theorem letters_ok (k : Ky) (hp : k.path.length < 4294967281) : PCall P 65 [kv k] (.tup [bif rightK k then lvl (lettersL k) else .nils, .bool (rightK k)]) := by
  refine PCall.of_awp tok mixed fn65 (Nat.le_of_ble_eq_true rfl) ?_
  conv => whnf
  repeat' first | ((with_reducible refine Box.mk ?_); conv => whnf) | ((with_reducible refine And.intro (fun _ => ?_) (fun _ => ?_)) <;> conv => whnf) | fail
  · rename_i h3
    refine ACall.of_pure (refSplit_ok k.path hp) rfl ?_
    have hr : rightK k = (okPath k.path && decide (k.len = ((labs k.path).length : Int) ∧ k.n = 0)) := by
      unfold rightK; rw [if_neg (by omega), if_pos h3]
    have hl : lettersL k = labs k.path := by rw [lettersL, if_pos h3]
    rw [hr, hl]
    have hz : k.n = 0 ↔ ((k.n / H64 : Nat) : Int) = 0 ∧ ((k.n % H64 : Nat) : Int) = 0 := by
      have := Nat.div_add_mod k.n H64
      refine ⟨fun h => by rw [h]; exact ⟨rfl, rfl⟩, fun ⟨h1, h2⟩ => ?_⟩
      have h3 := Int.ofNat_eq_zero.1 h1
      have h4 := Int.ofNat_eq_zero.1 h2
      rw [h3, h4] at this; omega
    have yes : ∀ {V : AV}, (k.len = ((labs k.path).length : Int) ∧ k.n = 0) → lvl (labs k.path) = V → mkRes [V, .bool true] = .tup [bif (true && decide (k.len = ((labs k.path).length : Int) ∧ k.n = 0)) then lvl (labs k.path) else .nils, .bool (true && decide (k.len = ((labs k.path).length : Int) ∧ k.n = 0))] := fun h1 h2 => by
      rw [decide_eq_true h1, ← h2]; rfl
    have no : ¬ (k.len = ((labs k.path).length : Int) ∧ k.n = 0) → mkRes [AV.nils, .bool false] = .tup [bif (true && decide (k.len = ((labs k.path).length : Int) ∧ k.n = 0)) then lvl (labs k.path) else .nils, .bool (true && decide (k.len = ((labs k.path).length : Int) ∧ k.n = 0))] := fun h1 => by
      rw [decide_eq_false h1]; rfl
    rcases path3 k.path with ⟨b, e, e2⟩ | ⟨b, e, e2⟩ | ⟨b, e, e2, e3⟩ <;> rw [b, e]
    · (conv => whnf); (repeat' first | ((with_reducible refine Box.mk ?_); conv => whnf) | ((with_reducible refine And.intro (fun _ => ?_) (fun _ => ?_)) <;> conv => whnf) | fail)
      rfl
    · (conv => whnf); (repeat' first | ((with_reducible refine Box.mk ?_); conv => whnf) | ((with_reducible refine And.intro (fun _ => ?_) (fun _ => ?_)) <;> conv => whnf) | fail)
      · rename_i g1 g2 g3
        exact yes ⟨by rw [e2]; exact g1.symm, hz.2 ⟨g2, g3⟩⟩ (by rw [e2]; rfl)
      · rename_i g1 g2 g3
        exact no fun h => g3 (hz.1 h.2).2
      · rename_i g1 g2
        exact no fun h => g2 (hz.1 h.2).1
      · rename_i g1
        exact no fun h => g1 (by rw [e2] at h; exact h.1.symm)
    · have hV : lvl (labs k.path) = .sl (strs (labs k.path)) := by
        rw [e2]
        cases hs : splitDot k.path with
        | nil => exact absurd hs (splitDot_ne _)
        | cons x l => rfl
      (conv => whnf); (repeat' first | ((with_reducible refine Box.mk ?_); conv => whnf) | ((with_reducible refine And.intro (fun _ => ?_) (fun _ => ?_)) <;> conv => whnf) | fail)
      · rename_i g1 g2 g3
        rw [strs_len] at g1
        exact yes ⟨g1.symm, hz.2 ⟨g2, g3⟩⟩ hV
      · rename_i g1 g2 g3
        exact no fun h => g3 (hz.1 h.2).2
      · rename_i g1 g2
        exact no fun h => g2 (hz.1 h.2).1
      · rename_i g1
        rw [strs_len] at g1
        exact no fun h => g1 h.1.symm
  · rename_i h3
    have hw0 : widthK k.kind ≤ 128 := by unfold widthK; split <;> (try split) <;> (try split) <;> omega
    have hr : k.kind = 1 ∨ k.kind = 2 → rightK k = decide (0 ≤ k.len ∧ k.len ≤ widthK k.kind ∧ k.n = topN k.n (min k.len 128).toNat ∧ k.path = []) := fun h => by unfold rightK; rw [if_pos h]
    have hk : widthK k.kind ≠ 0 → k.kind = 1 ∨ k.kind = 2 := fun h => by
      unfold widthK at h
      by_cases g1 : k.kind = 1
      · exact .inl g1
      · by_cases g2 : k.kind = 2
        · exact .inr g2
        · rw [if_neg g1, if_neg g2, if_neg h3] at h; exact absurd rfl h
    have no : rightK k = false → mkRes [AV.nils, .bool false] = .tup [bif rightK k then lvl (lettersL k) else .nils, .bool (rightK k)] := fun h => by rw [h]; rfl
    refine ⟨by kernel_rfl, ?_⟩
    conv => whnf
    repeat' first | ((with_reducible refine Box.mk ?_); conv => whnf) | ((with_reducible refine And.intro (fun _ => ?_) (fun _ => ?_)) <;> conv => whnf) | fail
    refine ⟨_, ACall.of_pure (rWidth_ok k.kind) rfl ⟨rfl, rfl⟩, ?_⟩
    conv => whnf
    repeat' first | ((with_reducible refine Box.mk ?_); conv => whnf) | ((with_reducible refine And.intro (fun _ => ?_) (fun _ => ?_)) <;> conv => whnf) | fail
    · rename_i h0
      refine no ?_
      unfold rightK
      rw [if_neg (fun g => ?_), if_neg h3]
      unfold widthK at h0
      rcases g with g | g <;> simp [g] at h0
    · rename_i h0 h1
      exact no (by rw [hr (hk h0)]; exact decide_eq_false fun h => by omega)
    · rename_i h0 h1
      refine ⟨_, ACall.of_pure (rWidth_ok k.kind) rfl ⟨rfl, rfl⟩, ?_⟩
      conv => whnf
      repeat' first | ((with_reducible refine Box.mk ?_); conv => whnf) | ((with_reducible refine And.intro (fun _ => ?_) (fun _ => ?_)) <;> conv => whnf) | fail
      · rename_i h2
        exact no (by rw [hr (hk h0)]; exact decide_eq_false fun h => by omega)
      · rename_i h2 hp0
        have hp0 : k.path = [] := hp0
        obtain ⟨L, hL⟩ := Int.eq_ofNat_of_zero_le (show 0 ≤ k.len by omega)
        have hL8 : L ≤ 128 := by omega
        have hmin : (min k.len 128).toNat = L := by omega
        have hlet : lettersL k = letB k.n L := by rw [lettersL, if_neg h3, hL, Int.toNat_natCast]
        have hright : rightK k = true ↔ k.n = topN k.n L := by
          rw [hr (hk h0), decide_eq_true_eq, hmin]
          exact ⟨fun h => h.2.2.1, fun h => ⟨by omega, by omega, h, hp0⟩⟩
        refine aloop (fun x : Nat × List Bs => x.1 ≤ 128 ∧ x.2 = letB k.n (min x.1 L) ∧ ∀ j, j < x.1 → L ≤ j → k.n.testBit (127 - j) = false) (fun x => match x with | (i, l) => ⟨envL [(1, .ptr 0 0), (6, lv1 l), (7, .int .i64 i)], lh1 k l⟩)
          (fun x => 128 - x.1) (0, []) ⟨by simp, by simp [letB], fun j hj => by simp at hj⟩ (weak_to ⟨rfl, rfl, rfl, trivial⟩ rfl) ?_
        rintro ⟨i, l⟩ ⟨hi0, hl0, hz0⟩
        have hi0 : i ≤ 128 := hi0
        have hl0 : l = letB k.n (min i L) := hl0
        have hz0 : ∀ j, j < i → L ≤ j → k.n.testBit (127 - j) = false := hz0
        have hlen : l.length ≤ 128 := by rw [hl0, letB_len]; omega
        have next : i < 128 → i < L → (i + 1 ≤ 128 ∧ l ++ [letter k.n i] = letB k.n (min (i + 1) L) ∧ ∀ j, j < i + 1 → L ≤ j → k.n.testBit (127 - j) = false) := fun g1 g2 =>
          ⟨g1, by rw [hl0, Nat.min_eq_left (by omega), Nat.min_eq_left (by omega), letB_succ], fun j hj hj' => hz0 j (by omega) hj'⟩
        have skip : i < 128 → L ≤ i → k.n.testBit (127 - i) = false → (i + 1 ≤ 128 ∧ l = letB k.n (min (i + 1) L) ∧ ∀ j, j < i + 1 → L ≤ j → k.n.testBit (127 - j) = false) := fun g1 g2 g3 =>
          ⟨g1, by rw [hl0, Nat.min_eq_right g2, Nat.min_eq_right (by omega)], fun j hj hj' => by
            by_cases hji : j = i
            · rw [hji]; exact g3
            · exact hz0 j (by omega) hj'⟩
        have fall : i < 128 → L ≤ i → k.n.testBit (127 - i) = true → rightK k = false := fun g1 g2 g3 => by
          cases hR : rightK k with
          | false => rfl
          | true =>
            have := (low_zero hL8).2 (hright.1 hR) i g2 g1
            rw [g3] at this; cases this
        have fin : ¬ i < 128 → rightK k = true ∧ lettersL k = l := fun g => by
          refine ⟨hright.2 ((low_zero hL8).1 fun j g1 g2 => hz0 j (by omega) g1), ?_⟩
          rw [hlet, hl0, Nat.min_eq_right (by omega)]
        rcases l with _ | ⟨x, l⟩
        · (conv => whnf); (repeat' first | ((with_reducible refine Box.mk ?_); conv => whnf) | ((with_reducible refine And.intro (fun _ => ?_) (fun _ => ?_)) <;> conv => whnf) | fail)
          · rename_i hlt
            have hi : i < 128 := by omega
            refine ACall.of_pure (bit_ok k.n i hi) rfl ?_
            cases hb : k.n.testBit (127 - i)
            · have hq : ((false.toNat : Nat) : Int) = 0 := rfl
              (conv => whnf); (repeat' first | ((with_reducible refine Box.mk ?_); conv => whnf) | ((with_reducible refine And.intro (fun _ => ?_) (fun _ => ?_)) <;> conv => whnf) | fail)
              all_goals try (exfalso; omega)
              · exact ⟨(i + 1, []), skip hi (by omega) hb, by show 128 - (i + 1) < 128 - i; omega, weak_to ⟨rfl, rfl, wrap_nat (m := 1) (by omega), trivial⟩ rfl⟩
              · skip
                refine ⟨fun c hc => by rw [List.mem_singleton.1 hc]; exact ⟨rfl, rfl⟩, fun e => absurd e (by simp), fun _ => ⟨Nat.le_of_ble_eq_true rfl, Nat.le_of_ble_eq_true rfl, ?_⟩⟩
                conv => whnf
                repeat' first | ((with_reducible refine Box.mk ?_); conv => whnf) | ((with_reducible refine And.intro (fun _ => ?_) (fun _ => ?_)) <;> conv => whnf) | fail
                all_goals try (exfalso; omega)
                refine ⟨(i + 1, [] ++ [letter k.n i]), next hi (by omega), by show 128 - (i + 1) < 128 - i; omega, weak_ren_to [(0, true), (2, true)] rfl rfl ?_ ⟨rfl, rfl, wrap_nat (m := 1) (by omega), trivial⟩⟩
                have hl : letter k.n i = [48] := by rw [letter, hb]; rfl
                rw [hl]
                rfl
            · have hq : ((true.toNat : Nat) : Int) = 1 := rfl
              (conv => whnf); (repeat' first | ((with_reducible refine Box.mk ?_); conv => whnf) | ((with_reducible refine And.intro (fun _ => ?_) (fun _ => ?_)) <;> conv => whnf) | fail)
              all_goals try (exfalso; omega)
              · exact no (fall hi (by omega) hb)
              · skip
                refine ⟨fun c hc => by rw [List.mem_singleton.1 hc]; exact ⟨rfl, rfl⟩, fun e => absurd e (by simp), fun _ => ⟨Nat.le_of_ble_eq_true rfl, Nat.le_of_ble_eq_true rfl, ?_⟩⟩
                conv => whnf
                repeat' first | ((with_reducible refine Box.mk ?_); conv => whnf) | ((with_reducible refine And.intro (fun _ => ?_) (fun _ => ?_)) <;> conv => whnf) | fail
                all_goals try (exfalso; omega)
                refine ⟨(i + 1, [] ++ [letter k.n i]), next hi (by omega), by show 128 - (i + 1) < 128 - i; omega, weak_ren_to [(0, true), (2, true)] rfl rfl ?_ ⟨rfl, rfl, wrap_nat (m := 1) (by omega), trivial⟩⟩
                have hl : letter k.n i = [49] := by rw [letter, hb]; rfl
                rw [hl]
                rfl
          · rename_i hlt
            obtain ⟨f1, f2⟩ := fin (by omega)
            rw [f1, f2]; rfl
        · (conv => whnf); (repeat' first | ((with_reducible refine Box.mk ?_); conv => whnf) | ((with_reducible refine And.intro (fun _ => ?_) (fun _ => ?_)) <;> conv => whnf) | fail)
          · rename_i hlt
            have hi : i < 128 := by omega
            refine ACall.of_pure (bit_ok k.n i hi) rfl ?_
            cases hb : k.n.testBit (127 - i)
            · have hq : ((false.toNat : Nat) : Int) = 0 := rfl
              (conv => whnf); (repeat' first | ((with_reducible refine Box.mk ?_); conv => whnf) | ((with_reducible refine And.intro (fun _ => ?_) (fun _ => ?_)) <;> conv => whnf) | fail)
              all_goals try (exfalso; omega)
              · exact ⟨(i + 1, x :: l), skip hi (by omega) hb, by show 128 - (i + 1) < 128 - i; omega, weak_to ⟨rfl, rfl, wrap_nat (m := 1) (by omega), trivial⟩ rfl⟩
              · skip
                refine ⟨fun c hc => by rw [List.mem_singleton.1 hc]; exact ⟨rfl, rfl⟩, by show ((strs (x :: l)).length + 1) * 16 ≤ _; rw [strs_len]; omega, by show (strs (x :: l)).length + 1 ≤ _; rw [strs_len]; omega, ?_⟩
                conv => whnf
                repeat' first | ((with_reducible refine Box.mk ?_); conv => whnf) | ((with_reducible refine And.intro (fun _ => ?_) (fun _ => ?_)) <;> conv => whnf) | fail
                all_goals try (exfalso; omega)
                refine ⟨(i + 1, (x :: l) ++ [letter k.n i]), next hi (by omega), by show 128 - (i + 1) < 128 - i; omega, weak_ren_to [(0, true), (3, true)] rfl rfl ?_ ⟨rfl, rfl, wrap_nat (m := 1) (by omega), trivial⟩⟩
                have hl : letter k.n i = [48] := by rw [letter, hb]; rfl
                rw [hl]
                show [_, Ob.row 9 1 (strs (x :: l) ++ [[.str [48]]])] = [_, Ob.row 9 1 (strs (x :: (l ++ [[48]])))]
                simp [strs]
                rfl
            · have hq : ((true.toNat : Nat) : Int) = 1 := rfl
              (conv => whnf); (repeat' first | ((with_reducible refine Box.mk ?_); conv => whnf) | ((with_reducible refine And.intro (fun _ => ?_) (fun _ => ?_)) <;> conv => whnf) | fail)
              all_goals try (exfalso; omega)
              · exact no (fall hi (by omega) hb)
              · skip
                refine ⟨fun c hc => by rw [List.mem_singleton.1 hc]; exact ⟨rfl, rfl⟩, by show ((strs (x :: l)).length + 1) * 16 ≤ _; rw [strs_len]; omega, by show (strs (x :: l)).length + 1 ≤ _; rw [strs_len]; omega, ?_⟩
                conv => whnf
                repeat' first | ((with_reducible refine Box.mk ?_); conv => whnf) | ((with_reducible refine And.intro (fun _ => ?_) (fun _ => ?_)) <;> conv => whnf) | fail
                all_goals try (exfalso; omega)
                refine ⟨(i + 1, (x :: l) ++ [letter k.n i]), next hi (by omega), by show 128 - (i + 1) < 128 - i; omega, weak_ren_to [(0, true), (3, true)] rfl rfl ?_ ⟨rfl, rfl, wrap_nat (m := 1) (by omega), trivial⟩⟩
                have hl : letter k.n i = [49] := by rw [letter, hb]; rfl
                rw [hl]
                show [_, Ob.row 9 1 (strs (x :: l) ++ [[.str [49]]])] = [_, Ob.row 9 1 (strs (x :: (l ++ [[49]])))]
                simp [strs]
                rfl
          · rename_i hlt
            obtain ⟨f1, f2⟩ := fin (by omega)
            rw [f1, f2]; rfl
      · rename_i h2 hp0
        exact no (by rw [hr (hk h0)]; exact decide_eq_false fun h => hp0 h.2.2.2)
end Go.Proofs.YtlmdacgkaailiaaDoor
