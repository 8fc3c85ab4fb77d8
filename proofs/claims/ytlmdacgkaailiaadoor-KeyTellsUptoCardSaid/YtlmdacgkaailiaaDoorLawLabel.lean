/- label: the statements' walk. -/
import Derived.Test.YtlmdacgkaailiaaDoorLabel4
namespace Go.Proofs.YtlmdacgkaailiaaDoor
open Go.Ve

theorem pEq {f : FuncId} {args : List AV} {r r' : AV} (h : PCall P f args r) (e : r = r') : PCall P f args r' := e ▸ h

def joinR (l : List Bs) : AV := .tup [.str (bif l.any (fun s => !isLabel s) then [] else bif decide (8 < l.length) then [] else joinD l), .int .i64 (bif l.any (fun s => !isLabel s) then 3 else bif decide (8 < l.length) then 2 else 0)]
theorem isLabel_len {s : Bs} (h : isLabel s = true) : s.length ≤ 16 := by
  simp only [isLabel, Bool.and_eq_true, decide_eq_true_eq] at h
  exact h.2.2
theorem lJoin_ok (l : List Bs) (hx : ∀ x ∈ l, x.length ≤ 9223372036854775807) (hl : l.length ≤ 9223372036854775807) : PCall P 24 [.sl (strs l)] (joinR l) := by
  refine PCall.of_awp tok mixed fn24 (Nat.le_of_ble_eq_true rfl) ?_
  conv => whnf
  repeat' first | ((with_reducible refine Box.mk ?_); conv => whnf) | ((with_reducible refine And.intro (fun _ => ?_) (fun _ => ?_)) <;> conv => whnf) | fail
  refine ACall.of_pure (containsFunc_ok l (fun s hs => no_ok' s (hx s hs)) hl) rfl ?_
  unfold joinR
  cases hb : l.any fun s => !isLabel s
  · have hlab : ∀ x ∈ l, isLabel x = true := by simpa using hb
    (conv => whnf); (repeat' first | ((with_reducible refine Box.mk ?_); conv => whnf) | ((with_reducible refine And.intro (fun _ => ?_) (fun _ => ?_)) <;> conv => whnf) | fail)
    · rename_i h8
      rw [strs_len] at h8
      have : decide (8 < l.length) = true := decide_eq_true (by omega)
      rw [this]; rfl
    · rename_i h8
      rw [strs_len] at h8
      have h9 : decide (8 < l.length) = false := decide_eq_false (by omega)
      refine ACall.of_pure (lib_Join l [46] (by omega) ?_) rfl ?_
      · rw [joinBy_dot]
        have h1 := joinD_len l
        have h2 := sum_le (l := l) (n := 16) fun x hx => isLabel_len (hlab x hx)
        omega
      (conv => whnf); (repeat' first | ((with_reducible refine Box.mk ?_); conv => whnf) | ((with_reducible refine And.intro (fun _ => ?_) (fun _ => ?_)) <;> conv => whnf) | fail)
      rw [h9, joinBy_dot]; rfl
  · (conv => whnf); (repeat' first | ((with_reducible refine Box.mk ?_); conv => whnf) | ((with_reducible refine And.intro (fun _ => ?_) (fun _ => ?_)) <;> conv => whnf) | fail)
    rfl

theorem alive_ok : PCall P 12 [] (.bool true) := by
  have c1 := pEq (pSplit_ok [110, 101, 116, 46, 100, 99, 49, 46, 114, 97, 99, 107, 95, 50] (Nat.lt_of_sub_pos (by decide))) (r' := .tup [.sl (strs [[110, 101, 116], [100, 99, 49], [114, 97, 99, 107, 95, 50]]), .int .i64 0]) (by kernel_rfl)
  have c2 := pEq (pSplit_ok [110, 101, 116, 46, 46, 120] (Nat.lt_of_sub_pos (by decide))) (r' := .tup [.nils, .int .i64 3]) (by kernel_rfl)
  have c3 := pEq (lJoin_ok [[97], [98]] (by simp) (by simp)) (r' := .tup [.str [97, 46, 98], .int .i64 0]) (by kernel_rfl)
  have c4 := pEq (lJoin_ok [[97, 46, 98]] (by simp) (by simp)) (r' := .tup [.str [], .int .i64 3]) (by kernel_rfl)
  have c5 := pEq (lJoin_ok [[97], [98], [99], [100], [101], [102], [103], [104], [105]] (by simp) (by simp)) (r' := .tup [.str [], .int .i64 2]) (by kernel_rfl)
  have c6 := pEq (top_ok [110, 101, 116, 46, 100, 99, 49, 46, 114, 97, 99, 107, 50] 2 (Nat.lt_of_sub_pos (by decide))) (r' := .str [110, 101, 116, 46, 100, 99, 49]) (by kernel_rfl)
  have c7 := pEq (lSame_ok [97, 46, 98, 46, 99] [97, 46, 98, 46, 100] (Nat.lt_of_sub_pos (by decide)) (Nat.lt_of_sub_pos (by decide))) (r' := .int .i64 2) (by kernel_rfl)
  have c8 := pEq (right_ok [] (Nat.lt_of_sub_pos (by decide))) (r' := .bool true) (by kernel_rfl)
  have c9 := pEq (isLabel_ok [] (by simp)) (r' := .bool false) (by kernel_rfl)
  have c10 := pEq (len_ok [97, 46, 98] (Nat.lt_of_sub_pos (by decide))) (r' := .int .i64 2) (by kernel_rfl)
  refine PCall.of_awp tok mixed fn12 (Nat.le_of_ble_eq_true rfl) ?_
  conv => whnf
  repeat' first | ((with_reducible refine Box.mk ?_); conv => whnf) | ((with_reducible refine And.intro (fun _ => ?_) (fun _ => ?_)) <;> conv => whnf) | fail
  refine ACall.of_pure c1 rfl ?_
  conv => whnf
  repeat' first | ((with_reducible refine Box.mk ?_); conv => whnf) | ((with_reducible refine And.intro (fun _ => ?_) (fun _ => ?_)) <;> conv => whnf) | fail
  refine ACall.of_pure c2 rfl ?_
  conv => whnf
  repeat' first | ((with_reducible refine Box.mk ?_); conv => whnf) | ((with_reducible refine And.intro (fun _ => ?_) (fun _ => ?_)) <;> conv => whnf) | fail
  refine ACall.of_view c3 rfl rfl ?_
  conv => whnf
  repeat' first | ((with_reducible refine Box.mk ?_); conv => whnf) | ((with_reducible refine And.intro (fun _ => ?_) (fun _ => ?_)) <;> conv => whnf) | fail
  refine ACall.of_view c4 rfl rfl ?_
  conv => whnf
  repeat' first | ((with_reducible refine Box.mk ?_); conv => whnf) | ((with_reducible refine And.intro (fun _ => ?_) (fun _ => ?_)) <;> conv => whnf) | fail
  refine ACall.of_view c5 rfl rfl ?_
  conv => whnf
  repeat' first | ((with_reducible refine Box.mk ?_); conv => whnf) | ((with_reducible refine And.intro (fun _ => ?_) (fun _ => ?_)) <;> conv => whnf) | fail
  all_goals try exact absurd rfl ‹¬ _›
  refine ACall.of_pure c6 rfl ?_
  conv => whnf
  repeat' first | ((with_reducible refine Box.mk ?_); conv => whnf) | ((with_reducible refine And.intro (fun _ => ?_) (fun _ => ?_)) <;> conv => whnf) | fail
  all_goals try exact absurd rfl ‹¬ _›
  refine ACall.of_pure c7 rfl ?_
  conv => whnf
  repeat' first | ((with_reducible refine Box.mk ?_); conv => whnf) | ((with_reducible refine And.intro (fun _ => ?_) (fun _ => ?_)) <;> conv => whnf) | fail
  all_goals try exact absurd rfl ‹¬ _›
  refine ACall.of_pure c8 rfl ?_
  conv => whnf
  repeat' first | ((with_reducible refine Box.mk ?_); conv => whnf) | ((with_reducible refine And.intro (fun _ => ?_) (fun _ => ?_)) <;> conv => whnf) | fail
  refine ACall.of_pure c9 rfl ?_
  conv => whnf
  repeat' first | ((with_reducible refine Box.mk ?_); conv => whnf) | ((with_reducible refine And.intro (fun _ => ?_) (fun _ => ?_)) <;> conv => whnf) | fail
  refine ACall.of_pure c10 rfl ?_
  conv => whnf
  repeat' first | ((with_reducible refine Box.mk ?_); conv => whnf) | ((with_reducible refine And.intro (fun _ => ?_) (fun _ => ?_)) <;> conv => whnf) | fail
  all_goals first
    | exact absurd rfl ‹¬ _›
    | rfl

theorem path3 (p : Bs) : (okPath p = false ∧ pathV p = .nils ∧ labs p = []) ∨ (okPath p = true ∧ pathV p = .nils ∧ labs p = []) ∨ (okPath p = true ∧ pathV p = .sl (strs (labs p)) ∧ labs p = splitDot p ∧ p ≠ []) := by
  rcases path_cases p with ⟨e, e2⟩ | ⟨e, e2, e3, e4⟩
  · cases h : okPath p
    · exact .inl ⟨rfl, e, e2⟩
    · exact .inr (.inl ⟨rfl, e, e2⟩)
  · exact .inr (.inr ⟨e4, e, e2, e3⟩)

theorem LabelTells_ok (p q : Bs) (n : Int) (hp : p.length ≤ 9223372036854775807) (hq : q.length ≤ 9223372036854775807) : PCall P 3 [.str p, .str q, .int .i64 n] (.bool true) := by
  refine PCall.of_awp tok mixed fn3 (Nat.le_of_ble_eq_true rfl) ?_
  conv => whnf
  repeat' first | ((with_reducible refine Box.mk ?_); conv => whnf) | ((with_reducible refine And.intro (fun _ => ?_) (fun _ => ?_)) <;> conv => whnf) | fail
  · refine ACall.of_pure alive_ok rfl ?_
    (conv => whnf); (repeat' first | ((with_reducible refine Box.mk ?_); conv => whnf) | ((with_reducible refine And.intro (fun _ => ?_) (fun _ => ?_)) <;> conv => whnf) | fail)
    rfl
  · refine ACall.of_pure alive_ok rfl ?_
    (conv => whnf); (repeat' first | ((with_reducible refine Box.mk ?_); conv => whnf) | ((with_reducible refine And.intro (fun _ => ?_) (fun _ => ?_)) <;> conv => whnf) | fail)
    rfl
  · rename_i h1 h2
    have hp' : p.length < 4294967281 := by omega
    have hq' : q.length < 4294967281 := by omega
    clear h1 h2
    have c1 := pSplit_ok p hp'
    have c2 := refSplit_ok p hp'
    have c3 := isLabel_ok p hp
    have c4 := refIsLabel_ok p hp
    have c5 := right_ok p hp'
    have c6 := len_ok p hp'
    have c7 := top_ok p n hp'
    have c8 := refTop_ok p n hp'
    have c9 := lSame_ok p q hp' hq'
    have c10 := refSame_ok p q hp' hq'
    have c0 := lawSame_path p
    obtain ⟨l1, _⟩ := labs_len p
    generalize cpl (labs p) (labs q) = S at c9 c10
    generalize joinD ((labs p).take n.toNat) = J at c7 c8
    generalize isLabel p = L at c3 c4
    rcases path3 p with ⟨b, e, e2⟩ | ⟨b, e, e2⟩ | ⟨b, e, e2, e3⟩ <;> rw [b, e] at c1 c2 <;> rw [b] at c5 <;> rw [e] at c0 <;> simp only [cond_true, cond_false] at c1
    all_goals refine ACall.of_pure c1 rfl ?_
    all_goals ((conv => whnf); (repeat' first | ((with_reducible refine Box.mk ?_); conv => whnf) | ((with_reducible refine And.intro (fun _ => ?_) (fun _ => ?_)) <;> conv => whnf) | fail))
    all_goals refine ACall.of_pure c2 rfl ?_
    all_goals ((conv => whnf); (repeat' first | ((with_reducible refine Box.mk ?_); conv => whnf) | ((with_reducible refine And.intro (fun _ => ?_) (fun _ => ?_)) <;> conv => whnf) | fail))
    all_goals refine ACall.of_pure c0 rfl ?_
    all_goals ((conv => whnf); (repeat' first | ((with_reducible refine Box.mk ?_); conv => whnf) | ((with_reducible refine And.intro (fun _ => ?_) (fun _ => ?_)) <;> conv => whnf) | fail))
    (all_goals try (first | contradiction | (rename_i hbad; exact absurd rfl hbad) | (exfalso; omega)))
    all_goals refine ACall.of_pure c3 rfl ?_
    all_goals ((conv => whnf); (repeat' first | ((with_reducible refine Box.mk ?_); conv => whnf) | ((with_reducible refine And.intro (fun _ => ?_) (fun _ => ?_)) <;> conv => whnf) | fail))
    all_goals refine ACall.of_pure c4 rfl ?_
    all_goals ((conv => whnf); (repeat' first | ((with_reducible refine Box.mk ?_); conv => whnf) | ((with_reducible refine And.intro (fun _ => ?_) (fun _ => ?_)) <;> conv => whnf) | fail))
    (all_goals try (first | contradiction | (rename_i hbad; exact absurd rfl hbad) | (exfalso; omega)))
    all_goals refine ACall.of_pure c5 rfl ?_
    all_goals ((conv => whnf); (repeat' first | ((with_reducible refine Box.mk ?_); conv => whnf) | ((with_reducible refine And.intro (fun _ => ?_) (fun _ => ?_)) <;> conv => whnf) | fail))
    (all_goals try (first | contradiction | (rename_i hbad; exact absurd rfl hbad) | (exfalso; omega)))
    all_goals refine ACall.of_pure alive_ok rfl ?_
    all_goals ((conv => whnf); (repeat' first | ((with_reducible refine Box.mk ?_); conv => whnf) | ((with_reducible refine And.intro (fun _ => ?_) (fun _ => ?_)) <;> conv => whnf) | fail))
    all_goals refine ACall.of_pure c6 rfl ?_
    all_goals ((conv => whnf); (repeat' first | ((with_reducible refine Box.mk ?_); conv => whnf) | ((with_reducible refine And.intro (fun _ => ?_) (fun _ => ?_)) <;> conv => whnf) | fail))
    all_goals try (rename_i hbad; exact absurd (by simp [strs_len, e2]) hbad)
    all_goals refine ACall.of_pure c7 rfl ?_
    all_goals ((conv => whnf); (repeat' first | ((with_reducible refine Box.mk ?_); conv => whnf) | ((with_reducible refine And.intro (fun _ => ?_) (fun _ => ?_)) <;> conv => whnf) | fail))
    all_goals refine ACall.of_pure c8 rfl ?_
    all_goals ((conv => whnf); (repeat' first | ((with_reducible refine Box.mk ?_); conv => whnf) | ((with_reducible refine And.intro (fun _ => ?_) (fun _ => ?_)) <;> conv => whnf) | fail))
    (all_goals try (first | contradiction | (rename_i hbad; exact absurd rfl hbad) | (exfalso; omega)))
    all_goals refine ACall.of_pure c9 rfl ?_
    all_goals ((conv => whnf); (repeat' first | ((with_reducible refine Box.mk ?_); conv => whnf) | ((with_reducible refine And.intro (fun _ => ?_) (fun _ => ?_)) <;> conv => whnf) | fail))
    all_goals refine ACall.of_pure c10 rfl ?_
    all_goals ((conv => whnf); (repeat' first | ((with_reducible refine Box.mk ?_); conv => whnf) | ((with_reducible refine And.intro (fun _ => ?_) (fun _ => ?_)) <;> conv => whnf) | fail))
    (all_goals try (first | contradiction | (rename_i hbad; exact absurd rfl hbad) | (exfalso; omega)))
    all_goals rfl
end Go.Proofs.YtlmdacgkaailiaaDoor
