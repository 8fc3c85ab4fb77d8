/- label: there and back: the walk of the statement. -/
import Derived.Test.YtlmdacgkaailiaaDoorLawLabel2
namespace Go.Proofs.YtlmdacgkaailiaaDoor
open Go.Ve

theorem pNil {f : FuncId} {rest : List AV} {r : AV} (h : PCall P f (.sl [] :: rest) r) : PCall P f (.nils :: rest) r := by
  unfold PCall at *
  refine ⟨h.1, fun M0 w vs hM hG hv => h.2 M0 w vs hM hG ⟨hv.1, fun i x hx => ?_⟩⟩
  cases i with
  | zero =>
    cases hx
    have e := (hv.2 0 .nils rfl).nils_inv
    rw [e]; exact .sl0 _
  | succ i => exact hv.2 (i + 1) x hx

theorem splitDot_app : ∀ {x : Bs} (s : Bs), (∀ c ∈ x, c ≠ 46) → splitDot (x ++ 46 :: s) = x :: splitDot s
  | [], s, _ => by simp [splitDot]
  | c :: x, s, h => by
    have hc := h c List.mem_cons_self
    simp [splitDot, hc, splitDot_app s fun d hd => h d (List.mem_cons_of_mem _ hd)]
theorem splitDot_one : ∀ {x : Bs}, (∀ c ∈ x, c ≠ 46) → splitDot x = [x]
  | [], _ => rfl
  | c :: x, h => by
    have hc := h c List.mem_cons_self
    simp [splitDot, hc, splitDot_one fun d hd => h d (List.mem_cons_of_mem _ hd)]
theorem splitDot_join : ∀ {L : List Bs}, L ≠ [] → (∀ x ∈ L, ∀ c ∈ x, c ≠ 46) → splitDot (joinD L) = L
  | [], h, _ => absurd rfl h
  | [x], _, h => splitDot_one (h x List.mem_cons_self)
  | x :: y :: r, _, h => by
    rw [joinD, splitDot_app _ (h x List.mem_cons_self), splitDot_join (by simp) fun z hz => h z (List.mem_cons_of_mem _ hz)]
theorem label_nodot {x : Bs} (h : isLabel x = true) : ∀ c ∈ x, c ≠ 46 := by
  simp only [isLabel, Bool.and_eq_true, List.all_eq_true, decide_eq_true_eq] at h
  intro c hc e
  have := h.1 c hc
  subst e
  revert this
  decide
theorem labs_join {L : List Bs} (h : ∀ x ∈ L, isLabel x = true) (h8 : L.length ≤ 8) : okPath (joinD L) = true ∧ labs (joinD L) = L := by
  by_cases hne : L = []
  · subst hne; exact ⟨rfl, rfl⟩
  · have hs := splitDot_join hne fun x hx => label_nodot (h x hx)
    have hj : joinD L ≠ [] := by
      intro e
      rw [e] at hs
      have : ([] : Bs) ∈ L := by rw [← hs]; simp [splitDot]
      have := h [] this
      simp [isLabel] at this
    obtain ⟨h1, h2⟩ := okPath_true hj (by rw [hs]; exact h) (by rw [hs]; exact h8)
    refine ⟨h1, ?_⟩
    unfold labs
    have : (joinD L).isEmpty = false := by cases e : joinD L with | nil => exact absurd e hj | cons => rfl
    rw [this, h1]; exact hs
theorem labs_lab {p : Bs} : ∀ x ∈ labs p, isLabel x = true := by
  rcases path_cases p with ⟨_, e⟩ | ⟨_, e, e3, e4⟩
  · rw [e]; simp
  · have hp : p.isEmpty = false := by cases p with | nil => exact absurd rfl e3 | cons => rfl
    simp [okPath, hp] at e4
    rw [e]; exact e4.2
theorem join_labs {p : Bs} (h : okPath p = true) : joinD (labs p) = p := by
  by_cases hp : p = []
  · subst hp; rfl
  · have : p.isEmpty = false := by cases p with | nil => exact absurd rfl hp | cons => rfl
    unfold labs
    rw [this, h]; exact joinD_split p
theorem cpl_comm : ∀ (l m : List Bs), cpl l m = cpl m l
  | [], [] => rfl
  | [], _ :: _ => rfl
  | _ :: _, [] => rfl
  | x :: l, y :: m => by
    simp only [cpl]
    by_cases h : x = y
    · subst h; simp [cpl_comm l m]
    · rw [if_neg h, if_neg fun e => h e.symm]
theorem cpl_self : ∀ (l : List Bs), cpl l l = l.length
  | [] => rfl
  | x :: l => by simp [cpl, cpl_self l]
theorem cpl_take : ∀ (l m : List Bs), l.take (cpl l m) = m.take (cpl l m)
  | [], [] => rfl
  | [], _ :: _ => rfl
  | _ :: _, [] => rfl
  | x :: l, y :: m => by
    simp only [cpl]
    by_cases h : x = y
    · subst h; simp [cpl_take l m]
    · simp [h]
theorem cpl_next : ∀ {l m : List Bs}, l.take (cpl l m + 1) = m.take (cpl l m + 1) → l = m
  | [], [], _ => rfl
  | [], _ :: _, h => by simp [cpl] at h
  | _ :: _, [], h => by simp [cpl] at h
  | x :: l, y :: m, h => by
    simp only [cpl] at h
    by_cases e : x = y
    · subst e
      simp only [if_true, List.take_succ_cons, List.cons.injEq, true_and] at h
      rw [cpl_next h]
    · simp [e] at h

theorem LabelBack_ok (p q : Bs) (n m : Int) (hp : p.length ≤ 9223372036854775807) (hq : q.length ≤ 9223372036854775807) : PCall P 5 [.str p, .str q, .int .i64 n, .int .i64 m] (.bool true) := by
  refine PCall.of_awp tok mixed fn5 (Nat.le_of_ble_eq_true rfl) ?_
  conv => whnf
  repeat' first | ((with_reducible refine Box.mk ?_); conv => whnf) | ((with_reducible refine And.intro (fun _ => ?_) (fun _ => ?_)) <;> conv => whnf) | fail
  · refine ACall.of_pure alive_ok rfl ?_
    (conv => whnf); (repeat' first | ((with_reducible refine Box.mk ?_); conv => whnf) | ((with_reducible refine And.intro (fun _ => ?_) (fun _ => ?_)) <;> conv => whnf) | fail)
    rfl
  · refine ACall.of_pure alive_ok rfl ?_
    (conv => whnf); (repeat' first | ((with_reducible refine Box.mk ?_); conv => whnf) | ((with_reducible refine And.intro (fun _ => ?_) (fun _ => ?_)) <;> conv => whnf) | fail)
    rfl
  · rename_i h1 h2
    have hp' : p.length < 4294967281 := by omega
    have hq' : q.length < 4294967281 := by omega
    have hp3 : p.length ≤ 300 := by omega
    refine ACall.of_pure (right_ok p hp') rfl ?_
    cases b : okPath p
    · (conv => whnf); (repeat' first | ((with_reducible refine Box.mk ?_); conv => whnf) | ((with_reducible refine And.intro (fun _ => ?_) (fun _ => ?_)) <;> conv => whnf) | fail)
      refine ACall.of_pure alive_ok rfl ?_
      (conv => whnf); (repeat' first | ((with_reducible refine Box.mk ?_); conv => whnf) | ((with_reducible refine And.intro (fun _ => ?_) (fun _ => ?_)) <;> conv => whnf) | fail)
      rfl
    (conv => whnf); (repeat' first | ((with_reducible refine Box.mk ?_); conv => whnf) | ((with_reducible refine And.intro (fun _ => ?_) (fun _ => ?_)) <;> conv => whnf) | fail)
    refine ACall.of_pure (right_ok q hq') rfl ?_
    cases bq : okPath q
    · (conv => whnf); (repeat' first | ((with_reducible refine Box.mk ?_); conv => whnf) | ((with_reducible refine And.intro (fun _ => ?_) (fun _ => ?_)) <;> conv => whnf) | fail)
      refine ACall.of_pure alive_ok rfl ?_
      (conv => whnf); (repeat' first | ((with_reducible refine Box.mk ?_); conv => whnf) | ((with_reducible refine And.intro (fun _ => ?_) (fun _ => ?_)) <;> conv => whnf) | fail)
      rfl
    clear h1 h2
    obtain ⟨l1, l2⟩ := labs_len p
    have lab := labs_lab (p := p)
    -- the contracts, at these texts
    have c1 := pSplit_ok p hp'
    rw [b] at c1
    have j0 : joinR (labs p) = .tup [.str p, .int .i64 0] := by
      rw [joinR_good (List.all_eq_true.2 lab) (by omega), join_labs b]
    have c2 : PCall P 24 [pathV p] (.tup [.str p, .int .i64 0]) := by
      rcases path_cases p with ⟨e, e2⟩ | ⟨e, _⟩ <;> rw [e]
      · rw [e2] at j0
        exact pNil (pEq (lJoin_ok [] (by simp) (by simp)) j0)
      · exact pEq (lJoin_ok (labs p) (fun x hx => by have := l2 x hx; omega) (by omega)) j0
    have tops : ∀ (a : Bs) (k : Int), okPath (joinD ((labs a).take k.toNat)) = true ∧ labs (joinD ((labs a).take k.toNat)) = (labs a).take k.toNat := fun a k =>
      labs_join (fun x hx => labs_lab x (List.mem_of_mem_take hx)) (by have := (labs_len a).1; simp; omega)
    have hT : (joinD ((labs p).take n.toNat)).length < 4294967281 := by
      have := joinD_take_len (i := n.toNat) l2
      have h9 : (labs p).length * p.length ≤ 8 * p.length := Nat.mul_le_mul_right _ l1
      omega
    have c3 := top_ok p n hp'
    have c4 := pEq (right_ok _ hT) (congrArg AV.bool (tops p n).1)
    have c5 := lSame_ok p q hp' hq'
    obtain ⟨k, hk⟩ : ∃ k, k = cpl (labs p) (labs q) := ⟨_, rfl⟩
    have hk8 : k ≤ 8 := by rw [hk]; have := (cpl_le (labs p) (labs q)).1; omega
    rw [← hk] at c5
    have c6 := pEq (top_ok p k hp') (congrArg (fun z => AV.str (joinD z)) (show (labs p).take (k : Int).toNat = (labs q).take k by rw [Int.toNat_natCast, hk, cpl_take]))
    have c7 := pEq (top_ok q k hq') (congrArg (fun z => AV.str (joinD z)) (show (labs q).take (k : Int).toNat = (labs q).take k by rw [Int.toNat_natCast]))
    have hw : IntKind.i64.wrap ((k : Int) + 1) = ((k + 1 : Nat) : Int) := by rw [wrap_i64 (by omega) (by omega)]; rfl
    have c8 := top_ok p (IntKind.i64.wrap ((k : Int) + 1)) hp'
    have c9 := top_ok q (IntKind.i64.wrap ((k : Int) + 1)) hq'
    have hpq : p = q ↔ joinD ((labs p).take (IntKind.i64.wrap ((k : Int) + 1)).toNat) = joinD ((labs q).take (IntKind.i64.wrap ((k : Int) + 1)).toNat) := by
      refine ⟨fun e => by rw [e], fun e => ?_⟩
      have e1 := (tops p (IntKind.i64.wrap ((k : Int) + 1))).2
      have e2 := (tops q (IntKind.i64.wrap ((k : Int) + 1))).2
      rw [e] at e1
      have e3 := e1.symm.trans e2
      rw [hw, Int.toNat_natCast, hk] at e3
      rw [← join_labs b, ← join_labs bq, cpl_next e3]
    generalize joinD ((labs p).take (IntKind.i64.wrap ((k : Int) + 1)).toNat) = A1 at c8 hpq
    generalize joinD ((labs q).take (IntKind.i64.wrap ((k : Int) + 1)).toNat) = A2 at c9 hpq
    have c10 := pEq (top_ok _ m hT) (congrArg (fun z => AV.str (joinD z)) (show (labs (joinD ((labs p).take n.toNat))).take m.toNat = (labs p).take (min n m).toNat by
      rw [(tops p n).2, List.take_take]; congr 1; omega))
    have c12 := pEq (lSame_ok q p hq' hp') (congrArg (fun z : Nat => AV.int .i64 z) (show cpl (labs q) (labs p) = k by rw [hk, cpl_comm]))
    have c13 := pEq (lSame_ok p p hp' hp') (congrArg (fun z : Nat => AV.int .i64 z) (cpl_self (labs p)))
    have c14 := len_ok p hp'
    have hV : pathV p = .nils ∨ pathV p = .sl (strs (labs p)) := by rcases path_cases p with ⟨e, _⟩ | ⟨e, _⟩ <;> simp [e]
    rcases hV with e | e <;> rw [e] at c1 c2 <;> simp only [cond_true] at c1
    all_goals ((conv => whnf); (repeat' first | ((with_reducible refine Box.mk ?_); conv => whnf) | ((with_reducible refine And.intro (fun _ => ?_) (fun _ => ?_)) <;> conv => whnf) | fail))
    all_goals refine ACall.of_pure c1 rfl ?_
    all_goals ((conv => whnf); (repeat' first | ((with_reducible refine Box.mk ?_); conv => whnf) | ((with_reducible refine And.intro (fun _ => ?_) (fun _ => ?_)) <;> conv => whnf) | fail))
    all_goals refine ACall.of_pure c2 rfl ?_
    all_goals ((conv => whnf); (repeat' first | ((with_reducible refine Box.mk ?_); conv => whnf) | ((with_reducible refine And.intro (fun _ => ?_) (fun _ => ?_)) <;> conv => whnf) | fail))
    (all_goals try (first | contradiction | (rename_i hbad; exact absurd rfl hbad) | (exfalso; omega)))
    all_goals refine ACall.of_pure c3 rfl ?_
    all_goals ((conv => whnf); (repeat' first | ((with_reducible refine Box.mk ?_); conv => whnf) | ((with_reducible refine And.intro (fun _ => ?_) (fun _ => ?_)) <;> conv => whnf) | fail))
    all_goals refine ACall.of_pure c4 rfl ?_
    all_goals ((conv => whnf); (repeat' first | ((with_reducible refine Box.mk ?_); conv => whnf) | ((with_reducible refine And.intro (fun _ => ?_) (fun _ => ?_)) <;> conv => whnf) | fail))
    all_goals refine ACall.of_pure c5 rfl ?_
    all_goals ((conv => whnf); (repeat' first | ((with_reducible refine Box.mk ?_); conv => whnf) | ((with_reducible refine And.intro (fun _ => ?_) (fun _ => ?_)) <;> conv => whnf) | fail))
    all_goals refine ACall.of_pure c6 rfl ?_
    all_goals ((conv => whnf); (repeat' first | ((with_reducible refine Box.mk ?_); conv => whnf) | ((with_reducible refine And.intro (fun _ => ?_) (fun _ => ?_)) <;> conv => whnf) | fail))
    all_goals refine ACall.of_pure c7 rfl ?_
    all_goals ((conv => whnf); (repeat' first | ((with_reducible refine Box.mk ?_); conv => whnf) | ((with_reducible refine And.intro (fun _ => ?_) (fun _ => ?_)) <;> conv => whnf) | fail))
    (all_goals try (first | contradiction | (rename_i hbad; exact absurd rfl hbad) | (exfalso; omega)))
    all_goals refine ACall.of_pure c8 rfl ?_
    all_goals ((conv => whnf); (repeat' first | ((with_reducible refine Box.mk ?_); conv => whnf) | ((with_reducible refine And.intro (fun _ => ?_) (fun _ => ?_)) <;> conv => whnf) | fail))
    all_goals refine ACall.of_pure c9 rfl ?_
    all_goals ((conv => whnf); (repeat' first | ((with_reducible refine Box.mk ?_); conv => whnf) | ((with_reducible refine And.intro (fun _ => ?_) (fun _ => ?_)) <;> conv => whnf) | fail))
    all_goals try (exfalso; first | exact absurd (hpq.1 ‹p = q›) ‹¬ A1 = A2› | exact absurd (hpq.2 ‹A1 = A2›) ‹¬ p = q›)
    (all_goals try (first | contradiction | (rename_i hbad; exact absurd rfl hbad) | (exfalso; omega)))
    all_goals refine ACall.of_pure alive_ok rfl ?_
    all_goals ((conv => whnf); (repeat' first | ((with_reducible refine Box.mk ?_); conv => whnf) | ((with_reducible refine And.intro (fun _ => ?_) (fun _ => ?_)) <;> conv => whnf) | fail))
    all_goals refine ACall.of_pure c3 rfl ?_
    all_goals ((conv => whnf); (repeat' first | ((with_reducible refine Box.mk ?_); conv => whnf) | ((with_reducible refine And.intro (fun _ => ?_) (fun _ => ?_)) <;> conv => whnf) | fail))
    all_goals refine ACall.of_pure c10 rfl ?_
    all_goals ((conv => whnf); (repeat' first | ((with_reducible refine Box.mk ?_); conv => whnf) | ((with_reducible refine And.intro (fun _ => ?_) (fun _ => ?_)) <;> conv => whnf) | fail))
    all_goals first
      | refine ACall.of_pure (pEq (top_ok p m hp') (congrArg (fun z => AV.str (joinD ((labs p).take z))) (show m.toNat = (min n m).toNat by omega))) rfl ?_
      | refine ACall.of_pure (pEq (top_ok p n hp') (congrArg (fun z => AV.str (joinD ((labs p).take z))) (show n.toNat = (min n m).toNat by omega))) rfl ?_
    all_goals ((conv => whnf); (repeat' first | ((with_reducible refine Box.mk ?_); conv => whnf) | ((with_reducible refine And.intro (fun _ => ?_) (fun _ => ?_)) <;> conv => whnf) | fail))
    (all_goals try (first | contradiction | (rename_i hbad; exact absurd rfl hbad) | (exfalso; omega)))
    all_goals refine ACall.of_pure c5 rfl ?_
    all_goals ((conv => whnf); (repeat' first | ((with_reducible refine Box.mk ?_); conv => whnf) | ((with_reducible refine And.intro (fun _ => ?_) (fun _ => ?_)) <;> conv => whnf) | fail))
    all_goals refine ACall.of_pure c12 rfl ?_
    all_goals ((conv => whnf); (repeat' first | ((with_reducible refine Box.mk ?_); conv => whnf) | ((with_reducible refine And.intro (fun _ => ?_) (fun _ => ?_)) <;> conv => whnf) | fail))
    (all_goals try (first | contradiction | (rename_i hbad; exact absurd rfl hbad) | (exfalso; omega)))
    all_goals refine ACall.of_pure c13 rfl ?_
    all_goals ((conv => whnf); (repeat' first | ((with_reducible refine Box.mk ?_); conv => whnf) | ((with_reducible refine And.intro (fun _ => ?_) (fun _ => ?_)) <;> conv => whnf) | fail))
    all_goals refine ACall.of_pure c14 rfl ?_
    all_goals ((conv => whnf); (repeat' first | ((with_reducible refine Box.mk ?_); conv => whnf) | ((with_reducible refine And.intro (fun _ => ?_) (fun _ => ?_)) <;> conv => whnf) | fail))
    (all_goals try (first | contradiction | (rename_i hbad; exact absurd rfl hbad) | (exfalso; omega)))
    all_goals rfl
end Go.Proofs.YtlmdacgkaailiaaDoor
