/- label, the document's answer: tops, what is alike; the statements' own helpers. -/
import Derived.Test.YtlmdacgkaailiaaDoorLabel3
namespace Go.Proofs.YtlmdacgkaailiaaDoor
open Go.Ve

theorem refTop_ok (p : Bs) (n : Int) (h : p.length < 4294967281) : PCall P 21 [.str p, .int .i64 n] (.str (joinD ((labs p).take n.toNat))) := by
  refine PCall.of_awp tok mixed fn21 (Nat.le_of_ble_eq_true rfl) ?_
  conv => whnf
  repeat' first | ((with_reducible refine Box.mk ?_); conv => whnf) | ((with_reducible refine And.intro (fun _ => ?_) (fun _ => ?_)) <;> conv => whnf) | fail
  refine ACall.of_pure (refSplit_ok p h) rfl ?_
  obtain ⟨l1, l2⟩ := labs_len p
  rcases path_cases p with ⟨e, e2⟩ | ⟨e, _⟩ <;> rw [e]
  all_goals ((conv => whnf); (repeat' first | ((with_reducible refine Box.mk ?_); conv => whnf) | ((with_reducible refine And.intro (fun _ => ?_) (fun _ => ?_)) <;> conv => whnf) | fail))
  all_goals
    refine aloop (fun x : Nat × List Bs => x.1 ≤ (labs p).length ∧ (x.1 : Int) ≤ max n 0 ∧ x.2 = (labs p).take x.1) (fun x => match x with | (i, l) => ⟨envL [(1, .int .i64 n), (5, .sl (strs (labs p))), (7, lv l), (8, .int .i64 i)], lh l⟩)
      (fun x => (labs p).length - x.1) (0, []) ⟨Nat.zero_le _, by simp; omega, rfl⟩
      (weak_le ⟨.inl rfl, by first | exact .inl rfl | exact .inr ⟨rfl, by rw [e2]; rfl⟩, .inl rfl, .inl rfl, trivial⟩ rfl) ?_
    rintro ⟨i, l⟩ ⟨hi, hin, hl⟩
    have hi : i ≤ (labs p).length := hi
    have hin : (i : Int) ≤ max n 0 := hin
    have hl : l = (labs p).take i := hl
    have next : ∀ hlt : i < (labs p).length, (labs p).take (i + 1) = l ++ [(labs p)[i]] := fun hlt => by rw [hl, List.take_succ_eq_append_getElem hlt]
    have stop : (¬ i < (labs p).length ∨ ¬ (i : Int) < n) → l = (labs p).take n.toNat := fun hs => by
      rw [hl]
      rcases hs with hs | hs
      · rw [List.take_of_length_le (by omega)]
        have hle : i ≤ n.toNat := by omega
        rw [List.take_of_length_le (by omega)]
      · congr 1; omega
    rcases l with _ | ⟨x, l⟩
    · (conv => whnf); (repeat' first | ((with_reducible refine Box.mk ?_); conv => whnf) | ((with_reducible refine And.intro (fun _ => ?_) (fun _ => ?_)) <;> conv => whnf) | fail)
      · rename_i h1 h2
        rw [strs_len] at h1
        have hlt : i < (labs p).length := by omega
        refine ⟨by omega, [.str (labs p)[i]], strs_at hlt, rfl, ?_⟩
        conv => whnf
        repeat' first | ((with_reducible refine Box.mk ?_); conv => whnf) | ((with_reducible refine And.intro (fun _ => ?_) (fun _ => ?_)) <;> conv => whnf) | fail
        refine ⟨fun c hc => by rw [List.mem_singleton.1 hc]; exact ⟨rfl, rfl⟩, fun e => absurd e (by simp), fun _ => ⟨Nat.le_of_ble_eq_true rfl, Nat.le_of_ble_eq_true rfl, ?_⟩⟩
        conv => whnf
        repeat' first | ((with_reducible refine Box.mk ?_); conv => whnf) | ((with_reducible refine And.intro (fun _ => ?_) (fun _ => ?_)) <;> conv => whnf) | fail
        refine ⟨(i + 1, [] ++ [(labs p)[i]]), ⟨hlt, by show ((i + 1 : Nat) : Int) ≤ _; omega, (next hlt).symm⟩, by show (labs p).length - (i + 1) < (labs p).length - i; omega, weak_ren_to [(1, true)] rfl rfl rfl ⟨rfl, rfl, rfl, wrap_nat (m := 1) (by omega), trivial⟩⟩
      · rename_i h1 h2
        refine ACall.of_pure refJoin_nil rfl ?_
        (conv => whnf); (repeat' first | ((with_reducible refine Box.mk ?_); conv => whnf) | ((with_reducible refine And.intro (fun _ => ?_) (fun _ => ?_)) <;> conv => whnf) | fail)
        rw [← stop (.inr h2)]; rfl
      · rename_i h1
        rw [strs_len] at h1
        refine ACall.of_pure refJoin_nil rfl ?_
        (conv => whnf); (repeat' first | ((with_reducible refine Box.mk ?_); conv => whnf) | ((with_reducible refine And.intro (fun _ => ?_) (fun _ => ?_)) <;> conv => whnf) | fail)
        rw [← stop (.inl (by omega))]; rfl
    · have hx : ∀ y ∈ x :: l, y.length ≤ p.length := fun y hy => l2 y (List.mem_of_mem_take (by rw [hl] at hy; exact hy))
      have hx8 : (x :: l).length ≤ 8 := by rw [hl]; simp; omega
      have hb : (x :: l).length * p.length ≤ 8 * p.length := Nat.mul_le_mul_right _ hx8
      (conv => whnf); (repeat' first | ((with_reducible refine Box.mk ?_); conv => whnf) | ((with_reducible refine And.intro (fun _ => ?_) (fun _ => ?_)) <;> conv => whnf) | fail)
      · rename_i h1 h2
        rw [strs_len] at h1
        have hlt : i < (labs p).length := by omega
        refine ⟨by omega, [.str (labs p)[i]], strs_at hlt, rfl, ?_⟩
        conv => whnf
        repeat' first | ((with_reducible refine Box.mk ?_); conv => whnf) | ((with_reducible refine And.intro (fun _ => ?_) (fun _ => ?_)) <;> conv => whnf) | fail
        refine ⟨fun c hc => by rw [List.mem_singleton.1 hc]; exact ⟨rfl, rfl⟩, by show ((strs (x :: l)).length + 1) * 16 ≤ _; rw [strs_len]; omega, by show (strs (x :: l)).length + 1 ≤ _; rw [strs_len]; omega, ?_⟩
        conv => whnf
        repeat' first | ((with_reducible refine Box.mk ?_); conv => whnf) | ((with_reducible refine And.intro (fun _ => ?_) (fun _ => ?_)) <;> conv => whnf) | fail
        refine ⟨(i + 1, (x :: l) ++ [(labs p)[i]]), ⟨hlt, by show ((i + 1 : Nat) : Int) ≤ _; omega, (next hlt).symm⟩, by show (labs p).length - (i + 1) < (labs p).length - i; omega, weak_ren_to [(2, true)] rfl rfl ?_ ⟨rfl, rfl, rfl, wrap_nat (m := 1) (by omega), trivial⟩⟩
        show [Ob.row 9 1 (strs (x :: l) ++ [[.str (labs p)[i]]])] = [Ob.row 9 1 (strs (x :: (l ++ [(labs p)[i]])))]
        simp [strs]
      · rename_i h1 h2
        refine ACall.of_view (refJoin_ok (x :: l) p.length hx (by omega) (by omega)) rfl rfl ?_
        (conv => whnf); (repeat' first | ((with_reducible refine Box.mk ?_); conv => whnf) | ((with_reducible refine And.intro (fun _ => ?_) (fun _ => ?_)) <;> conv => whnf) | fail)
        rw [← stop (.inr h2)]; rfl
      · rename_i h1
        rw [strs_len] at h1
        refine ACall.of_view (refJoin_ok (x :: l) p.length hx (by omega) (by omega)) rfl rfl ?_
        (conv => whnf); (repeat' first | ((with_reducible refine Box.mk ?_); conv => whnf) | ((with_reducible refine And.intro (fun _ => ?_) (fun _ => ?_)) <;> conv => whnf) | fail)
        rw [← stop (.inl (by omega))]; rfl

theorem refSame_ok (a b : Bs) (ha : a.length < 4294967281) (hb : b.length < 4294967281) : PCall P 23 [.str a, .str b] (.int .i64 (cpl (labs a) (labs b))) := by
  refine PCall.of_awp tok mixed fn23 (Nat.le_of_ble_eq_true rfl) ?_
  conv => whnf
  repeat' first | ((with_reducible refine Box.mk ?_); conv => whnf) | ((with_reducible refine And.intro (fun _ => ?_) (fun _ => ?_)) <;> conv => whnf) | fail
  refine ACall.of_pure (refSplit_ok a ha) rfl ?_
  obtain ⟨l1, _⟩ := labs_len a
  obtain ⟨m1, _⟩ := labs_len b
  rcases path_cases a with ⟨e, e2⟩ | ⟨e, _⟩ <;> rw [e]
  all_goals ((conv => whnf); (repeat' first | ((with_reducible refine Box.mk ?_); conv => whnf) | ((with_reducible refine And.intro (fun _ => ?_) (fun _ => ?_)) <;> conv => whnf) | fail))
  all_goals refine ACall.of_pure (refSplit_ok b hb) rfl ?_
  all_goals (rcases path_cases b with ⟨f, f2⟩ | ⟨f, _⟩ <;> rw [f])
  all_goals ((conv => whnf); (repeat' first | ((with_reducible refine Box.mk ?_); conv => whnf) | ((with_reducible refine And.intro (fun _ => ?_) (fun _ => ?_)) <;> conv => whnf) | fail))
  all_goals
    refine aloop (fun i => i ≤ (labs a).length ∧ i ≤ (labs b).length ∧ ∀ j, j < i → ∃ x, (labs a)[j]? = some x ∧ (labs b)[j]? = some x)
      (fun i : Nat => ⟨envL [(5, .sl (strs (labs a))), (7, .sl (strs (labs b))), (9, .int .i64 i)], []⟩) (fun i => (labs a).length - i) 0 ⟨Nat.zero_le _, Nat.zero_le _, fun j hj => by omega⟩
      (weak_le ⟨by first | exact .inl rfl | exact .inr ⟨rfl, by rw [e2]; rfl⟩, by first | exact .inl rfl | exact .inr ⟨rfl, by rw [f2]; rfl⟩, .inl rfl, trivial⟩ rfl) ?_
    rintro i ⟨hi, hi', hsame⟩
    (conv => whnf); (repeat' first | ((with_reducible refine Box.mk ?_); conv => whnf) | ((with_reducible refine And.intro (fun _ => ?_) (fun _ => ?_)) <;> conv => whnf) | fail)
    · rename_i hlt
      rw [strs_len] at hlt
      have hlt1 : i < (labs a).length := by omega
      refine ⟨by kernel_rfl, ?_⟩
      (conv => whnf); (repeat' first | ((with_reducible refine Box.mk ?_); conv => whnf) | ((with_reducible refine And.intro (fun _ => ?_) (fun _ => ?_)) <;> conv => whnf) | fail)
      · rename_i hlt2
        rw [strs_len] at hlt2
        refine res1_eq (congrArg (AV.int .i64) ?_)
        rw [cpl_stop hsame fun x y hx hy _ => ?_]
        have h2 := (List.getElem?_eq_some_iff.1 hy).1
        omega
      · rename_i hlt2
        rw [strs_len] at hlt2
        have hlt2 : i < (labs b).length := by omega
        refine ⟨by omega, [.str (labs a)[i]], strs_at hlt1, rfl, ?_⟩
        (conv => whnf); (repeat' first | ((with_reducible refine Box.mk ?_); conv => whnf) | ((with_reducible refine And.intro (fun _ => ?_) (fun _ => ?_)) <;> conv => whnf) | fail)
        refine ⟨by omega, [.str (labs b)[i]], strs_at hlt2, rfl, ?_⟩
        (conv => whnf); (repeat' first | ((with_reducible refine Box.mk ?_); conv => whnf) | ((with_reducible refine And.intro (fun _ => ?_) (fun _ => ?_)) <;> conv => whnf) | fail)
        · rename_i heq
          refine ⟨i + 1, ⟨hlt1, hlt2, fun j hj => ?_⟩, by omega, weak_to ⟨rfl, rfl, wrap_nat (m := 1) (by omega), trivial⟩ rfl⟩
          by_cases hji : j = i
          · subst hji
            exact ⟨_, List.getElem?_eq_getElem hlt1, by rw [List.getElem?_eq_getElem hlt2]; exact congrArg some heq.symm⟩
          · exact hsame j (by omega)
        · rename_i hne
          refine res1_eq (congrArg (AV.int .i64) ?_)
          rw [cpl_stop hsame fun x y hx hy e => hne ?_]
          rw [List.getElem?_eq_getElem hlt1] at hx
          rw [List.getElem?_eq_getElem hlt2] at hy
          rw [Option.some.inj hx, Option.some.inj hy, e]
    · rename_i hlt
      rw [strs_len] at hlt
      have he : i = (labs a).length := by omega
      refine res1_eq (congrArg (AV.int .i64) ?_)
      rw [cpl_stop hsame fun x y hx hy _ => by have h1 := (List.getElem?_eq_some_iff.1 hx).1; omega, strs_len, he]

theorem lawSame_ok (l : List Bs) (hl : l.length ≤ 9223372036854775807) : PCall P 15 [.sl (strs l), .sl (strs l)] (.bool true) := by
  refine PCall.of_awp tok mixed fn15 (Nat.le_of_ble_eq_true rfl) ?_
  conv => whnf
  repeat' first | ((with_reducible refine Box.mk ?_); conv => whnf) | ((with_reducible refine And.intro (fun _ => ?_) (fun _ => ?_)) <;> conv => whnf) | fail
  · refine aloop (fun i => i ≤ l.length) (fun i : Nat => ⟨envL [(0, .sl (strs l)), (1, .sl (strs l)), (5, .int .i64 i)], []⟩) (fun i => l.length - i) 0 (Nat.zero_le _) (weak_to ⟨rfl, rfl, rfl, trivial⟩ rfl) ?_
    rintro i hi
    (conv => whnf); (repeat' first | ((with_reducible refine Box.mk ?_); conv => whnf) | ((with_reducible refine And.intro (fun _ => ?_) (fun _ => ?_)) <;> conv => whnf) | fail)
    · rename_i hlt
      rw [strs_len] at hlt
      have hlt1 : i < l.length := by omega
      refine ⟨by kernel_rfl, ?_⟩
      (conv => whnf); (repeat' first | ((with_reducible refine Box.mk ?_); conv => whnf) | ((with_reducible refine And.intro (fun _ => ?_) (fun _ => ?_)) <;> conv => whnf) | fail)
      refine ⟨by omega, [.str l[i]], strs_at hlt1, rfl, ?_⟩
      (conv => whnf); (repeat' first | ((with_reducible refine Box.mk ?_); conv => whnf) | ((with_reducible refine And.intro (fun _ => ?_) (fun _ => ?_)) <;> conv => whnf) | fail)
      refine ⟨by omega, [.str l[i]], strs_at hlt1, rfl, ?_⟩
      (conv => whnf); (repeat' first | ((with_reducible refine Box.mk ?_); conv => whnf) | ((with_reducible refine And.intro (fun _ => ?_) (fun _ => ?_)) <;> conv => whnf) | fail)
      · exact ⟨i + 1, hlt1, by omega, weak_to ⟨rfl, rfl, wrap_nat (m := 1) (by omega), trivial⟩ rfl⟩
      · exact absurd rfl ‹¬ _ = _›
    · rfl
  · exact absurd rfl ‹¬ _ = _›
theorem lawSame_nil : PCall P 15 [.nils, .nils] (.bool true) := by
  refine PCall.of_awp tok mixed fn15 (Nat.le_of_ble_eq_true rfl) ?_
  conv => whnf
  repeat' first | ((with_reducible refine Box.mk ?_); conv => whnf) | ((with_reducible refine And.intro (fun _ => ?_) (fun _ => ?_)) <;> conv => whnf) | fail
  · refine aloop (fun _ => True) (fun _ : Unit => ⟨envL [(0, .nils), (1, .nils), (5, .int .i64 0)], []⟩) (fun _ => 0) () trivial (weak_to ⟨rfl, rfl, rfl, trivial⟩ rfl) ?_
    rintro i _
    (conv => whnf); (repeat' first | ((with_reducible refine Box.mk ?_); conv => whnf) | ((with_reducible refine And.intro (fun _ => ?_) (fun _ => ?_)) <;> conv => whnf) | fail)
    · exact absurd ‹(0 : Int) < 0› (by decide)
    · rfl
  · exact absurd rfl ‹¬ _ = _›
theorem lawSame_path (p : Bs) : PCall P 15 [pathV p, pathV p] (.bool true) := by
  obtain ⟨l1, _⟩ := labs_len p
  rcases path_cases p with ⟨e, _⟩ | ⟨e, _⟩ <;> rw [e]
  · exact lawSame_nil
  · exact lawSame_ok _ (by omega)
end Go.Proofs.YtlmdacgkaailiaaDoor
