/- label, and the document's answer for it: what they compute. -/
import Derived.Test.YtlmdacgkaailiaaDoorLabel
namespace Go.Proofs.YtlmdacgkaailiaaDoor
open Go.Ve

/-! ### texts joined with dots -/
def joinD : List Bs → Bs
  | [] => []
  | [x] => x
  | x :: y :: r => x ++ 46 :: joinD (y :: r)
theorem joinBy_dot : ∀ (l : List Bs), joinBy [46] l = joinD l
  | [] => rfl
  | [x] => by simp [joinBy, joinD, List.intercalate]
  | x :: y :: r => by
    have ih := joinBy_dot (y :: r)
    simp only [joinBy, List.intercalate] at ih ⊢
    simp [joinD, List.intersperse, ← ih]
theorem joinD_snoc : ∀ {l : List Bs} (x : Bs), l ≠ [] → joinD (l ++ [x]) = joinD l ++ 46 :: x
  | [], x, h => absurd rfl h
  | [y], x, _ => rfl
  | y :: z :: r, x, _ => by
    have ih := joinD_snoc (l := z :: r) x (by simp)
    simp only [List.cons_append] at ih ⊢
    simp [joinD, ih]
theorem joinD_split : ∀ (s : Bs), joinD (splitDot s) = s
  | [] => rfl
  | c :: s => by
    have ih := joinD_split s
    have hne := splitDot_ne s
    simp only [splitDot]
    cases hs : splitDot s with
    | nil => exact absurd hs hne
    | cons x xs =>
      rw [hs] at ih
      split
      · rename_i e
        subst e
        simp [joinD, ih]
      · cases xs with
        | nil => simp only [joinD] at ih ⊢; rw [ih]
        | cons y ys => simp only [joinD] at ih ⊢; rw [← ih]; rfl
theorem joinD_len : ∀ (l : List Bs), (joinD l).length ≤ (l.map (·.length)).sum + l.length
  | [] => by simp [joinD]
  | [x] => by simp [joinD]
  | x :: y :: r => by
    have := joinD_len (y :: r)
    simp only [joinD, List.length_append, List.length_cons, List.map_cons, List.sum_cons] at this ⊢
    omega
theorem sum_le {l : List Bs} {n : Nat} (h : ∀ x ∈ l, x.length ≤ n) : (l.map (·.length)).sum ≤ l.length * n := by
  induction l with
  | nil => simp
  | cons x l ih =>
    have h1 := h x List.mem_cons_self
    have h2 := ih fun y hy => h y (List.mem_cons_of_mem _ hy)
    simp only [List.map_cons, List.sum_cons, List.length_cons, Nat.add_mul]
    omega

theorem splitDot_cut : ∀ {s : Bs} {k : Nat}, k ≤ s.length → (∀ (j : Nat) (c : UInt8), j < k → s[j]? = some c → c ≠ 46) →
    (k = s.length → splitDot s = [s]) ∧ (s[k]? = some 46 → splitDot s = s.take k :: splitDot (s.drop (k + 1)))
  | [], k, hk, _ => by
    refine ⟨fun _ => rfl, fun h => by simp at h⟩
  | c :: s, 0, _, _ => by
    refine ⟨fun h => by simp at h, fun h => ?_⟩
    simp at h
    subst h
    simp [splitDot]
  | c :: s, k + 1, hk, hn => by
    have hc : c ≠ 46 := hn 0 c (by omega) rfl
    obtain ⟨h1, h2⟩ := splitDot_cut (s := s) (k := k) (by simpa using hk) (fun j x hj hx => hn (j + 1) x (by omega) (by simpa using hx))
    refine ⟨fun h => ?_, fun h => ?_⟩
    · simp [splitDot, hc, h1 (by simpa using h)]
    · simp [splitDot, hc, h2 (by simpa using h)]

/-- How many first elements are alike. -/
def cpl : List Bs → List Bs → Nat
  | x :: xs, y :: ys => if x = y then cpl xs ys + 1 else 0
  | _, _ => 0
theorem cpl_stop : ∀ {l m : List Bs} {i : Nat}, (∀ j, j < i → ∃ x, l[j]? = some x ∧ m[j]? = some x) → (∀ x y, l[i]? = some x → m[i]? = some y → x ≠ y) → cpl l m = i
  | [], m, i, h, _ => by
    cases i with
    | zero => simp [cpl]
    | succ i => obtain ⟨x, hx, _⟩ := h 0 (by omega); simp at hx
  | x :: l, [], i, h, _ => by
    cases i with
    | zero => simp [cpl]
    | succ i => obtain ⟨x, _, hx⟩ := h 0 (by omega); simp at hx
  | x :: l, y :: m, 0, _, h => by
    have := h x y rfl rfl
    simp [cpl, this]
  | x :: l, y :: m, i + 1, h, h' => by
    obtain ⟨z, h1, h2⟩ := h 0 (by omega)
    simp at h1 h2
    subst h1 h2
    rw [cpl, if_pos rfl, cpl_stop (l := l) (m := m) (i := i) (fun j hj => by simpa using h (j + 1) (by omega)) (fun a b ha hb => h' a b (by simpa using ha) (by simpa using hb))]
theorem cpl_le : ∀ (l m : List Bs), cpl l m ≤ l.length ∧ cpl l m ≤ m.length
  | [], m => by simp [cpl]
  | x :: l, [] => by simp [cpl]
  | x :: l, y :: m => by
    have := cpl_le l m
    rw [cpl]
    split <;> simp <;> omega

theorem strs_at {l : List Bs} {i : Nat} (h : i < l.length) : (strs l)[(i : Int).toNat]? = some [.str l[i]] := by
  show (strs l)[i]? = _
  rw [strs_get, List.getElem?_eq_getElem h]; rfl

/-! ### label -/
theorem labs_len (p : Bs) : (labs p).length ≤ 8 ∧ ∀ x ∈ labs p, x.length ≤ p.length := by
  rcases path_cases p with ⟨_, e⟩ | ⟨_, e, hne, hok⟩
  · simp [e]
  · rw [e]
    have hp : p.isEmpty = false := by cases p with | nil => exact absurd rfl hne | cons => rfl
    simp [okPath, hp] at hok
    exact ⟨hok.1, (splitDot_len p).2⟩

theorem top_ok (p : Bs) (n : Int) (h : p.length < 4294967281) : PCall P 20 [.str p, .int .i64 n] (.str (joinD ((labs p).take n.toNat))) := by
  refine PCall.of_awp tok mixed fn20 (Nat.le_of_ble_eq_true rfl) ?_
  conv => whnf
  repeat' first | ((with_reducible refine Box.mk ?_); conv => whnf) | ((with_reducible refine And.intro (fun _ => ?_) (fun _ => ?_)) <;> conv => whnf) | fail
  refine ACall.of_pure (split_ok p h) rfl ?_
  obtain ⟨l1, l2⟩ := labs_len p
  rcases path_cases p with ⟨e, e2⟩ | ⟨e, _⟩ <;> rw [e]
  · (conv => whnf); (repeat' first | ((with_reducible refine Box.mk ?_); conv => whnf) | ((with_reducible refine And.intro (fun _ => ?_) (fun _ => ?_)) <;> conv => whnf) | fail)
    have hk : min (max n 0) 0 = 0 := by omega
    refine ⟨by omega, by show min (max n 0) 0 ≤ (0 : Int); omega, ?_⟩
    (conv => whnf); (repeat' first | ((with_reducible refine Box.mk ?_); conv => whnf) | ((with_reducible refine And.intro (fun _ => ?_) (fun _ => ?_)) <;> conv => whnf) | fail)
    refine ACall.of_pure (lib_Join_nil _) rfl ?_
    (conv => whnf); (repeat' first | ((with_reducible refine Box.mk ?_); conv => whnf) | ((with_reducible refine And.intro (fun _ => ?_) (fun _ => ?_)) <;> conv => whnf) | fail)
    rw [e2]; simp [joinD, mkRes]
  · (conv => whnf); (repeat' first | ((with_reducible refine Box.mk ?_); conv => whnf) | ((with_reducible refine And.intro (fun _ => ?_) (fun _ => ?_)) <;> conv => whnf) | fail)
    have hk : min (max n 0) ((strs (labs p)).length : Int) = ((min n.toNat (labs p).length : Nat) : Int) := by
      rw [strs_len]; omega
    refine ⟨by show (0 : Int) ≤ min (max n 0) ((strs (labs p)).length : Int); omega, by show min (max n 0) ((strs (labs p)).length : Int) ≤ ((strs (labs p)).length : Int); omega, ?_⟩
    (conv => whnf); (repeat' first | ((with_reducible refine Box.mk ?_); conv => whnf) | ((with_reducible refine And.intro (fun _ => ?_) (fun _ => ?_)) <;> conv => whnf) | fail)
    refine ⟨fun c hc => by obtain ⟨x, _, rfl⟩ := List.mem_map.1 hc; rfl, ?_⟩
    have ht : ((strs (labs p)).take (min (max n 0) ((strs (labs p)).length : Int)).toNat).drop 0 = strs ((labs p).take n.toNat) := by
      rw [hk]
      simp only [List.drop_zero, strs, Int.toNat_natCast, ← List.map_take]
      congr 1
      rw [← List.take_take, List.take_length]
    rw [ht]
    (conv => whnf); (repeat' first | ((with_reducible refine Box.mk ?_); conv => whnf) | ((with_reducible refine And.intro (fun _ => ?_) (fun _ => ?_)) <;> conv => whnf) | fail)
    refine ACall.of_pure (lib_Join _ _ ?_ ?_) rfl ?_
    · simp; omega
    · rw [joinBy_dot]
      have h1 := joinD_len ((labs p).take n.toNat)
      have h2 := sum_le (l := (labs p).take n.toNat) (n := p.length) (fun x hx => l2 x (List.mem_of_mem_take hx))
      have h3 : ((labs p).take n.toNat).length ≤ 8 := by simp; omega
      have h4 : ((labs p).take n.toNat).length * p.length ≤ 8 * p.length := Nat.mul_le_mul_right _ h3
      omega
    (conv => whnf); (repeat' first | ((with_reducible refine Box.mk ?_); conv => whnf) | ((with_reducible refine And.intro (fun _ => ?_) (fun _ => ?_)) <;> conv => whnf) | fail)
    rw [joinBy_dot]; rfl

theorem lSame_ok (a b : Bs) (ha : a.length < 4294967281) (hb : b.length < 4294967281) : PCall P 22 [.str a, .str b] (.int .i64 (cpl (labs a) (labs b))) := by
  refine PCall.of_awp tok mixed fn22 (Nat.le_of_ble_eq_true rfl) ?_
  conv => whnf
  repeat' first | ((with_reducible refine Box.mk ?_); conv => whnf) | ((with_reducible refine And.intro (fun _ => ?_) (fun _ => ?_)) <;> conv => whnf) | fail
  refine ACall.of_pure (split_ok a ha) rfl ?_
  obtain ⟨l1, _⟩ := labs_len a
  obtain ⟨m1, _⟩ := labs_len b
  rcases path_cases a with ⟨e, e2⟩ | ⟨e, _⟩ <;> rw [e]
  all_goals ((conv => whnf); (repeat' first | ((with_reducible refine Box.mk ?_); conv => whnf) | ((with_reducible refine And.intro (fun _ => ?_) (fun _ => ?_)) <;> conv => whnf) | fail))
  all_goals refine ACall.of_pure (split_ok b hb) rfl ?_
  all_goals (rcases path_cases b with ⟨f, f2⟩ | ⟨f, _⟩ <;> rw [f])
  all_goals ((conv => whnf); (repeat' first | ((with_reducible refine Box.mk ?_); conv => whnf) | ((with_reducible refine And.intro (fun _ => ?_) (fun _ => ?_)) <;> conv => whnf) | fail))
  all_goals
    refine aloop (fun i => i ≤ (labs a).length ∧ i ≤ (labs b).length ∧ ∀ j, j < i → ∃ x, (labs a)[j]? = some x ∧ (labs b)[j]? = some x)
      (fun i : Nat => ⟨envL [(5, .sl (strs (labs a))), (7, .sl (strs (labs b))), (9, .int .i64 i)], []⟩) (fun i => (labs a).length - i) 0 ⟨Nat.zero_le _, Nat.zero_le _, fun j hj => by omega⟩
      (weak_le ⟨by first | exact .inl rfl | exact .inr ⟨rfl, by rw [e2]; rfl⟩, by first | exact .inl rfl | exact .inr ⟨rfl, by rw [f2]; rfl⟩, .inl rfl, trivial⟩ rfl) ?_
    rintro i ⟨hi, hi', hsame⟩
    (conv => whnf)
    refine ⟨by kernel_rfl, ?_⟩
    (conv => whnf); (repeat' first | ((with_reducible refine Box.mk ?_); conv => whnf) | ((with_reducible refine And.intro (fun _ => ?_) (fun _ => ?_)) <;> conv => whnf) | fail)
  all_goals first
    | (rename_i hlt
       rw [strs_len, strs_len] at hlt
       have hlt1 : i < (labs a).length := by omega
       have hlt2 : i < (labs b).length := by omega
       refine ⟨by omega, [.str (labs a)[i]], strs_at hlt1, rfl, ?_⟩
       (conv => whnf); (repeat' first | ((with_reducible refine Box.mk ?_); conv => whnf) | ((with_reducible refine And.intro (fun _ => ?_) (fun _ => ?_)) <;> conv => whnf) | fail)
       refine ⟨by omega, [.str (labs b)[i]], strs_at hlt2, rfl, ?_⟩
       (conv => whnf); (repeat' first | ((with_reducible refine Box.mk ?_); conv => whnf) | ((with_reducible refine And.intro (fun _ => ?_) (fun _ => ?_)) <;> conv => whnf) | fail)
       · rename_i heq
         refine ⟨i + 1, ⟨hlt1, hlt2, fun j hj => ?_⟩, by omega, weak_to ⟨rfl, rfl, wrap_nat (m := 1) (by omega), trivial⟩ rfl⟩
         by_cases hji : j = i
         · subst hji
           exact ⟨_, List.getElem?_eq_getElem hlt1, by rw [List.getElem?_eq_getElem hlt2]; exact congrArg some heq.symm⟩
         · exact hsame j (by omega)
       · rename_i hne
         refine res1_eq (congrArg (AV.int .i64) ?_)
         rw [cpl_stop hsame fun x y hx hy e => hne ?_]
         rw [List.getElem?_eq_getElem hlt1] at hx
         rw [List.getElem?_eq_getElem hlt2] at hy
         rw [Option.some.inj hx, Option.some.inj hy, e])
    | (rename_i hlt
       rw [strs_len, strs_len] at hlt
       refine res1_eq (congrArg (AV.int .i64) ?_)
       rw [cpl_stop hsame fun x y hx hy _ => ?_]
       have h1 := (List.getElem?_eq_some_iff.1 hx).1
       have h2 := (List.getElem?_eq_some_iff.1 hy).1
       omega)

/-! ### the document's answer -/
theorem refIsLabel_ok (s : Bs) (h : s.length ≤ 9223372036854775807) : PCall P 17 [.str s] (.bool (isLabel s)) := by
  refine PCall.of_awp tok mixed fn17 (Nat.le_of_ble_eq_true rfl) ?_
  conv => whnf
  repeat' first | ((with_reducible refine Box.mk ?_); conv => whnf) | ((with_reducible refine And.intro (fun _ => ?_) (fun _ => ?_)) <;> conv => whnf) | fail
  refine aloop (fun i => i ≤ s.length ∧ ∀ j (c : UInt8), j < i → s[j]? = some c → okByte c.toNat) (fun i : Nat => ⟨envL [(0, .str s), (3, .int .i64 i)], []⟩)
    (fun i => s.length - i) 0 ⟨Nat.zero_le _, fun j c h => by omega⟩ (weak_to ⟨rfl, rfl, trivial⟩ rfl) ?_
  rintro i ⟨hi, hok⟩
  conv => whnf
  repeat' first | ((with_reducible refine Box.mk ?_); conv => whnf) | ((with_reducible refine And.intro (fun _ => ?_) (fun _ => ?_)) <;> conv => whnf) | fail
  · rename_i hlt
    have hlt' : i < s.length := by omega
    refine ⟨by omega, s[i], List.getElem?_eq_getElem hlt', ?_⟩
    conv => whnf
    repeat' first | ((with_reducible refine Box.mk ?_); conv => whnf) | ((with_reducible refine And.intro (fun _ => ?_) (fun _ => ?_)) <;> conv => whnf) | fail
    all_goals first
      | (have hb : okByte (s[i].toNat : Int) := by unfold okByte; omega
         refine ⟨i + 1, ⟨hlt', fun j c hj hc => ?_⟩, by omega, weak_to ⟨rfl, wrap_nat (m := 1) (by omega), trivial⟩ rfl⟩
         by_cases hji : j = i
         · subst hji
           rw [List.getElem?_eq_getElem hlt'] at hc
           cases hc
           exact hb
         · exact hok j c (by omega) hc)
      | (have hb : ¬ okByte (s[i].toNat : Int) := by unfold okByte; omega
         refine bool_false ?_
         have : ¬ (∀ c ∈ s, okByte c.toNat) := fun h => hb (h _ (List.getElem_mem hlt'))
         simp [isLabel, this])
  · have hall : ∀ c ∈ s, okByte c.toNat := fun c hc => by
      obtain ⟨j, hj⟩ := List.getElem?_of_mem hc
      exact hok j c (by have := (List.getElem?_eq_some_iff.1 hj).1; omega) hj
    exact bool_true (by simp [isLabel]; exact ⟨hall, by omega⟩)
  · exact bool_false (by simp [isLabel]; omega)
  · exact bool_false (by simp [isLabel]; omega)

theorem joinD_take {l : List Bs} {i : Nat} (h : i < l.length) : joinD (l.take (i + 1)) = (if i = 0 then l[i] else joinD (l.take i) ++ 46 :: l[i]) := by
  rw [List.take_succ_eq_append_getElem h]
  split
  · rename_i e; subst e; rfl
  · rename_i e
    exact joinD_snoc _ (by simp; exact ⟨e, by intro h0; subst h0; simp at h⟩)
theorem joinD_take_len {l : List Bs} {B i : Nat} (h : ∀ x ∈ l, x.length ≤ B) : (joinD (l.take i)).length ≤ l.length * B + l.length := by
  have h1 := joinD_len (l.take i)
  have h2 := sum_le (l := l.take i) (n := B) fun x hx => h x (List.mem_of_mem_take hx)
  have h3 : (l.take i).length ≤ l.length := by simp; omega
  have h4 := Nat.mul_le_mul_right B h3
  omega

theorem refJoin_ok (l : List Bs) (B : Nat) (hB : ∀ x ∈ l, x.length ≤ B) (h : l.length * B + l.length + B + 1 ≤ 9223372036854775807) (hl : l.length ≤ 9223372036854775807) :
    PCall P 25 [.sl (strs l)] (.str (joinD l)) := by
  refine PCall.of_awp tok mixed fn25 (Nat.le_of_ble_eq_true rfl) ?_
  conv => whnf
  repeat' first | ((with_reducible refine Box.mk ?_); conv => whnf) | ((with_reducible refine And.intro (fun _ => ?_) (fun _ => ?_)) <;> conv => whnf) | fail
  refine aloop (fun i => i ≤ l.length) (fun i : Nat => ⟨envL [(0, .sl (strs l)), (3, .str (joinD (l.take i))), (4, .int .i64 i)], []⟩)
    (fun i => l.length - i) 0 (Nat.zero_le _) (weak_to ⟨rfl, rfl, rfl, trivial⟩ rfl) ?_
  rintro i hi
  conv => whnf
  repeat' first | ((with_reducible refine Box.mk ?_); conv => whnf) | ((with_reducible refine And.intro (fun _ => ?_) (fun _ => ?_)) <;> conv => whnf) | fail
  · rename_i hlt h0
    rw [strs_len] at hlt
    have hlt' : i < l.length := by omega
    have hj := joinD_take_len (i := i) hB
    have hx := hB _ (List.getElem_mem hlt')
    refine ⟨by show (joinD (l.take i)).length + 1 ≤ _; omega, ?_⟩
    conv => whnf
    repeat' first | ((with_reducible refine Box.mk ?_); conv => whnf) | ((with_reducible refine And.intro (fun _ => ?_) (fun _ => ?_)) <;> conv => whnf) | fail
    refine ⟨by omega, [.str l[i]], strs_at hlt', rfl, ?_⟩
    conv => whnf
    repeat' first | ((with_reducible refine Box.mk ?_); conv => whnf) | ((with_reducible refine And.intro (fun _ => ?_) (fun _ => ?_)) <;> conv => whnf) | fail
    refine ⟨by simp; omega, ?_⟩
    conv => whnf
    repeat' first | ((with_reducible refine Box.mk ?_); conv => whnf) | ((with_reducible refine And.intro (fun _ => ?_) (fun _ => ?_)) <;> conv => whnf) | fail
    refine ⟨i + 1, hlt', by omega, weak_to ⟨rfl, ?_, wrap_nat (m := 1) (by omega), trivial⟩ rfl⟩
    rw [joinD_take hlt', if_neg (by omega)]
    show AV.str _ = AV.str _
    simp
  · rename_i hlt h0
    rw [strs_len] at hlt
    have hlt' : i < l.length := by omega
    have hx := hB _ (List.getElem_mem hlt')
    have hi0 : i = 0 := by omega
    subst hi0
    refine ⟨by omega, [.str l[0]], strs_at hlt', rfl, ?_⟩
    conv => whnf
    repeat' first | ((with_reducible refine Box.mk ?_); conv => whnf) | ((with_reducible refine And.intro (fun _ => ?_) (fun _ => ?_)) <;> conv => whnf) | fail
    refine ⟨by simp [joinD]; omega, ?_⟩
    conv => whnf
    repeat' first | ((with_reducible refine Box.mk ?_); conv => whnf) | ((with_reducible refine And.intro (fun _ => ?_) (fun _ => ?_)) <;> conv => whnf) | fail
    refine ⟨0 + 1, hlt', by omega, weak_to ⟨rfl, ?_, wrap_nat (n := 0) (m := 1) (by omega), trivial⟩ rfl⟩
    rw [joinD_take hlt', if_pos rfl]
    rfl
  · rename_i hlt
    rw [strs_len] at hlt
    refine res1_eq (congrArg AV.str ?_)
    rw [List.take_of_length_le (by omega)]
theorem refJoin_nil : PCall P 25 [.nils] (.str []) := by
  refine PCall.of_awp tok mixed fn25 (Nat.le_of_ble_eq_true rfl) ?_
  conv => whnf
  repeat' first | ((with_reducible refine Box.mk ?_); conv => whnf) | ((with_reducible refine And.intro (fun _ => ?_) (fun _ => ?_)) <;> conv => whnf) | fail
  refine aloop (fun _ => True) (fun _ : Unit => ⟨envL [(0, .nils), (3, .str []), (4, .int .i64 0)], []⟩)
    (fun i => 0) () trivial (weak_to ⟨rfl, rfl, rfl, trivial⟩ rfl) ?_
  rintro i _
  conv => whnf
  repeat' first | ((with_reducible refine Box.mk ?_); conv => whnf) | ((with_reducible refine And.intro (fun _ => ?_) (fun _ => ?_)) <;> conv => whnf) | fail
  all_goals first
    | exact absurd ‹(0 : Int) < 0› (by decide)
    | rfl
end Go.Proofs.YtlmdacgkaailiaaDoor
