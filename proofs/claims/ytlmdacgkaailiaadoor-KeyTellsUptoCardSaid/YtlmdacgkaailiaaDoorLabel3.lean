/- label, and the document's answer for it: the splitting by hand. -/
import Derived.Test.YtlmdacgkaailiaaDoorLabel2
namespace Go.Proofs.YtlmdacgkaailiaaDoor
open Go.Ve

theorem split_step {p : Bs} {f i : Nat} (hfi : f ≤ i) (hi : i ≤ p.length) (hn : ∀ (j : Nat) (c : UInt8), f ≤ j → j < i → p[j]? = some c → c ≠ 46) :
    (p[i]? = some 46 → splitDot (p.drop f) = (p.take i).drop f :: splitDot (p.drop (i + 1))) ∧ (i = p.length → splitDot (p.drop f) = [(p.take i).drop f]) := by
  have hc := splitDot_cut (s := p.drop f) (k := i - f) (by simp; omega) (fun j c hj hx => hn (f + j) c (by omega) (by omega) (by simpa [List.getElem?_drop] using hx))
  have e : (p.drop f).take (i - f) = (p.take i).drop f := by rw [List.drop_take]
  refine ⟨fun h => ?_, fun h => ?_⟩
  · rw [hc.2 (by rw [List.getElem?_drop, Nat.add_sub_cancel' hfi]; exact h), e, List.drop_drop]
    congr 3; omega
  · rw [hc.1 (by simp; omega)]
    have : (p.take i).drop f = p.drop f := by rw [List.take_of_length_le (by omega)]
    rw [this]

theorem okPath_false {p : Bs} (hp : p ≠ []) (h : (∃ x ∈ splitDot p, isLabel x = false) ∨ 8 < (splitDot p).length) : okPath p = false ∧ pathV p = .nils := by
  have hp' : p.isEmpty = false := by cases p with | nil => exact absurd rfl hp | cons => rfl
  have : okPath p = false := by
    simp only [okPath, hp', Bool.false_or, Bool.and_eq_false_iff, decide_eq_false_iff_not, List.all_eq_false]
    rcases h with ⟨x, h1, h2⟩ | h
    · exact .inr ⟨x, h1, by simp [h2]⟩
    · exact .inl (by omega)
  exact ⟨this, by simp [pathV, this]⟩
theorem okPath_true {p : Bs} (hp : p ≠ []) (h : ∀ x ∈ splitDot p, isLabel x = true) (h' : (splitDot p).length ≤ 8) : okPath p = true ∧ pathV p = .sl (strs (splitDot p)) := by
  have hp' : p.isEmpty = false := by cases p with | nil => exact absurd rfl hp | cons => rfl
  have : okPath p = true := by
    simp only [okPath, hp', Bool.false_or, Bool.and_eq_true, decide_eq_true_eq, List.all_eq_true]
    exact ⟨h', h⟩
  exact ⟨this, by simp [pathV, this, hp']⟩

/-- A list of texts that is built: none yet; or a row of one's own. -/
def lv : List Bs → AV
  | [] => .nils
  | _ :: _ => .own 0
def lh : List Bs → Hp
  | [] => []
  | x :: l => [.row 9 1 (strs (x :: l))]

structure SInv (p : Bs) (i f : Nat) (l : List Bs) : Prop where
  bd : i ≤ p.length + 1
  len : l.length ≤ 8
  lab : ∀ x ∈ l, isLabel x = true
  mid : i ≤ p.length → f ≤ i ∧ (∀ (j : Nat) (c : UInt8), f ≤ j → j < i → p[j]? = some c → c ≠ 46) ∧ splitDot p = l ++ splitDot (p.drop f)
  fin : i = p.length + 1 → splitDot p = l

theorem SInv.go {p : Bs} {i f : Nat} {l : List Bs} (h : SInv p i f l) (hi : i < p.length) (hc : p[i] ≠ 46) : SInv p (i + 1) f l := by
  obtain ⟨h1, h2, h3⟩ := h.mid (by omega)
  refine ⟨by omega, h.len, h.lab, fun _ => ⟨by omega, fun j c hj hj' hx => ?_, h3⟩, fun e => by omega⟩
  by_cases hji : j = i
  · subst hji
    rw [List.getElem?_eq_getElem hi] at hx
    rw [← Option.some.inj hx]; exact hc
  · exact h2 j c hj (by omega) hx
theorem SInv.piece {p : Bs} {i f : Nat} {l : List Bs} (h : SInv p i f l) (hi : i ≤ p.length) (hc : ∀ h : i < p.length, p[i] = 46) : f ≤ i ∧ ∃ r, splitDot p = l ++ (p.take i).drop f :: r := by
  obtain ⟨h1, h2, h3⟩ := h.mid hi
  obtain ⟨k1, k2⟩ := split_step h1 hi h2
  refine ⟨h1, ?_⟩
  by_cases hlt : i < p.length
  · exact ⟨_, by rw [h3, k1 (by rw [List.getElem?_eq_getElem hlt, hc hlt])]⟩
  · exact ⟨[], by rw [h3, k2 (by omega)]⟩
theorem SInv.next {p : Bs} {i f : Nat} {l : List Bs} (h : SInv p i f l) (hi : i ≤ p.length) (hc : ∀ h : i < p.length, p[i] = 46) (hl : isLabel ((p.take i).drop f) = true) (h8 : l.length < 8) : SInv p (i + 1) (i + 1) (l ++ [(p.take i).drop f]) := by
  obtain ⟨h1, h2, h3⟩ := h.mid hi
  obtain ⟨k1, k2⟩ := split_step h1 hi h2
  refine ⟨by omega, by simp; omega, fun x hx => ?_, fun hlt => ⟨Nat.le_refl _, fun j c hj hj' => by omega, ?_⟩, fun e => ?_⟩
  · rcases List.mem_append.1 hx with hx | hx
    · exact h.lab x hx
    · rw [List.mem_singleton.1 hx]; exact hl
  · rw [h3, k1 (by rw [List.getElem?_eq_getElem (by omega), hc (by omega)])]; simp
  · rw [h3, k2 (by omega)]

theorem refSplit_ok (p : Bs) (h : p.length < 4294967281) : PCall P 14 [.str p] (.tup [pathV p, .bool (okPath p)]) := by
  refine PCall.of_awp tok mixed fn14 (Nat.le_of_ble_eq_true rfl) ?_
  conv => whnf
  repeat' first | ((with_reducible refine Box.mk ?_); conv => whnf) | ((with_reducible refine And.intro (fun _ => ?_) (fun _ => ?_)) <;> conv => whnf) | fail
  refine aloop (fun x : Nat × Nat × List Bs => SInv p x.1 x.2.1 x.2.2) (fun x => match x with | (i, f, l) => ⟨envL [(0, .str p), (4, lv l), (5, .int .i64 f), (6, .int .i64 i)], lh l⟩)
    (fun x => p.length + 1 - x.1) (0, 0, []) ⟨by simp, by simp, by simp, fun _ => ⟨Nat.le_refl _, fun j c _ hj => by simp at hj, rfl⟩, fun e => by simp at e⟩ (weak_to ⟨rfl, rfl, rfl, rfl, trivial⟩ rfl) ?_
  rintro ⟨i, f, l⟩ (hI : SInv p i f l)
  have hi1 := hI.bd
  have h8 := hI.len
  rcases l with _ | ⟨x, l⟩
  · (conv => whnf); (repeat' first | ((with_reducible refine Box.mk ?_); conv => whnf) | ((with_reducible refine And.intro (fun _ => ?_) (fun _ => ?_)) <;> conv => whnf) | fail)
    · rename_i h1 h2 h3
      have hlt : i < p.length := by omega
      refine ⟨by omega, p[i], List.getElem?_eq_getElem hlt, ?_⟩
      conv => whnf
      repeat' first | ((with_reducible refine Box.mk ?_); conv => whnf) | ((with_reducible refine And.intro (fun _ => ?_) (fun _ => ?_)) <;> conv => whnf) | fail
      · rename_i h4
        have hc : ∀ h : i < p.length, p[i] = 46 := fun _ => by
          apply UInt8.toNat_inj.1
          exact_mod_cast h4
        obtain ⟨hf, r, hr⟩ := hI.piece (by omega) hc
        have hne : p ≠ [] := by intro e; subst e; simp at *
        refine ⟨by omega, by omega, by omega, by show (f : Int) ≤ (i : Int); omega, ?_⟩
        conv => whnf
        repeat' first | ((with_reducible refine Box.mk ?_); conv => whnf) | ((with_reducible refine And.intro (fun _ => ?_) (fun _ => ?_)) <;> conv => whnf) | fail
        have hpl : ((p.take i).drop f).length ≤ p.length := by simp; omega
        refine ACall.of_pure (refIsLabel_ok ((p.take i).drop f) (by omega)) rfl ?_
        cases hb : isLabel ((p.take i).drop f)
        · (conv => whnf); (repeat' first | ((with_reducible refine Box.mk ?_); conv => whnf) | ((with_reducible refine And.intro (fun _ => ?_) (fun _ => ?_)) <;> conv => whnf) | fail)
          obtain ⟨b1, b2⟩ := okPath_false hne (.inl ⟨_, by rw [hr]; simp, hb⟩)
          refine res_eq ?_
          rw [b1, b2]; rfl
        · (conv => whnf); (repeat' first | ((with_reducible refine Box.mk ?_); conv => whnf) | ((with_reducible refine And.intro (fun _ => ?_) (fun _ => ?_)) <;> conv => whnf) | fail)
          all_goals first
            | (exact absurd ‹(8 : Int) ≤ 0› (by decide))
            | (rename_i h9
               have h9 : (8 : Int) ≤ ((strs (x :: l)).length : Int) := h9
               rw [strs_len] at h9
               obtain ⟨b1, b2⟩ := okPath_false hne (.inr (by rw [hr]; simp at h9 ⊢; omega))
               refine res_eq ?_
               rw [b1, b2]; rfl)
            | skip
          refine ⟨by omega, by omega, by omega, by show (f : Int) ≤ (i : Int); omega, ?_⟩
          conv => whnf
          repeat' first | ((with_reducible refine Box.mk ?_); conv => whnf) | ((with_reducible refine And.intro (fun _ => ?_) (fun _ => ?_)) <;> conv => whnf) | fail
          refine ⟨fun c hc => by rw [List.mem_singleton.1 hc]; exact ⟨rfl, rfl⟩, fun e => absurd e (by simp), fun _ => ⟨Nat.le_of_ble_eq_true rfl, Nat.le_of_ble_eq_true rfl, ?_⟩⟩
          conv => whnf
          repeat' first | ((with_reducible refine Box.mk ?_); conv => whnf) | ((with_reducible refine And.intro (fun _ => ?_) (fun _ => ?_)) <;> conv => whnf) | fail
          refine ⟨(i + 1, i + 1, [] ++ [(p.take i).drop f]), hI.next (by omega) hc hb (by simp), by show p.length + 1 - (i + 1) < p.length + 1 - i; omega, weak_ren_to [(1, true)] rfl rfl rfl ⟨rfl, rfl, wrap_nat (m := 1) (by omega), wrap_nat (m := 1) (by omega), trivial⟩⟩
      · rename_i h4
        have hc : p[i] ≠ 46 := fun e => h4 (by rw [e]; rfl)
        exact ⟨(i + 1, f, []), hI.go hlt hc, by show p.length + 1 - (i + 1) < p.length + 1 - i; omega, weak_to ⟨rfl, rfl, rfl, wrap_nat (m := 1) (by omega), trivial⟩ rfl⟩
    · rename_i h1 h2 h3
      have hc : ∀ h : i < p.length, p[i] = 46 := fun h => by omega
      obtain ⟨hf, r, hr⟩ := hI.piece (by omega) hc
      have hne : p ≠ [] := by intro e; subst e; simp at *
      refine ⟨by omega, by omega, by omega, by show (f : Int) ≤ (i : Int); omega, ?_⟩
      conv => whnf
      repeat' first | ((with_reducible refine Box.mk ?_); conv => whnf) | ((with_reducible refine And.intro (fun _ => ?_) (fun _ => ?_)) <;> conv => whnf) | fail
      have hpl : ((p.take i).drop f).length ≤ p.length := by simp; omega
      refine ACall.of_pure (refIsLabel_ok ((p.take i).drop f) (by omega)) rfl ?_
      cases hb : isLabel ((p.take i).drop f)
      · (conv => whnf); (repeat' first | ((with_reducible refine Box.mk ?_); conv => whnf) | ((with_reducible refine And.intro (fun _ => ?_) (fun _ => ?_)) <;> conv => whnf) | fail)
        obtain ⟨b1, b2⟩ := okPath_false hne (.inl ⟨_, by rw [hr]; simp, hb⟩)
        refine res_eq ?_
        rw [b1, b2]; rfl
      · (conv => whnf); (repeat' first | ((with_reducible refine Box.mk ?_); conv => whnf) | ((with_reducible refine And.intro (fun _ => ?_) (fun _ => ?_)) <;> conv => whnf) | fail)
        all_goals first
          | (exact absurd ‹(8 : Int) ≤ 0› (by decide))
          | (rename_i h9
             have h9 : (8 : Int) ≤ ((strs (x :: l)).length : Int) := h9
             rw [strs_len] at h9
             obtain ⟨b1, b2⟩ := okPath_false hne (.inr (by rw [hr]; simp at h9 ⊢; omega))
             refine res_eq ?_
             rw [b1, b2]; rfl)
          | skip
        refine ⟨by omega, by omega, by omega, by show (f : Int) ≤ (i : Int); omega, ?_⟩
        conv => whnf
        repeat' first | ((with_reducible refine Box.mk ?_); conv => whnf) | ((with_reducible refine And.intro (fun _ => ?_) (fun _ => ?_)) <;> conv => whnf) | fail
        refine ⟨fun c hc => by rw [List.mem_singleton.1 hc]; exact ⟨rfl, rfl⟩, fun e => absurd e (by simp), fun _ => ⟨Nat.le_of_ble_eq_true rfl, Nat.le_of_ble_eq_true rfl, ?_⟩⟩
        conv => whnf
        repeat' first | ((with_reducible refine Box.mk ?_); conv => whnf) | ((with_reducible refine And.intro (fun _ => ?_) (fun _ => ?_)) <;> conv => whnf) | fail
        refine ⟨(i + 1, i + 1, [] ++ [(p.take i).drop f]), hI.next (by omega) hc hb (by simp), by show p.length + 1 - (i + 1) < p.length + 1 - i; omega, weak_ren_to [(1, true)] rfl rfl rfl ⟨rfl, rfl, wrap_nat (m := 1) (by omega), wrap_nat (m := 1) (by omega), trivial⟩⟩
    · rename_i h1 h2
      have hp : p = [] := List.length_eq_zero_iff.1 (by omega)
      subst hp
      have h3 := (hI.mid (by simpa using h1)).2.2
      rfl
    · rename_i h1
      have h2 := hI.fin (by omega)
      have hne : p ≠ [] := by
        intro e
        subst e
        have h3 := hI.lab [] (by rw [← h2]; simp [splitDot])
        simp [isLabel] at h3
      exact absurd h2 (splitDot_ne p)
  · (conv => whnf); (repeat' first | ((with_reducible refine Box.mk ?_); conv => whnf) | ((with_reducible refine And.intro (fun _ => ?_) (fun _ => ?_)) <;> conv => whnf) | fail)
    · rename_i h1 h2 h3
      have hlt : i < p.length := by omega
      refine ⟨by omega, p[i], List.getElem?_eq_getElem hlt, ?_⟩
      conv => whnf
      repeat' first | ((with_reducible refine Box.mk ?_); conv => whnf) | ((with_reducible refine And.intro (fun _ => ?_) (fun _ => ?_)) <;> conv => whnf) | fail
      · rename_i h4
        have hc : ∀ h : i < p.length, p[i] = 46 := fun _ => by
          apply UInt8.toNat_inj.1
          exact_mod_cast h4
        obtain ⟨hf, r, hr⟩ := hI.piece (by omega) hc
        have hne : p ≠ [] := by intro e; subst e; simp at *
        refine ⟨by omega, by omega, by omega, by show (f : Int) ≤ (i : Int); omega, ?_⟩
        conv => whnf
        repeat' first | ((with_reducible refine Box.mk ?_); conv => whnf) | ((with_reducible refine And.intro (fun _ => ?_) (fun _ => ?_)) <;> conv => whnf) | fail
        have hpl : ((p.take i).drop f).length ≤ p.length := by simp; omega
        refine ACall.of_pure (refIsLabel_ok ((p.take i).drop f) (by omega)) rfl ?_
        cases hb : isLabel ((p.take i).drop f)
        · (conv => whnf); (repeat' first | ((with_reducible refine Box.mk ?_); conv => whnf) | ((with_reducible refine And.intro (fun _ => ?_) (fun _ => ?_)) <;> conv => whnf) | fail)
          obtain ⟨b1, b2⟩ := okPath_false hne (.inl ⟨_, by rw [hr]; simp, hb⟩)
          refine res_eq ?_
          rw [b1, b2]; rfl
        · (conv => whnf); (repeat' first | ((with_reducible refine Box.mk ?_); conv => whnf) | ((with_reducible refine And.intro (fun _ => ?_) (fun _ => ?_)) <;> conv => whnf) | fail)
          all_goals first
            | (exact absurd ‹(8 : Int) ≤ 0› (by decide))
            | (rename_i h9
               have h9 : (8 : Int) ≤ ((strs (x :: l)).length : Int) := h9
               rw [strs_len] at h9
               obtain ⟨b1, b2⟩ := okPath_false hne (.inr (by rw [hr]; simp at h9 ⊢; omega))
               refine res_eq ?_
               rw [b1, b2]; rfl)
            | skip
          refine ⟨by omega, by omega, by omega, by show (f : Int) ≤ (i : Int); omega, ?_⟩
          conv => whnf
          repeat' first | ((with_reducible refine Box.mk ?_); conv => whnf) | ((with_reducible refine And.intro (fun _ => ?_) (fun _ => ?_)) <;> conv => whnf) | fail
          have h10 : (x :: l).length < 8 := by
            rename_i h9
            have h9 : ¬ (8 : Int) ≤ ((strs (x :: l)).length : Int) := h9
            rw [strs_len] at h9
            omega
          refine ⟨fun c hc => by rw [List.mem_singleton.1 hc]; exact ⟨rfl, rfl⟩, by show ((strs (x :: l)).length + 1) * 16 ≤ _; rw [strs_len]; omega, by show (strs (x :: l)).length + 1 ≤ _; rw [strs_len]; omega, ?_⟩
          conv => whnf
          repeat' first | ((with_reducible refine Box.mk ?_); conv => whnf) | ((with_reducible refine And.intro (fun _ => ?_) (fun _ => ?_)) <;> conv => whnf) | fail
          refine ⟨(i + 1, i + 1, (x :: l) ++ [(p.take i).drop f]), hI.next (by omega) hc hb h10, by show p.length + 1 - (i + 1) < p.length + 1 - i; omega, weak_ren_to [(2, true)] rfl rfl ?_ ⟨rfl, rfl, wrap_nat (m := 1) (by omega), wrap_nat (m := 1) (by omega), trivial⟩⟩
          show [Ob.row 9 1 (strs (x :: l) ++ [[.str ((p.take i).drop f)]])] = [Ob.row 9 1 (strs (x :: (l ++ [(p.take i).drop f])))]
          simp [strs]
      · rename_i h4
        have hc : p[i] ≠ 46 := fun e => h4 (by rw [e]; rfl)
        exact ⟨(i + 1, f, x :: l), hI.go hlt hc, by show p.length + 1 - (i + 1) < p.length + 1 - i; omega, weak_to ⟨rfl, rfl, rfl, wrap_nat (m := 1) (by omega), trivial⟩ rfl⟩
    · rename_i h1 h2 h3
      have hc : ∀ h : i < p.length, p[i] = 46 := fun h => by omega
      obtain ⟨hf, r, hr⟩ := hI.piece (by omega) hc
      have hne : p ≠ [] := by intro e; subst e; simp at *
      refine ⟨by omega, by omega, by omega, by show (f : Int) ≤ (i : Int); omega, ?_⟩
      conv => whnf
      repeat' first | ((with_reducible refine Box.mk ?_); conv => whnf) | ((with_reducible refine And.intro (fun _ => ?_) (fun _ => ?_)) <;> conv => whnf) | fail
      have hpl : ((p.take i).drop f).length ≤ p.length := by simp; omega
      refine ACall.of_pure (refIsLabel_ok ((p.take i).drop f) (by omega)) rfl ?_
      cases hb : isLabel ((p.take i).drop f)
      · (conv => whnf); (repeat' first | ((with_reducible refine Box.mk ?_); conv => whnf) | ((with_reducible refine And.intro (fun _ => ?_) (fun _ => ?_)) <;> conv => whnf) | fail)
        obtain ⟨b1, b2⟩ := okPath_false hne (.inl ⟨_, by rw [hr]; simp, hb⟩)
        refine res_eq ?_
        rw [b1, b2]; rfl
      · (conv => whnf); (repeat' first | ((with_reducible refine Box.mk ?_); conv => whnf) | ((with_reducible refine And.intro (fun _ => ?_) (fun _ => ?_)) <;> conv => whnf) | fail)
        all_goals first
          | (exact absurd ‹(8 : Int) ≤ 0› (by decide))
          | (rename_i h9
             have h9 : (8 : Int) ≤ ((strs (x :: l)).length : Int) := h9
             rw [strs_len] at h9
             obtain ⟨b1, b2⟩ := okPath_false hne (.inr (by rw [hr]; simp at h9 ⊢; omega))
             refine res_eq ?_
             rw [b1, b2]; rfl)
          | skip
        refine ⟨by omega, by omega, by omega, by show (f : Int) ≤ (i : Int); omega, ?_⟩
        conv => whnf
        repeat' first | ((with_reducible refine Box.mk ?_); conv => whnf) | ((with_reducible refine And.intro (fun _ => ?_) (fun _ => ?_)) <;> conv => whnf) | fail
        have h10 : (x :: l).length < 8 := by
          rename_i h9
          have h9 : ¬ (8 : Int) ≤ ((strs (x :: l)).length : Int) := h9
          rw [strs_len] at h9
          omega
        refine ⟨fun c hc => by rw [List.mem_singleton.1 hc]; exact ⟨rfl, rfl⟩, by show ((strs (x :: l)).length + 1) * 16 ≤ _; rw [strs_len]; omega, by show (strs (x :: l)).length + 1 ≤ _; rw [strs_len]; omega, ?_⟩
        conv => whnf
        repeat' first | ((with_reducible refine Box.mk ?_); conv => whnf) | ((with_reducible refine And.intro (fun _ => ?_) (fun _ => ?_)) <;> conv => whnf) | fail
        refine ⟨(i + 1, i + 1, (x :: l) ++ [(p.take i).drop f]), hI.next (by omega) hc hb h10, by show p.length + 1 - (i + 1) < p.length + 1 - i; omega, weak_ren_to [(2, true)] rfl rfl ?_ ⟨rfl, rfl, wrap_nat (m := 1) (by omega), wrap_nat (m := 1) (by omega), trivial⟩⟩
        show [Ob.row 9 1 (strs (x :: l) ++ [[.str ((p.take i).drop f)]])] = [Ob.row 9 1 (strs (x :: (l ++ [(p.take i).drop f])))]
        simp [strs]
    · rename_i h1 h2
      have hp : p = [] := List.length_eq_zero_iff.1 (by omega)
      subst hp
      have h3 := (hI.mid (by simpa using h1)).2.2
      exact absurd (congrArg List.length h3) (by simp [splitDot])
    · rename_i h1
      have h2 := hI.fin (by omega)
      have hne : p ≠ [] := by
        intro e
        subst e
        have h3 := hI.lab [] (by rw [← h2]; simp [splitDot])
        simp [isLabel] at h3
      obtain ⟨b1, b2⟩ := okPath_true hne (by rw [h2]; exact hI.lab) (by rw [h2]; exact h8)
      refine res_eq ?_
      rw [b1, b2, h2]; rfl
end Go.Proofs.YtlmdacgkaailiaaDoor
