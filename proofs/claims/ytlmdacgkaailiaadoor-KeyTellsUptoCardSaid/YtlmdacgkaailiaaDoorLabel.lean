/- label: what its functions compute. -/
import Derived.Test.YtlmdacgkaailiaaDoorLib
namespace Go.Proofs.YtlmdacgkaailiaaDoor
open Go.Ve

def okByte (c : Int) : Prop := (97 ≤ c ∧ c ≤ 122) ∨ (48 ≤ c ∧ c ≤ 57) ∨ c = 95
instance (c : Int) : Decidable (okByte c) := by unfold okByte; exact inferInstance
theorem isByte_ok (c : Int) : PCall P 54 [.int .u8 c] (.bool (decide (okByte c))) := by
  refine PCall.of_awp tok mixed fn54 (Nat.le_of_ble_eq_true rfl) ?_
  conv => whnf
  repeat' first | ((with_reducible refine Box.mk ?_); conv => whnf) | ((with_reducible refine And.intro (fun _ => ?_) (fun _ => ?_)) <;> conv => whnf) | fail
  all_goals (show AV.bool _ = AV.bool _; congr 1)
  all_goals first | exact (decide_eq_true (by unfold okByte; omega)).symm | exact (decide_eq_false (by unfold okByte; omega)).symm

def isLabel (s : Bs) : Bool := s.all (fun c => decide (okByte c.toNat)) && decide (1 ≤ s.length ∧ s.length ≤ 16)
theorem isLabel_ok (s : Bs) (h : s.length ≤ 9223372036854775807) : PCall P 16 [.str s] (.bool (isLabel s)) := by
  refine PCall.of_awp tok mixed fn16 (Nat.le_of_ble_eq_true rfl) ?_
  conv => whnf
  repeat' first | ((with_reducible refine Box.mk ?_); conv => whnf) | ((with_reducible refine And.intro (fun _ => ?_) (fun _ => ?_)) <;> conv => whnf) | fail
  refine ⟨h, ?_⟩
  conv => whnf
  repeat' first | ((with_reducible refine Box.mk ?_); conv => whnf) | ((with_reducible refine And.intro (fun _ => ?_) (fun _ => ?_)) <;> conv => whnf) | fail
  refine aloop (fun i => i ≤ s.length ∧ ∀ j (c : UInt8), j < i → s[j]? = some c → okByte c.toNat) (fun i : Nat => ⟨envL [(0, .str s), (6, .sl (s.map byteCell)), (7, .int .i64 s.length), (8, .int .i64 i)], []⟩)
    (fun i => s.length - i) 0 ⟨Nat.zero_le _, fun j c h => by omega⟩ (weak_to ⟨rfl, rfl, by show AV.int _ _ = _; simp, rfl, trivial⟩ rfl) ?_
  rintro i ⟨hi, hok⟩
  conv => whnf
  repeat' first | ((with_reducible refine Box.mk ?_); conv => whnf) | ((with_reducible refine And.intro (fun _ => ?_) (fun _ => ?_)) <;> conv => whnf) | fail
  · rename_i hlt
    have hlt' : i < s.length := by omega
    refine ⟨by omega, byteCell s[i], by simp [hlt'], rfl, ?_⟩
    conv => whnf
    repeat' first | ((with_reducible refine Box.mk ?_); conv => whnf) | ((with_reducible refine And.intro (fun _ => ?_) (fun _ => ?_)) <;> conv => whnf) | fail
    refine ACall.of_pure (isByte_ok _) rfl ?_
    cases hb : decide (okByte (s[i].toNat : Int))
    · (conv => whnf); (repeat' first | ((with_reducible refine Box.mk ?_); conv => whnf) | ((with_reducible refine And.intro (fun _ => ?_) (fun _ => ?_)) <;> conv => whnf) | fail)
      refine bool_false ?_
      have : ¬ (∀ c ∈ s, okByte c.toNat) := fun h => of_decide_eq_false hb (h _ (List.getElem_mem hlt'))
      simp [isLabel, this]
    · (conv => whnf); (repeat' first | ((with_reducible refine Box.mk ?_); conv => whnf) | ((with_reducible refine And.intro (fun _ => ?_) (fun _ => ?_)) <;> conv => whnf) | fail)
      refine ⟨i + 1, ⟨hlt', fun j c hj hc => ?_⟩, by omega, weak_to ⟨rfl, rfl, rfl, wrap_nat (m := 1) (by omega), trivial⟩ rfl⟩
      by_cases hji : j = i
      · subst hji
        rw [List.getElem?_eq_getElem hlt'] at hc
        cases hc
        exact of_decide_eq_true hb
      · exact hok j c (by omega) hc
  · have hall : ∀ c ∈ s, okByte c.toNat := fun c hc => by
      obtain ⟨j, hj⟩ := List.getElem?_of_mem hc
      exact hok j c (by have := (List.getElem?_eq_some_iff.1 hj).1; omega) hj
    exact bool_true (by simp [isLabel]; exact ⟨hall, by omega⟩)
  · exact bool_false (by simp [isLabel]; omega)
  · exact bool_false (by simp [isLabel]; omega)

theorem no_ok (s : Bs) (h : s.length ≤ 9223372036854775807) : PCall P 72 [.str s] (.bool (!isLabel s)) := by
  refine PCall.of_awp tok mixed fn72 (Nat.le_of_ble_eq_true rfl) ?_
  conv => whnf
  repeat' first | ((with_reducible refine Box.mk ?_); conv => whnf) | ((with_reducible refine And.intro (fun _ => ?_) (fun _ => ?_)) <;> conv => whnf) | fail
  refine ACall.of_pure (isLabel_ok s h) rfl ?_
  conv => whnf
  repeat' first | ((with_reducible refine Box.mk ?_); conv => whnf) | ((with_reducible refine And.intro (fun _ => ?_) (fun _ => ?_)) <;> conv => whnf) | fail
  rfl
theorem no_ok' (s : Bs) (h : s.length ≤ 9223372036854775807) : PCall P 56 [.str s] (.bool (!isLabel s)) := by
  refine PCall.of_awp tok mixed fn56 (Nat.le_of_ble_eq_true rfl) ?_
  conv => whnf
  repeat' first | ((with_reducible refine Box.mk ?_); conv => whnf) | ((with_reducible refine And.intro (fun _ => ?_) (fun _ => ?_)) <;> conv => whnf) | fail
  refine ACall.of_pure (isLabel_ok s h) rfl ?_
  conv => whnf
  repeat' first | ((with_reducible refine Box.mk ?_); conv => whnf) | ((with_reducible refine And.intro (fun _ => ?_) (fun _ => ?_)) <;> conv => whnf) | fail
  rfl

/-! ### a list gone through by a function value -/
def idxf (q : Bs → Bool) : Nat → List Bs → Int
  | _, [] => -1
  | k, x :: xs => if q x then (k : Int) else idxf q (k + 1) xs
theorem idxf_hit {q : Bs → Bool} : ∀ {l : List Bs} {k i : Nat} {x : Bs}, l[i]? = some x → q x = true → (∀ j y, j < i → l[j]? = some y → q y = false) → idxf q k l = ((k + i : Nat) : Int)
  | [], k, i, x, h, _, _ => by simp at h
  | y :: l, k, 0, x, h, hq, _ => by simp at h; subst h; simp [idxf, hq]
  | y :: l, k, i + 1, x, h, hq, hn => by
    have h0 := hn 0 y (by omega) rfl
    rw [idxf, if_neg (by simp [h0]), idxf_hit (k := k + 1) (i := i) (by simpa using h) hq (fun j z hj hz => hn (j + 1) z (by omega) (by simpa using hz))]
    congr 1; omega
theorem idxf_miss {q : Bs → Bool} : ∀ {l : List Bs} {k : Nat}, (∀ y ∈ l, q y = false) → idxf q k l = -1
  | [], _, _ => rfl
  | y :: l, k, h => by rw [idxf, if_neg (by simp [h y List.mem_cons_self]), idxf_miss fun z hz => h z (List.mem_cons_of_mem _ hz)]
theorem idxf_any {q : Bs → Bool} : ∀ {l : List Bs} {k : Nat}, decide (0 ≤ idxf q k l) = l.any q
  | [], _ => rfl
  | y :: l, k => by
    rw [idxf, List.any_cons]
    cases hq : q y with
    | true => simp
    | false => simpa using idxf_any (l := l) (k := k + 1)

theorem indexFunc_ok {f : FuncId} {q : Bs → Bool} (l : List Bs) (hf : ∀ s ∈ l, PCall P f [.str s] (.bool (q s))) (hl : l.length ≤ 9223372036854775807) :
    PCall P 76 [.sl (strs l), .fn f []] (.int .i64 (idxf q 0 l)) := by
  refine PCall.of_awp tok mixed fn76 (Nat.le_of_ble_eq_true rfl) ?_
  conv => whnf
  repeat' first | ((with_reducible refine Box.mk ?_); conv => whnf) | ((with_reducible refine And.intro (fun _ => ?_) (fun _ => ?_)) <;> conv => whnf) | fail
  refine aloop (fun i => i ≤ l.length ∧ ∀ j x, j < i → l[j]? = some x → q x = false) (fun i : Nat => ⟨envL [(0, .sl (strs l)), (1, .fn f []), (7, .int .i64 l.length), (8, .int .i64 i)], []⟩)
    (fun i => l.length - i) 0 ⟨Nat.zero_le _, fun j c h => by omega⟩ (weak_to ⟨rfl, rfl, by show AV.int _ _ = _; rw [strs_len], rfl, trivial⟩ rfl) ?_
  rintro i ⟨hi, hok⟩
  conv => whnf
  repeat' first | ((with_reducible refine Box.mk ?_); conv => whnf) | ((with_reducible refine And.intro (fun _ => ?_) (fun _ => ?_)) <;> conv => whnf) | fail
  · rename_i hlt
    have hlt' : i < l.length := by omega
    refine ⟨by omega, [.str l[i]], ?_, rfl, ?_⟩
    · show (strs l)[i]? = _
      rw [strs_get, List.getElem?_eq_getElem hlt']; rfl
    conv => whnf
    repeat' first | ((with_reducible refine Box.mk ?_); conv => whnf) | ((with_reducible refine And.intro (fun _ => ?_) (fun _ => ?_)) <;> conv => whnf) | fail
    refine ACall.of_pure (hf _ (List.getElem_mem hlt')) rfl ?_
    cases hb : q l[i]
    · (conv => whnf); (repeat' first | ((with_reducible refine Box.mk ?_); conv => whnf) | ((with_reducible refine And.intro (fun _ => ?_) (fun _ => ?_)) <;> conv => whnf) | fail)
      refine ⟨i + 1, ⟨hlt', fun j c hj hc => ?_⟩, by omega, weak_to ⟨rfl, rfl, rfl, wrap_nat (m := 1) (by omega), trivial⟩ rfl⟩
      by_cases hji : j = i
      · subst hji
        rw [List.getElem?_eq_getElem hlt'] at hc
        cases hc
        exact hb
      · exact hok j c (by omega) hc
    · (conv => whnf); (repeat' first | ((with_reducible refine Box.mk ?_); conv => whnf) | ((with_reducible refine And.intro (fun _ => ?_) (fun _ => ?_)) <;> conv => whnf) | fail)
      show AV.int .i64 _ = AV.int .i64 _
      rw [idxf_hit (List.getElem?_eq_getElem hlt') hb hok, Nat.zero_add]
  · show AV.int .i64 _ = AV.int .i64 _
    rw [idxf_miss]
    intro y hy
    obtain ⟨j, hj⟩ := List.getElem?_of_mem hy
    exact hok j y (by have := (List.getElem?_eq_some_iff.1 hj).1; omega) hj

theorem containsFunc_ok {f : FuncId} {q : Bs → Bool} (l : List Bs) (hf : ∀ s ∈ l, PCall P f [.str s] (.bool (q s))) (hl : l.length ≤ 9223372036854775807) :
    PCall P 57 [.sl (strs l), .fn f []] (.bool (l.any q)) := by
  refine PCall.of_awp tok mixed fn57 (Nat.le_of_ble_eq_true rfl) ?_
  conv => whnf
  repeat' first | ((with_reducible refine Box.mk ?_); conv => whnf) | ((with_reducible refine And.intro (fun _ => ?_) (fun _ => ?_)) <;> conv => whnf) | fail
  refine ACall.of_pure (indexFunc_ok l hf hl) rfl ?_
  conv => whnf
  repeat' first | ((with_reducible refine Box.mk ?_); conv => whnf) | ((with_reducible refine And.intro (fun _ => ?_) (fun _ => ?_)) <;> conv => whnf) | fail
  · exact bool_true (by rw [← idxf_any (k := 0)]; exact decide_eq_true (by assumption))
  · exact bool_false (by rw [← idxf_any (k := 0)]; exact decide_eq_false (by assumption))

/-! ### paths -/
def okPath (p : Bs) : Bool := p.isEmpty || (decide ((splitDot p).length ≤ 8) && (splitDot p).all isLabel)
def labs (p : Bs) : List Bs := bif !p.isEmpty && okPath p then splitDot p else []
def pathV (p : Bs) : AV := bif !p.isEmpty && okPath p then .sl (strs (splitDot p)) else .nils
theorem path_cases (p : Bs) : (pathV p = .nils ∧ labs p = []) ∨ (pathV p = .sl (strs (labs p)) ∧ labs p = splitDot p ∧ p ≠ [] ∧ okPath p = true) := by
  unfold pathV labs
  cases h : !p.isEmpty && okPath p with
  | false => exact .inl ⟨rfl, rfl⟩
  | true =>
    rw [Bool.and_eq_true] at h
    exact .inr ⟨rfl, rfl, fun e => by subst e; simp at h, h.2⟩

theorem splitDot_len : ∀ (s : Bs), (splitDot s).length ≤ s.length + 1 ∧ ∀ x ∈ splitDot s, x.length ≤ s.length
  | [] => by simp [splitDot]
  | c :: s => by
    obtain ⟨h1, h2⟩ := splitDot_len s
    simp only [splitDot]
    split
    · refine ⟨by simp; omega, fun x hx => ?_⟩
      rcases List.mem_cons.1 hx with rfl | hx
      · simp
      · have := h2 x hx; simp; omega
    · split
      · simp
      · rename_i x xs e
        rw [e] at h1 h2
        refine ⟨by simp at h1 ⊢; omega, fun y hy => ?_⟩
        rcases List.mem_cons.1 hy with rfl | hy
        · have := h2 x List.mem_cons_self; simp; omega
        · have := h2 y (List.mem_cons_of_mem _ hy); simp; omega

theorem split_ok (p : Bs) (h : p.length < 4294967281) : PCall P 53 [.str p] (.tup [pathV p, .bool (okPath p)]) := by
  obtain ⟨hlen, hx⟩ := splitDot_len p
  refine PCall.of_awp tok mixed fn53 (Nat.le_of_ble_eq_true rfl) ?_
  conv => whnf
  repeat' first | ((with_reducible refine Box.mk ?_); conv => whnf) | ((with_reducible refine And.intro (fun _ => ?_) (fun _ => ?_)) <;> conv => whnf) | fail
  · rename_i e
    have e : p = [] := e
    subst e
    rfl
  · rename_i e
    have e : p ≠ [] := e
    have hp : p.isEmpty = false := by cases p with | nil => exact absurd rfl e | cons => rfl
    refine ACall.of_pure (lib_Split p h) rfl ?_
    conv => whnf
    repeat' first | ((with_reducible refine Box.mk ?_); conv => whnf) | ((with_reducible refine And.intro (fun _ => ?_) (fun _ => ?_)) <;> conv => whnf) | fail
    · rename_i h8
      have h8 : (8 : Int) < ((strs (splitDot p)).length : Int) := h8
      rw [strs_len] at h8
      have : okPath p = false := by simp [okPath, hp]; intro; omega
      show AV.tup _ = AV.tup _
      simp [pathV, this]
    · rename_i h8
      have h8 : ¬ (8 : Int) < ((strs (splitDot p)).length : Int) := h8
      rw [strs_len] at h8
      refine ACall.of_pure (containsFunc_ok (splitDot p) (fun s hs => no_ok s (by have := hx s hs; omega)) (by omega)) rfl ?_
      cases hb : (splitDot p).any fun s => !isLabel s
      · have : okPath p = true := by
          have : ∀ x ∈ splitDot p, isLabel x = true := by simpa using hb
          simp [okPath, hp]
          exact ⟨by omega, this⟩
        (conv => whnf); (repeat' first | ((with_reducible refine Box.mk ?_); conv => whnf) | ((with_reducible refine And.intro (fun _ => ?_) (fun _ => ?_)) <;> conv => whnf) | fail)
        show AV.tup _ = AV.tup _
        simp [pathV, this, hp]
      · have : okPath p = false := by
          have : ∃ x ∈ splitDot p, isLabel x = false := by simpa using hb
          simp [okPath, hp]
          exact fun _ => this
        (conv => whnf); (repeat' first | ((with_reducible refine Box.mk ?_); conv => whnf) | ((with_reducible refine And.intro (fun _ => ?_) (fun _ => ?_)) <;> conv => whnf) | fail)
        show AV.tup _ = AV.tup _
        simp [pathV, this]

theorem right_ok (p : Bs) (h : p.length < 4294967281) : PCall P 18 [.str p] (.bool (okPath p)) := by
  refine PCall.of_awp tok mixed fn18 (Nat.le_of_ble_eq_true rfl) ?_
  conv => whnf
  repeat' first | ((with_reducible refine Box.mk ?_); conv => whnf) | ((with_reducible refine And.intro (fun _ => ?_) (fun _ => ?_)) <;> conv => whnf) | fail
  refine ACall.of_pure (split_ok p h) rfl ?_
  rcases path_cases p with ⟨e, _⟩ | ⟨e, _⟩ <;> rw [e]
  all_goals ((conv => whnf); (repeat' first | ((with_reducible refine Box.mk ?_); conv => whnf) | ((with_reducible refine And.intro (fun _ => ?_) (fun _ => ?_)) <;> conv => whnf) | fail))
  all_goals rfl

theorem pSplit_ok (p : Bs) (h : p.length < 4294967281) : PCall P 13 [.str p] (.tup [pathV p, .int .i64 (bif okPath p then 0 else 3)]) := by
  refine PCall.of_awp tok mixed fn13 (Nat.le_of_ble_eq_true rfl) ?_
  conv => whnf
  repeat' first | ((with_reducible refine Box.mk ?_); conv => whnf) | ((with_reducible refine And.intro (fun _ => ?_) (fun _ => ?_)) <;> conv => whnf) | fail
  refine ACall.of_pure (split_ok p h) rfl ?_
  cases hb : okPath p
  · have e : pathV p = .nils := by simp [pathV, hb]
    rw [e]
    (conv => whnf); (repeat' first | ((with_reducible refine Box.mk ?_); conv => whnf) | ((with_reducible refine And.intro (fun _ => ?_) (fun _ => ?_)) <;> conv => whnf) | fail)
    rfl
  · rcases path_cases p with ⟨e, _⟩ | ⟨e, _⟩ <;> rw [e]
    all_goals ((conv => whnf); (repeat' first | ((with_reducible refine Box.mk ?_); conv => whnf) | ((with_reducible refine And.intro (fun _ => ?_) (fun _ => ?_)) <;> conv => whnf) | fail))
    all_goals rfl

theorem len_ok (p : Bs) (h : p.length < 4294967281) : PCall P 19 [.str p] (.int .i64 (labs p).length) := by
  refine PCall.of_awp tok mixed fn19 (Nat.le_of_ble_eq_true rfl) ?_
  conv => whnf
  repeat' first | ((with_reducible refine Box.mk ?_); conv => whnf) | ((with_reducible refine And.intro (fun _ => ?_) (fun _ => ?_)) <;> conv => whnf) | fail
  refine ACall.of_pure (split_ok p h) rfl ?_
  rcases path_cases p with ⟨e, e2⟩ | ⟨e, _⟩ <;> rw [e]
  · (conv => whnf); (repeat' first | ((with_reducible refine Box.mk ?_); conv => whnf) | ((with_reducible refine And.intro (fun _ => ?_) (fun _ => ?_)) <;> conv => whnf) | fail)
    rw [e2]; rfl
  · (conv => whnf); (repeat' first | ((with_reducible refine Box.mk ?_); conv => whnf) | ((with_reducible refine And.intro (fun _ => ?_) (fun _ => ?_)) <;> conv => whnf) | fail)
    show AV.int .i64 _ = AV.int .i64 _
    rw [strs_len]
end Go.Proofs.YtlmdacgkaailiaaDoor
