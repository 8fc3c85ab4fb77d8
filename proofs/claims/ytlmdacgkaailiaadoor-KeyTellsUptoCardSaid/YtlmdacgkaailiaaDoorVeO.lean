/- An abstract weakest precondition, fifteenth text: equality of structs; a program's table of types. -/
import Derived.Test.YtlmdacgkaailiaaDoorVeN
namespace Go.Ve

section
variable {P : Program}

def LeafT (P : Program) (t : TypeId) : LK → Prop
  | .int _ => ∃ k, P.underlying t = some (.int k)
  | .bool => P.underlying t = some .bool
  | .str => P.underlying t = some .string

/-- Equality at a struct type, cell by cell. -/
def EqT (P : Program) (h : Nat) (t : TypeId) (ks : List LK) : Prop :=
  ∀ (d : Nat) (w : World) (xs ys : List Value) (r : Bool), LeafEqs ks xs ys r → (Op.equalIn (d + h) t (.agg xs.toArray) (.agg ys.toArray)).run P w = .ok r w

inductive EqF (P : Program) (h : Nat) : List Field → Nat → List LK → Prop
  | nil (off : Nat) : EqF P h [] off []
  | leaf {f : Field} {fs : List Field} {off : Nat} {k : LK} {ks : List LK} (ho : f.offset = off) (hn : f.name ≠ "_") (hu : LeafT P f.type k) (r : EqF P h fs (off + 1) ks) : EqF P h (f :: fs) off (k :: ks)
  | sub {f : Field} {fs : List Field} {off : Nat} {ks ls : List LK} (ho : f.offset = off) (hn : f.name ≠ "_") (hs : EqT P h f.type ks) (ha : ∀ w, (isAgg f.type).run P w = .ok true w)
      (hz : ∀ w, (sizeOf f.type).run P w = .ok ks.length w) (r : EqF P h fs (off + ks.length) ls) : EqF P h (f :: fs) off (ks ++ ls)

theorem LeafEqs.len {ks : List LK} {xs ys : List Value} {r : Bool} (h : LeafEqs ks xs ys r) : xs.length = ks.length ∧ ys.length = ks.length := by
  induction h with
  | nil => exact ⟨rfl, rfl⟩
  | cons _ _ ih => simp [ih.1, ih.2]

theorem LeafEqs.split : ∀ {ks ls : List LK} {xs ys : List Value} {r : Bool}, LeafEqs (ks ++ ls) xs ys r →
    ∃ r1 r2, LeafEqs ks (xs.take ks.length) (ys.take ks.length) r1 ∧ LeafEqs ls (xs.drop ks.length) (ys.drop ks.length) r2 ∧ r = (r1 && r2)
  | [], ls, xs, ys, r, h => ⟨true, r, by simpa using LeafEqs.nil, by simpa using h, by simp⟩
  | k :: ks, ls, xs, ys, r, h => by
    cases h with
    | cons h1 h2 =>
      obtain ⟨r1, r2, k1, k2, rfl⟩ := LeafEqs.split h2
      exact ⟨_, r2, .cons h1 k1, k2, by rw [Bool.and_assoc]⟩

theorem run_leaf {t : TypeId} {k : LK} {a b : Value} {r : Bool} (hu : LeafT P t k) (h : LeafEq k a b r) (d : Nat) (w : World) : (Op.equalIn (d + 1) t a b).run P w = .ok r w := by
  cases h with
  | int k a b => obtain ⟨k', hk⟩ := hu; exact run_equalIn_int w d t k k' a b hk
  | bool a b => exact run_equalIn_bool' w d t a b hu
  | str a b => exact run_equalIn_string w d t a b hu

theorem leaf_agg {t : TypeId} {k : LK} (hu : LeafT P t k) (w : World) : (isAgg t).run P w = .ok false w := by
  cases k with
  | int k => obtain ⟨k', hk⟩ := hu; simp [isAgg, run_underlying hk]
  | bool => have hu : P.underlying t = some .bool := hu; simp [isAgg, run_underlying hu]
  | str => have hu : P.underlying t = some .string := hu; simp [isAgg, run_underlying hu]

theorem part_leaf {t : TypeId} {k : LK} (hu : LeafT P t k) {xs : List Value} {off : Nat} {a : Value} {rest : List Value} (h : xs.drop off = a :: rest) (w : World) : (part t xs.toArray off).run P w = .ok a w := by
  have hx : xs.toArray[off]? = some a := by
    have : (xs.drop off)[0]? = some a := by rw [h]; rfl
    simpa using this
  simp [part, leaf_agg hu w, hx]

theorem part_sub {t : TypeId} {n : Nat} (ha : ∀ w, (isAgg t).run P w = .ok true w) (hz : ∀ w, (sizeOf t).run P w = .ok n w) (xs : List Value) (off : Nat) (w : World) :
    (part t xs.toArray off).run P w = .ok (.agg ((xs.drop off).take n).toArray) w := by
  simp [part, ha w, hz w]

theorem eqF_run {h : Nat} (h1 : 1 ≤ h) {fs : List Field} {off : Nat} {ks : List LK} (hf : EqF P h fs off ks) : ∀ (d : Nat) (w : World) (xs ys : List Value) (r : Bool), LeafEqs ks (xs.drop off) (ys.drop off) r →
    (Op.eqFields (d + h) xs.toArray ys.toArray fs).run P w = .ok r w := by
  induction hf with
  | nil off =>
    intro d w xs ys r hl
    have : r = true := by
      generalize xs.drop off = x at hl
      generalize ys.drop off = y at hl
      cases hl; rfl
    subst this
    rfl
  | @leaf f fs off k ks ho hn hu _ ih =>
    intro d w xs ys r hl
    generalize hx : xs.drop off = x at hl
    generalize hy : ys.drop off = y at hl
    cases hl with
    | @cons _ a b r1 r2 _ xr yr e1 e2 =>
      have hx' : xs.drop (off + 1) = xr := by rw [← List.drop_drop, hx]; rfl
      have hy' : ys.drop (off + 1) = yr := by rw [← List.drop_drop, hy]; rfl
      subst ho
      have g := run_leaf hu e1 (d + (h - 1)) w
      have eh : d + (h - 1) + 1 = d + h := by omega
      rw [eh] at g
      simp only [Op.eqFields, if_pos hn, Sem.run_bind, part_leaf hu hx w, part_leaf hu hy w, Result.andThen_ok, g]
      cases r1 with
      | false => simp
      | true =>
        simp only [Bool.not_true, Bool.false_eq_true, if_false, Bool.true_and]
        exact ih d w xs ys r2 (by rw [hx', hy']; exact e2)
  | @sub f fs off ks ls ho hn hs ha hz _ ih =>
    intro d w xs ys r hl
    obtain ⟨r1, r2, k1, k2, rfl⟩ := hl.split
    subst ho
    have g := hs d w _ _ r1 k1
    simp only [Op.eqFields, if_pos hn, Sem.run_bind, part_sub ha hz xs f.offset w, part_sub ha hz ys f.offset w, Result.andThen_ok, g]
    cases r1 with
    | false => simp
    | true =>
      simp only [Bool.not_true, Bool.false_eq_true, if_false, Bool.true_and]
      exact ih d w xs ys r2 (by rw [← List.drop_drop, ← List.drop_drop]; exact k2)

theorem eqT_struct {h : Nat} (h1 : 1 ≤ h) {t : TypeId} {fs : Array Field} {ks : List LK} (ht : P.underlying t = some (.struct fs)) (hp : P.stoodInHeld t = false) (hf : EqF P h fs.toList 0 ks) : EqT P (h + 1) t ks := by
  intro d w xs ys r hl
  have e : P.fieldsOf t = fs := by simp [Program.fieldsOf, ht]
  rw [show d + (h + 1) = (d + h) + 1 by omega, run_equalIn_struct w (d + h) t _ _ (by rw [e]; exact ht) hp, e]
  exact eqF_run h1 hf d w xs ys r (by simpa using hl)

theorem EqT.up {h h' : Nat} (hh : h ≤ h') {t : TypeId} {ks : List LK} (he : EqT P h t ks) : EqT P h' t ks := fun d w xs ys r hl => by
  have := he (d + (h' - h)) w xs ys r hl
  rwa [Nat.add_assoc, Nat.sub_add_cancel hh] at this

theorem eqT_ok {h : Nat} (hh : h ≤ 10000) {t : TypeId} {ks : List LK} (hg : P.eqGuardType P.depth t = false) (he : EqT P h t ks) : ks ≠ [] → P.eqGuardType P.depth t = false ∧ ∀ (w : World) (xs ys : List Value) (r : Bool), LeafEqs ks xs ys r → (Op.equalIn 10000 t (.agg xs.toArray) (.agg ys.toArray)).run P w = .ok r w := by
  refine fun _ => ⟨hg, fun w xs ys r hl => ?_⟩
  have := he (10000 - h) w xs ys r hl
  rwa [Nat.sub_add_cancel hh] at this

/-! ### a table -/
inductive AllOk (P : Program) : Nat → List (Option TI) → Prop
  | nil (k : Nat) : AllOk P k []
  | none {k : Nat} {l : List (Option TI)} (r : AllOk P (k + 1) l) : AllOk P k (Option.none :: l)
  | some {k : Nat} {i : TI} {l : List (Option TI)} (h : TyOk P k i) (r : AllOk P (k + 1) l) : AllOk P k (Option.some i :: l)
theorem AllOk.get {k : Nat} {l : List (Option TI)} (h : AllOk P k l) : ∀ (j : Nat) (i : TI), (l[j]?).join = Option.some i → TyOk P (k + j) i := by
  induction h with
  | nil => intro j i hj; simp at hj
  | none r ih =>
    intro j i hj
    cases j with
    | zero => simp at hj
    | succ j => rw [Nat.add_succ, ← Nat.succ_add]; exact ih j i (by simpa using hj)
  | @some k i0 l h r ih =>
    intro j i hj
    cases j with
    | zero => simp at hj; subst hj; exact h
    | succ j => rw [Nat.add_succ, ← Nat.succ_add]; exact ih j i (by simpa using hj)
theorem tok_of {l : List (Option TI)} (h : AllOk P 0 l) : TOk P fun t => (l[t]?).join := fun t i ht => by
  have := h.get t i ht
  rwa [Nat.zero_add] at this
end
end Go.Ve
