/- An abstract weakest precondition, fifth text: tests, arithmetic, conversions, fields, indexes. -/
import Derived.Test.YtlmdacgkaailiaaDoorVeD
set_option linter.unusedSimpArgs false
set_option linter.unusedVariables false
namespace Go.Ve
noncomputable def cdec (p : Prop) : Bool := @decide p (Classical.propDecidable p)
theorem cdec_true {p : Prop} (h : p) : cdec p = true := @decide_eq_true p (Classical.propDecidable p) h
theorem cdec_false {p : Prop} (h : ¬ p) : cdec p = false := @decide_eq_false p (Classical.propDecidable p) h
theorem cdec_of {p : Prop} {b : Bool} (h : p ↔ b = true) : cdec p = b := by
  cases b
  · exact cdec_false fun hp => by simpa using h.1 hp
  · exact cdec_true (h.2 rfl)
section
variable {P : Program} {T : TT} {o : Oper} {ev : Operand → AV} {H : Hp} {K : KV}

theorem sameKind_eq {k k' : IntKind} (h : sameKind k k' = true) : k = k' := by cases k <;> cases k' <;> first | rfl | (simp [sameKind] at h; done)
theorem sameKind_self (k : IntKind) : sameKind k k = true := by cases k <;> rfl

/-- A result whichever way a test goes. -/
theorem of_test {p : Prop} [Decidable p] {R : AV → Prop} (h : test p H K) (hd : R (.bool (decide p))) : ∃ r, R r ∧ K r H := by
  by_cases hp : p
  · exact ⟨.bool true, by rwa [decide_eq_true hp] at hd, h.1 hp⟩
  · exact ⟨.bool false, by rwa [decide_eq_false hp] at hd, h.2 hp⟩
theorem of_ntest {p : Prop} [Decidable p] {R : AV → Prop} (h : ntest p H K) (hd : R (.bool (!decide p))) : ∃ r, R r ∧ K r H := by
  by_cases hp : p
  · exact ⟨.bool false, by rwa [decide_eq_true hp] at hd, h.1 hp⟩
  · exact ⟨.bool true, by rwa [decide_eq_false hp] at hd, h.2 hp⟩

theorem of_test' {p : Prop} {R : AV → Prop} (h : test p H K) (hd : R (.bool (cdec p))) : ∃ r, R r ∧ K r H := by
  by_cases hp : p
  · exact ⟨.bool true, by rwa [cdec_true hp] at hd, h.1 hp⟩
  · exact ⟨.bool false, by rwa [cdec_false hp] at hd, h.2 hp⟩
theorem of_ntest' {p : Prop} {R : AV → Prop} (h : ntest p H K) (hd : R (.bool (!cdec p))) : ∃ r, R r ∧ K r H := by
  by_cases hp : p
  · exact ⟨.bool false, by rwa [cdec_true hp] at hd, h.1 hp⟩
  · exact ⟨.bool true, by rwa [cdec_false hp] at hd, h.2 hp⟩

/-- What a binary operation comes to, given what its operands hold. -/
theorem sem_bin_of {op : BinOp} {t t' : TypeId} {x y : Operand} (ho : o.op = .binOp op t x y t') {a b r : AV} (hx : ev x = a) (hy : ev y = b)
    (hrun : ∀ (K0 : Addr → Value → Prop) (σ : List Value) (w : World) (u v : Value), Rv K0 σ a u → Rv K0 σ b v → ∃ z, (eqGuard op t x y u v).run P w = .ok () w ∧ (binOp op t u v).run P w = .ok z w ∧ Rv K0 σ r z) : ∀ H, OpSem P o ev H r H := by
  intro H
  refine .still fun M0 σ w ρ _ hop => ?_
  have h1 := hop x (by simp [ho, Op.operands]); rw [hx] at h1
  have h2 := hop y (by simp [ho, Op.operands]); rw [hy] at h2
  obtain ⟨z, e1, e2, e3⟩ := hrun _ σ w _ _ h1 h2
  exact ⟨z, by simp [execOp, ho, e1, e2], e3⟩

theorem guard_int {op : BinOp} {t : TypeId} {x y : Operand} {k k' : IntKind} {a b : Int} (w : World) : (eqGuard op t x y (.int k a) (.int k' b)).run P w = .ok () w := by
  cases op <;> simp [eqGuard]
theorem guard_str {op : BinOp} {t : TypeId} {x y : Operand} {a b : ByteArray} (w : World) : (eqGuard op t x y (.string a) (.string b)).run P w = .ok () w := by
  cases op <;> simp [eqGuard]

theorem sem_aint {op : BinOp} {t t' : TypeId} {x y : Operand} (ho : o.op = .binOp op t x y t') {k : IntKind} {a b : Int} (hx : ev x = .int k a) (hy : ev y = .int k b) (hop : op ≠ .shl ∧ op ≠ .shr) (h : aint op k a b H K) :
    ∃ r, (∀ H, OpSem P o ev H r H) ∧ K r H := by
  have go : ∀ (r : AV) (z : Value), (∀ w, (binOp op t (.int k a) (.int k b)).run P w = .ok z w) → (∀ K0 σ, Rv K0 σ r z) → ∀ H, OpSem P o ev H r H := fun r z h1 h2 =>
    sem_bin_of ho hx hy fun K0 σ w u v hu hv => by
      rw [hu.int_inv, hv.int_inv]
      exact ⟨z, guard_int w, h1 w, h2 _ _⟩
  have gb : ∀ (c : Bool), (∀ w, (binOp op t (.int k a) (.int k b)).run P w = .ok (.bool c) w) → ∀ H, OpSem P o ev H (.bool c) H := fun c h1 => go _ _ h1 fun _ _ => .bool _ _
  unfold aint at h
  cases op <;> simp only at h
  case add => exact ⟨_, go _ (.int k (k.wrap (a + b))) (fun w => by simp [binOp, Op.intArith]) (fun _ _ => .int _ _ _), h⟩
  case sub => exact ⟨_, go _ (.int k (k.wrap (a - b))) (fun w => by simp [binOp, Op.intArith]) (fun _ _ => .int _ _ _), h⟩
  case mul => exact ⟨_, go _ (.int k (k.wrap (a * b))) (fun w => by simp [binOp, Op.intArith]) (fun _ _ => .int _ _ _), h⟩
  case quo => exact ⟨_, go _ (.int k (k.wrap (a.tdiv b))) (fun w => by simp [binOp, Op.intDiv, h.1]) (fun _ _ => .int _ _ _), h.2⟩
  case rem => exact ⟨_, go _ (.int k (a.tmod b)) (fun w => by simp [binOp, Op.intDiv, h.1]) (fun _ _ => .int _ _ _), h.2⟩
  case and => exact ⟨_, go _ (.int k (bits .and k a b)) (fun w => by simp [binOp, intBits_and]) (fun _ _ => .int _ _ _), h⟩
  case or => exact ⟨_, go _ (.int k (bits .or k a b)) (fun w => by simp [binOp, intBits_or]) (fun _ _ => .int _ _ _), h⟩
  case xor => exact ⟨_, go _ (.int k (bits .xor k a b)) (fun w => by simp [binOp, intBits_xor]) (fun _ _ => .int _ _ _), h⟩
  case andNot => exact ⟨_, go _ (.int k (bits .andNot k a b)) (fun w => by simp [binOp, intBits_andNot]) (fun _ _ => .int _ _ _), h⟩
  case eql => exact of_test h (gb _ fun w => by simp [binOp, Op.intCmp]; rfl)
  case neq => exact of_ntest h (gb _ fun w => by simp [binOp, Op.intCmp]; rfl)
  case lss => exact of_test h (gb _ fun w => by simp [binOp, Op.intCmp])
  case leq => exact of_test h (gb _ fun w => by simp [binOp, Op.intCmp])
  case gtr => exact of_test h (gb _ fun w => by simp [binOp, Op.intCmp])
  case geq => exact of_test h (gb _ fun w => by simp [binOp, Op.intCmp])
  all_goals exact absurd h (by simp)

theorem bs_toList (a : Bs) : (⟨a.toArray⟩ : ByteArray).toList = a := by rw [ByteArray.toList_eq]

theorem leafEq_of {k : LK} {x y : AV} {p : Prop} (h : eqLeaf k x y = some p) {K0 : Addr → Value → Prop} {σ : List Value} {u v : Value} (hu : Rv K0 σ x u) (hv : Rv K0 σ y v) : LeafEq k u v (cdec p) := by
  unfold eqLeaf at h
  split at h
  · rename_i k a c b d
    cases h1 : sameKind k a <;> cases h2 : sameKind k b <;> simp only [h1, h2, Bool.and_self, Bool.and_true, Bool.and_false, Bool.false_and, Bool.true_and, cond_true, cond_false, Option.some.injEq, reduceCtorEq] at h
    subst h
    have e1 := sameKind_eq h1; have e2 := sameKind_eq h2
    subst e1; subst e2
    rw [hu.int_inv, hv.int_inv]
    have : cdec (c = d) = (c == d) := cdec_of (by simp)
    rw [this]
    exact .int _ _ _
  · rename_i c d
    have h := Option.some.inj h; subst h
    rw [hu.bool_inv, hv.bool_inv]
    have : cdec (c = d) = (c == d) := cdec_of (by simp)
    rw [this]
    exact .bool _ _
  · rename_i c d
    have h := Option.some.inj h; subst h
    rw [hu.str_inv, hv.str_inv]
    have : cdec (c = d) = ((⟨c.toArray⟩ : ByteArray).toList == (⟨d.toArray⟩ : ByteArray).toList) := cdec_of (by rw [bs_toList, bs_toList]; simp)
    rw [this]
    exact .str _ _
  · cases h

theorem leafEqs_of : ∀ {ks : List LK} {xs ys : List AV} {p : Prop} (_ : eqCells ks xs ys = some p) {K0 : Addr → Value → Prop} {σ : List Value} {us vs : List Value} (_ : us.length = xs.length) (_ : vs.length = ys.length)
    (_ : ∀ j x, xs[j]? = some x → Rv K0 σ x (us.getD j undef)) (_ : ∀ j x, ys[j]? = some x → Rv K0 σ x (vs.getD j undef)), LeafEqs ks us vs (cdec p)
  | [], [], [], p, h, K0, σ, us, vs, h1, h2, _, _ => by
    simp only [eqCells] at h
    have e1 := List.eq_nil_of_length_eq_zero h1; have e2 := List.eq_nil_of_length_eq_zero h2
    subst e1; subst e2
    have h := Option.some.inj h
    rw [cdec_true (h ▸ trivial)]; exact .nil
  | k :: ks, x :: xs, y :: ys, p, h, K0, σ, us, vs, h1, h2, h3, h4 => by
    cases us with
    | nil => simp at h1
    | cons u us =>
      cases vs with
      | nil => simp at h2
      | cons v vs =>
        have hu : Rv K0 σ x u := h3 0 x rfl
        have hv : Rv K0 σ y v := h4 0 y rfl
        have t3 : ∀ j x, xs[j]? = some x → Rv K0 σ x (us.getD j undef) := fun j z hz => by simpa using h3 (j + 1) z (by simpa using hz)
        have t4 : ∀ j x, ys[j]? = some x → Rv K0 σ x (vs.getD j undef) := fun j z hz => by simpa using h4 (j + 1) z (by simpa using hz)
        simp only [eqCells] at h
        cases hq : eqLeaf k x y with
        | none => simp [hq] at h
        | some q =>
          have hl := leafEq_of hq hu hv
          simp only [hq] at h
          cases ks with
          | nil =>
            cases xs with
            | cons => simp at h
            | nil => cases ys with
              | cons => simp at h
              | nil =>
                have h := Option.some.inj h
                have e1 : us = [] := List.eq_nil_of_length_eq_zero (by simpa using h1)
                have e2 : vs = [] := List.eq_nil_of_length_eq_zero (by simpa using h2)
                subst e1; subst e2; subst h
                have := LeafEqs.cons hl .nil
                rw [Bool.and_true] at this
                exact this
          | cons k' ks' =>
            simp only at h
            cases hr : eqCells (k' :: ks') xs ys with
            | none => simp [hr] at h
            | some r =>
              simp only [hr, Option.some.injEq] at h
              subst h
              have := LeafEqs.cons hl (leafEqs_of hr (by simpa using h1) (by simpa using h2) t3 t4)
              have e : cdec (q ∧ r) = (cdec q && cdec r) := by
                by_cases hq : q <;> by_cases hr : r <;> simp only [cdec, hq, hr, and_true, and_false, and_self, decide_true, decide_false, Bool.and_self, Bool.and_true, Bool.and_false]
              rwa [e]

theorem eqIn_slice_nil {t e : TypeId} (h : P.underlying t = some (.slice e)) (d : Nat) (a : Option Addr) (n c m k : Nat) (w : World) : (Op.equalIn (d + 1) t (.slice a n c) (.slice none m k)).run P w = .ok a.isNone w := by
  cases a <;> simp [Op.equalIn, run_underlying h]
theorem eqIn_ptr_nil {t e : TypeId} (h : P.underlying t = some (.pointer e)) (d : Nat) (a : Option Addr) (w : World) : (Op.equalIn (d + 1) t (.pointer a) (.pointer none)).run P w = .ok a.isNone w := by
  cases a <;> simp [Op.equalIn, run_underlying h]
theorem eqIn_func_nil {t : TypeId} {a b : Array TypeId} {c : Bool} (h : P.underlying t = some (.func a b c)) (d : Nat) (w : World) : (Op.equalIn (d + 1) t .nilFunc .nilFunc).run P w = .ok true w := by
  simp [Op.equalIn, run_underlying h]
theorem eqIn_fn_nil {t : TypeId} {a b : Array TypeId} {c : Bool} (h : P.underlying t = some (.func a b c)) (d : Nat) (f : Fn) (x y : Array Value) (w : World) : (Op.equalIn (d + 1) t (.func f x y) .nilFunc).run P w = .ok false w := by
  simp [Op.equalIn, run_underlying h]

/-- '==' as the operation has it. -/
theorem run_eq {t : TypeId} (hT : TOk P T) {a b : AV} {p : Prop} (h : aeql T t a b = some p) {K0 : Addr → Value → Prop} {σ : List Value} {u v : Value} (hu : Rv K0 σ a u) (hv : Rv K0 σ b v) (op : BinOp) (x y : Operand) (w : World) :
    (eqGuard op t x y u v).run P w = .ok () w ∧ (binOp .eql t u v).run P w = .ok (.bool (cdec p)) w ∧ (binOp .neq t u v).run P w = .ok (.bool (!cdec p)) w := by
  have fin : ∀ (_ : (eqGuard op t x y u v).run P w = .ok () w) (_ : ∀ k a, u ≠ .int k a) (_ : ∀ k a, u ≠ .float k a) (_ : ∀ k a b, u ≠ .complex k a b) (_ : ∀ s, u ≠ .string s) (_ : (Op.equalIn 10000 t u v).run P w = .ok (cdec p) w),
      (eqGuard op t x y u v).run P w = .ok () w ∧ (binOp .eql t u v).run P w = .ok (.bool (cdec p)) w ∧ (binOp .neq t u v).run P w = .ok (.bool (!cdec p)) w := by
    intro h0 h1 h2 h3 h4 h5
    refine ⟨h0, ?_, ?_⟩
    · cases u <;> first
        | (exact absurd rfl (h1 _ _))
        | (exact absurd rfl (h2 _ _))
        | (exact absurd rfl (h3 _ _ _))
        | (exact absurd rfl (h4 _))
        | (simp only [binOp]; simp [Op.equal, Op.maxDepth, h5])
    · cases u <;> first
        | (exact absurd rfl (h1 _ _))
        | (exact absurd rfl (h2 _ _))
        | (exact absurd rfl (h3 _ _ _))
        | (exact absurd rfl (h4 _))
        | (simp only [binOp]; simp [Op.equal, Op.maxDepth, h5])
  have g0 : ∀ {u v : Value}, (∀ a, u ≠ .agg a) → u ≠ .nilIface → (eqGuard op t x y u v).run P w = .ok () w := by
    intro u v h1 h2
    cases op <;> cases u <;> first
      | (exact absurd rfl (h1 _))
      | (exact absurd rfl h2)
      | (simp [eqGuard]; done)
  have agg : ∀ {i : TI} {cs ds : List AV} (_ : TyOk P t i) (_ : (match i.eqk with | [] => none | _ :: _ => eqCells i.eqk cs ds) = some p) (_ : Rv K0 σ (.agg cs) u) (_ : Rv K0 σ (.agg ds) v),
      (eqGuard op t x y u v).run P w = .ok () w ∧ (binOp .eql t u v).run P w = .ok (.bool (cdec p)) w ∧ (binOp .neq t u v).run P w = .ok (.bool (!cdec p)) w := by
    intro i cs ds ht h hu hv
    obtain ⟨us, rfl, l1, _, r1⟩ := hu.agg_inv
    obtain ⟨vs, rfl, l2, _, r2⟩ := hv.agg_inv
    have hne : i.eqk ≠ [] := by intro e; rw [e] at h; cases h
    have h' : eqCells i.eqk cs ds = some p := by
      cases hk : i.eqk with
      | nil => exact absurd hk hne
      | cons => rw [hk] at h; exact h
    obtain ⟨q1, q2⟩ := ht.eq hne
    have hl := leafEqs_of h' (us := us.toList) (vs := vs.toList) (by simpa using l1) (by simpa using l2) (fun j z hz => by simpa using r1 j z hz) (fun j z hz => by simpa using r2 j z hz)
    have hr := q2 w us.toList vs.toList _ hl
    refine fin (run_eqGuard_agg w op t x y us vs q1) (by simp) (by simp) (by simp) (by simp) (by simpa using hr)
  unfold aeql at h
  cases hti : T t with
  | none => simp [hti] at h
  | some i =>
    have ht := hT t i hti
    have hud := ht.und
    simp only [hti] at h
    split at h
    · rename_i c d hk
      rw [hk] at hud
      have h := Option.some.inj h; subst h
      obtain rfl := hu.bool_inv
      obtain rfl := hv.bool_inv
      refine fin (g0 (by simp) (by simp)) (by simp) (by simp) (by simp) (by simp) ?_
      rw [run_equalIn_bool' w 9999 t _ _ hud]
      have e : cdec (c = d) = (c == d) := cdec_of (by simp)
      rw [e]
    · rename_i hk
      rw [hk] at hud
      have h := Option.some.inj h; subst h
      obtain rfl := hu.nils_inv
      obtain rfl := hv.nils_inv
      refine fin (g0 (by simp) (by simp)) (by simp) (by simp) (by simp) (by simp) ?_
      rw [eqIn_slice_nil hud 9999, cdec_true trivial]; rfl
    · rename_i hk
      rw [hk] at hud
      obtain ⟨e, hud⟩ := hud
      have h := Option.some.inj h; subst h
      obtain rfl := hu.nilp_inv
      obtain rfl := hv.nilp_inv
      refine fin (g0 (by simp) (by simp)) (by simp) (by simp) (by simp) (by simp) ?_
      rw [eqIn_ptr_nil hud 9999, cdec_true trivial]; rfl
    · rename_i hk
      rw [hk] at hud
      obtain ⟨e, hud⟩ := hud
      have h := Option.some.inj h; subst h
      obtain ⟨b, rfl, _⟩ := hu.ptr_inv
      obtain rfl := hv.nilp_inv
      refine fin (g0 (by simp) (by simp)) (by simp) (by simp) (by simp) (by simp) ?_
      rw [eqIn_ptr_nil hud 9999, cdec_false (fun h => h)]; rfl
    · rename_i hk
      rw [hk] at hud
      obtain ⟨e, hud⟩ := hud
      have h := Option.some.inj h; subst h
      obtain ⟨b, _, rfl, _⟩ := hu.cptr_inv
      obtain rfl := hv.nilp_inv
      refine fin (g0 (by simp) (by simp)) (by simp) (by simp) (by simp) (by simp) ?_
      rw [eqIn_ptr_nil hud 9999, cdec_false (fun h => h)]; rfl
    · rename_i hk
      rw [hk] at hud
      obtain ⟨e1, e2, e3, hud⟩ := hud
      have h := Option.some.inj h; subst h
      obtain rfl := hu.nilf_inv
      obtain rfl := hv.nilf_inv
      refine fin (g0 (by simp) (by simp)) (by simp) (by simp) (by simp) (by simp) ?_
      rw [eqIn_func_nil hud 9999, cdec_true trivial]
    · rename_i hk
      rw [hk] at hud
      obtain ⟨e1, e2, e3, hud⟩ := hud
      have h := Option.some.inj h; subst h
      obtain ⟨vs, rfl, _⟩ := hu.fn_inv
      obtain rfl := hv.nilf_inv
      refine fin (g0 (by simp) (by simp)) (by simp) (by simp) (by simp) (by simp) ?_
      rw [eqIn_fn_nil hud 9999, cdec_false (fun h => h)]
    · exact agg ht h hu hv
    · exact agg ht h hu hv
    · cases h

theorem guard_slice {op : BinOp} {t : TypeId} {x y : Operand} {a b : Option Addr} {n c m d : Nat} (w : World) : (eqGuard op t x y (.slice a n c) (.slice b m d)).run P w = .ok () w := by
  cases op <;> simp [eqGuard]
theorem run_eql_slice {t e : TypeId} (h : P.underlying t = some (.slice e)) (a : Option Addr) (n c m k : Nat) (w : World) : (binOp .eql t (.slice a n c) (.slice none m k)).run P w = .ok (.bool a.isNone) w ∧ (binOp .neq t (.slice a n c) (.slice none m k)).run P w = .ok (.bool (!a.isNone)) w := by
  have := eqIn_slice_nil h 9999 a n c m k w
  constructor
  · simp only [binOp]; simp [Op.equal, Op.maxDepth, this]
  · simp only [binOp]; simp [Op.equal, Op.maxDepth, this]

/-- What a slice against nil comes to. -/
theorem sem_anil (hT : TOk P T) {op : BinOp} {t t' : TypeId} {x y : Operand} {yes : Bool} (ho : o.op = .binOp op t x y t') (hop : (op = .eql ∧ yes = true) ∨ (op = .neq ∧ yes = false)) (h : anil T t (ev x) (ev y) H K yes) :
    ∃ R : AV → Prop, (∀ (M0 : Nat → Prop) (σ : List Value) (w : World) (ρ : Operand → Value), St M0 H σ w → (∀ x ∈ o.op.operands, Rv (Kof M0 H σ w) σ (ev x) (ρ x)) → ∃ b, (execOp ρ o).run P w = .ok (.value (.bool b)) w ∧ R (.bool b)) ∧ ∀ r, R r → K r H := by
  unfold anil at h
  cases hti : T t with
  | none => simp [hti] at h
  | some i =>
    have hud := (hT t i hti).und
    simp only [hti] at h
    have fin : ∀ (e : TypeId) (_ : P.underlying t = some (.slice e)) (w : World) (ρ : Operand → Value) (a : Option Addr) (n c : Nat), ρ x = .slice a n c → ρ y = .slice none 0 0 → (execOp ρ o).run P w = .ok (.value (.bool (if a.isNone then yes else !yes))) w := by
      intro e hud w ρ a n c hx hy
      obtain ⟨r1, r2⟩ := run_eql_slice hud a n c 0 0 w
      rcases hop with ⟨rfl, rfl⟩ | ⟨rfl, rfl⟩
      · simp [execOp, ho, hx, hy, guard_slice, r1]; cases a <;> rfl
      · simp [execOp, ho, hx, hy, guard_slice, r2]; cases a <;> rfl
    split at h
    · rename_i e es hk hx hy
      rw [hk] at hud
      refine ⟨fun r => (r = .bool (!yes)) ∨ (es = [] ∧ r = .bool yes), fun M0 σ w ρ hs hop' => ?_, fun r hr => ?_⟩
      · have h1 := hop' x (by simp [ho, Op.operands]); rw [hx] at h1
        have h2 := hop' y (by simp [ho, Op.operands]); rw [hy] at h2
        rcases h1.sl_inv with ⟨e0, e1⟩ | ⟨a, cap, sz, val, e1, _⟩
        · exact ⟨_, fin e hud w ρ _ _ _ e1 h2.nils_inv, .inr ⟨e0, rfl⟩⟩
        · exact ⟨_, fin e hud w ρ _ _ _ e1 h2.nils_inv, .inl rfl⟩
      · rcases hr with rfl | ⟨e0, rfl⟩
        · exact h.1
        · exact h.2 e0
    · rename_i e id hk hx hy
      rw [hk] at hud
      split at h
      · rename_i rt rs es hH
        refine ⟨fun r => r = .bool (!yes), fun M0 σ w ρ hs hop' => ?_, fun r hr => by rw [hr]; exact h⟩
        have h1 := hop' x (by simp [ho, Op.operands]); rw [hx] at h1
        have h2 := hop' y (by simp [ho, Op.operands]); rw [hy] at h2
        obtain ⟨_, g, cap, cur, e1, _⟩ := hs.ok id _ _ hH h1.own_inv
        exact ⟨_, fin e hud w ρ _ _ _ e1 h2.nils_inv, rfl⟩
      · exact h.elim
    · exact h.elim

theorem run_strOp (op : BinOp) (t : TypeId) (a b : ByteArray) (w : World) : (binOp op t (.string a) (.string b)).run P w = (Op.stringOp op a b).run P w := by cases op <;> rfl
theorem bs_size (a : Bs) : (⟨a.toArray⟩ : ByteArray).size = a.length := by simp [ByteArray.size]
theorem bs_append (a b : Bs) : (⟨a.toArray⟩ : ByteArray) ++ ⟨b.toArray⟩ = ⟨(a ++ b).toArray⟩ := by
  show ByteArray.append _ _ = _
  apply ByteArray.ext
  rw [ByteArray.append_eq, ByteArray.data_append]
  simp

theorem sem_str {op : BinOp} {t t' : TypeId} {x y : Operand} (ho : o.op = .binOp op t x y t') {a b : Bs} (hx : ev x = .str a) (hy : ev y = .str b) (hop : op ≠ .shl ∧ op ≠ .shr) {nk : Bool} (h : abin T nk op t (.str a) (.str b) H K) :
    ∃ r, (∀ H, OpSem P o ev H r H) ∧ K r H := by
  have go : ∀ (r : AV) (z : Value), (∀ w, (Op.stringOp op ⟨a.toArray⟩ ⟨b.toArray⟩).run P w = .ok z w) → (∀ K0 σ, Rv K0 σ r z) → ∀ H, OpSem P o ev H r H := fun r z h1 h2 =>
    sem_bin_of ho hx hy fun K0 σ w u v hu hv => by
      rw [hu.str_inv, hv.str_inv]
      exact ⟨z, guard_str w, by rw [run_strOp]; exact h1 w, h2 _ _⟩
  have gb : ∀ (c : Bool), (∀ w, (Op.stringOp op ⟨a.toArray⟩ ⟨b.toArray⟩).run P w = .ok (.bool c) w) → ∀ H, OpSem P o ev H (.bool c) H := fun c h1 => go _ _ h1 fun _ _ => .bool _ _
  unfold abin at h
  cases op <;> simp only at h
  case add => exact ⟨_, go _ (.string ⟨(a ++ b).toArray⟩) (fun w => by
    have : ¬ ((((⟨a.toArray⟩ : ByteArray).size + (⟨b.toArray⟩ : ByteArray).size : Nat) : Int) > IntKind.i64.max) := by rw [bs_size, bs_size, IntKind.max_i64]; have := h.1; omega
    simp only [Op.stringOp, if_neg this, bs_append]; rfl) (fun _ _ => .str _ _), h.2⟩
  case eql => exact of_test' h (gb _ fun w => by simp only [Op.stringOp, bs_toList]; rw [cdec_of (b := (a == b)) (by simp)]; rfl)
  case neq => exact of_ntest' h (gb _ fun w => by simp only [Op.stringOp, bs_toList]; rw [cdec_of (b := (a == b)) (by simp)]; rfl)
  case lss => exact of_test' h (gb _ fun w => by simp only [Op.stringOp, bs_toList]; rw [cdec_of (b := Op.bytesLess a b) Iff.rfl]; rfl)
  case geq => exact of_ntest' h (gb _ fun w => by simp only [Op.stringOp, bs_toList]; rw [cdec_of (b := Op.bytesLess a b) Iff.rfl]; rfl)
  all_goals first
    | exact absurd rfl hop.1
    | exact absurd rfl hop.2
    | exact absurd h (by simp)

theorem sem_eqop (hT : TOk P T) {op : BinOp} {t t' : TypeId} {x y : Operand} (ho : o.op = .binOp op t x y t') {a b : AV} (hx : ev x = a) (hy : ev y = b) (h : aeqop T false op t a b H K) : ∃ r, (∀ H, OpSem P o ev H r H) ∧ K r H := by
  unfold aeqop at h
  cases op <;> simp only at h
  case eql =>
    cases hp : aeql T t a b with
    | some p =>
      simp only [hp] at h
      exact of_test' h (sem_bin_of ho hx hy fun K0 σ w u v hu hv => by
        obtain ⟨r1, r2, _⟩ := run_eq hT hp hu hv .eql x y w
        exact ⟨_, r1, r2, .bool _ _⟩)
    | none => simp [hp] at h
  case neq =>
    cases hp : aeql T t a b with
    | some p =>
      simp only [hp] at h
      exact of_ntest' h (sem_bin_of ho hx hy fun K0 σ w u v hu hv => by
        obtain ⟨r1, _, r2⟩ := run_eq hT hp hu hv .neq x y w
        exact ⟨_, r1, r2, .bool _ _⟩)
    | none => simp [hp] at h

/-- A binary operation: it turns nothing, and doesn't look at the heap. -/
theorem sem_bin (hT : TOk P T) {op : BinOp} {t t' : TypeId} {x y : Operand} (ho : o.op = .binOp op t x y t') (h : abin T false op t (ev x) (ev y) H K) : ∃ r, (∀ H, OpSem P o ev H r H) ∧ K r H := by
  by_cases hop : op ≠ .shl ∧ op ≠ .shr
  · generalize hx : ev x = a at h
    generalize hy : ev y = b at h
    have h0 := h
    unfold abin at h
    split at h
    · exact absurd rfl hop.1
    · exact absurd rfl hop.2
    · split at h
      · rename_i k a' k' b'
        cases hk : sameKind k k' with
        | false => simp [hk] at h
        | true =>
          simp only [hk, cond_true] at h
          have := sameKind_eq hk; subst this
          exact sem_aint ho hx hy hop h
      · exact sem_str ho hx hy hop h0
      · exact sem_eqop hT ho hx hy h
  · have hsh : op = .shl ∨ op = .shr := by
      by_cases h1 : op = .shl
      · exact .inl h1
      · by_cases h2 : op = .shr
        · exact .inr h2
        · exact absurd ⟨h1, h2⟩ hop
    unfold abin at h
    rcases hsh with rfl | rfl
    · simp only at h
      split at h
      · rename_i k a k' b hx hy
        refine ⟨_, sem_bin_of ho hx hy fun K0 σ w u v hu hv => ?_, h.2⟩
        rw [hu.int_inv, hv.int_inv]
        exact ⟨.int k (k.wrap (a * 2 ^ (min b.toNat k.bits))), guard_int w, by simp [binOp, Op.shift, show ¬ b < 0 by omega], .int _ _ _⟩
      · exact h.elim
    · simp only at h
      split at h
      · rename_i k a k' b hx hy
        refine ⟨_, sem_bin_of ho hx hy fun K0 σ w u v hu hv => ?_, h.2⟩
        rw [hu.int_inv, hv.int_inv]
        exact ⟨.int k (a.fdiv (2 ^ (min b.toNat k.bits))), guard_int w, by simp [binOp, Op.shift, show ¬ b < 0 by omega], .int _ _ _⟩
      · exact h.elim

/-- With slices held against nil: one of several results. -/
theorem sem_bin_nil (hT : TOk P T) {op : BinOp} {t t' : TypeId} {x y : Operand} (ho : o.op = .binOp op t x y t') (h : abin T true op t (ev x) (ev y) H K) :
    (∃ r, (∀ H, OpSem P o ev H r H) ∧ K r H) ∨ ∃ R : AV → Prop, (∀ (M0 : Nat → Prop) (σ : List Value) (w : World) (ρ : Operand → Value), St M0 H σ w → (∀ x ∈ o.op.operands, Rv (Kof M0 H σ w) σ (ev x) (ρ x)) → ∃ b, (execOp ρ o).run P w = .ok (.value (.bool b)) w ∧ R (.bool b)) ∧ ∀ r, R r → K r H := by
  by_cases hn : (op = .eql ∨ op = .neq) ∧ (∀ k a k' b, ¬ (ev x = .int k a ∧ ev y = .int k' b)) ∧ (∀ a b, ¬ (ev x = .str a ∧ ev y = .str b)) ∧ aeql T t (ev x) (ev y) = none
  · obtain ⟨h1, h2, h3, h4⟩ := hn
    refine .inr ?_
    rcases h1 with rfl | rfl
    · refine sem_anil hT ho (.inl ⟨rfl, rfl⟩) ?_
      unfold abin aeqop at h
      simp only at h
      split at h
      · rename_i e1 e2; exact absurd ⟨e1, e2⟩ (h2 _ _ _ _)
      · rename_i e1 e2; exact absurd ⟨e1, e2⟩ (h3 _ _)
      · simpa [h4] using h
    · refine sem_anil hT ho (.inr ⟨rfl, rfl⟩) ?_
      unfold abin aeqop at h
      simp only at h
      split at h
      · rename_i e1 e2; exact absurd ⟨e1, e2⟩ (h2 _ _ _ _)
      · rename_i e1 e2; exact absurd ⟨e1, e2⟩ (h3 _ _)
      · simpa [h4] using h
  · refine .inl (sem_bin hT ho ?_)
    unfold abin aeqop at h ⊢
    cases op <;> simp only at h ⊢ <;> try exact h
    case eql =>
      split at h
      · rename_i e1 e2; simpa [e1, e2] using h
      · rename_i e1 e2; simpa [e1, e2] using h
      · rename_i n1 n2
        cases hp : aeql T t (ev x) (ev y) with
        | none => exact absurd ⟨.inl rfl, fun k a k' b ⟨e1, e2⟩ => n1 _ _ _ _ e1 e2, fun a b ⟨e1, e2⟩ => n2 _ _ e1 e2, hp⟩ hn
        | some p => simpa [hp] using h
    case neq =>
      split at h
      · rename_i e1 e2; simpa [e1, e2] using h
      · rename_i e1 e2; simpa [e1, e2] using h
      · rename_i n1 n2
        cases hp : aeql T t (ev x) (ev y) with
        | none => exact absurd ⟨.inr rfl, fun k a k' b ⟨e1, e2⟩ => n1 _ _ _ _ e1 e2, fun a b ⟨e1, e2⟩ => n2 _ _ e1 e2, hp⟩ hn
        | some p => simpa [hp] using h
end
end Go.Ve
