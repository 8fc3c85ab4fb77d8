/- An abstract weakest precondition, thirteenth text: code, functions, contracts. -/
import Derived.Test.YtlmdacgkaailiaaDoorVeL
import Derived.Scope
namespace Go.Ve
open Go.RowKit (Below)

def toE : AX → Exit
  | .normal => .normal
  | .exit id => .exit id
  | .ret => .ret

section
variable {P : Program} {T : TT} {n : Nat}

theorem min_nat {p : Nat → Prop} (h : ∃ n, p n) : ∃ n, p n ∧ ∀ m, p m → n ≤ m := by
  obtain ⟨n, hn⟩ := h
  induction n using Nat.strongRecOn with
  | _ n ih =>
    by_cases hm : ∃ m, m < n ∧ p m
    · obtain ⟨m, h1, h2⟩ := hm; exact ih m h1 h2
    · exact ⟨n, hn, fun m hpm => by
        rcases Nat.lt_or_ge m n with h | h
        · exact absurd ⟨m, h, hpm⟩ hm
        · exact h⟩

/-- A loop, its invariant told with a hidden state. -/
theorem wp_loop_ix {c : Code} {Q : Exit → Act → World → Prop} {ι : Type} (I : ι → Act → World → Prop) (μ : ι → Nat) {i0 : ι} {a : Act} {w : World} (h0 : I i0 a w)
    (round : ∀ i a w, I i a w → c.wp P (Exit.then (fun a' w' => ∃ i', I i' a' w' ∧ μ i' < μ i) Q) a w) : (Code.loop c).wp P Q a w := by
  have ex : ∀ a w, (∃ i, I i a w) → ∃ k, (∃ i, I i a w ∧ μ i = k) ∧ ∀ m, (∃ i, I i a w ∧ μ i = m) → k ≤ m := fun a w ⟨i, hi⟩ => min_nat ⟨μ i, i, hi, rfl⟩
  let ν : Act → World → Nat := fun a w => open Classical in if h : ∃ i, I i a w then Classical.choose (ex a w h) else 0
  refine wp_loop (fun a w => ∃ i, I i a w) ν ⟨i0, h0⟩ fun a w h => ?_
  have hν : ν a w = Classical.choose (ex a w h) := dif_pos h
  obtain ⟨⟨i, hi, hk⟩, _⟩ := Classical.choose_spec (ex a w h)
  refine wp_mono (round i a w hi) fun e a' w' hq => ?_
  cases e with
  | normal =>
    obtain ⟨i', hi', hlt⟩ := hq
    refine ⟨⟨i', hi'⟩, ?_⟩
    have hν' : ν a' w' = Classical.choose (ex a' w' ⟨i', hi'⟩) := dif_pos ⟨i', hi'⟩
    have := (Classical.choose_spec (ex a' w' ⟨i', hi'⟩)).2 _ ⟨i', hi', rfl⟩
    rw [hν, hν', ← hk]; omega
  | _ => exact hq

/-- What is shown of code. -/
def Sound (P : Program) (n : Nat) (c : Code) (Q : AQ) (s : AS) : Prop :=
  ∀ (M0 : Nat → Prop) (σ : List Value) (w : World) (a : Act), St M0 s.H σ w → ActOk (Kof M0 s.H σ w) σ n s.env a →
    c.wp P (fun e a' w' => ∃ x s' σ', e = toE x ∧ Q x s' ∧ St M0 s'.H σ' w' ∧ Ext s.H σ w s'.H σ' w' ∧ ActOk (Kof M0 s'.H σ' w') σ' n s'.env a') a w

theorem awp_sound (hT : TOk P T) (hm : P.follows .mixedOrders = true) : ∀ (c : Code) (Q : AQ) (s : AS), AWP P T n c Q s → Sound P n c Q s := by
  intro c
  induction c with
  | skip => intro Q s h M0 σ w a hs ha; exact wp_skip ⟨.normal, s, σ, rfl, h, hs, Ext.refl _ _ _, ha⟩
  | region id ops d =>
    intro Q s h M0 σ w a hs ha
    cases d with
    | false =>
      refine wp_region ?_
      rw [List.range_eq_range', ← Array.length_toList]
      exact aops_sound hT ops.toList 0 _ _ a σ w rfl h hs ha fun e' H' a' σ' w' k1 k2 k3 k4 => ⟨.normal, ⟨e', H'⟩, σ', rfl, k1, k2, k3, k4⟩
    | true =>
      obtain ⟨hok, h⟩ := h
      refine wp_region_any hm ?_
      have hB : Below w.heap.size w { w with drawn := w.drawn + 1 } := below_of_heap rfl rfl rfl rfl
      have hx := Ext.of_below (H := s.H) (σ := σ) hB
      exact aopsD_sound hT hok h (hs.below hB) (ha.ext hx) fun e' H' a' σ' w' k1 k2 k3 k4 => ⟨.normal, ⟨e', H'⟩, σ', rfl, k1, k2, hx.trans k3, k4⟩
  | seq x y ihx ihy =>
    intro Q s h M0 σ w a hs ha
    have h : AWP P T n x (afterQ (fun s' => Box (AWP P T n y Q s')) Q) s := h
    refine wp_seq (wp_mono (ihx _ s h M0 σ w a hs ha) fun e a' w' hq => ?_)
    obtain ⟨x1, s', σ', rfl, k1, k2, k3, k4⟩ := hq
    cases x1 with
    | normal =>
      refine wp_mono (ihy Q s' k1.h M0 σ' w' a' k2 k4) fun e a'' w'' hq => ?_
      obtain ⟨x1, s'', σ'', rfl, m1, m2, m3, m4⟩ := hq
      exact ⟨x1, s'', σ'', rfl, m1, m2, k3.trans m3, m4⟩
    | exit id => exact ⟨.exit id, s', σ', rfl, k1, k2, k3, k4⟩
    | ret => exact ⟨.ret, s', σ', rfl, k1, k2, k3, k4⟩
  | cond v x y ihx ihy =>
    intro Q s h M0 σ w a hs ha
    have h : condQ (evalO s.env v) (Box (AWP P T n x Q s)) (Box (AWP P T n y Q s)) := h
    unfold condQ at h
    split at h
    · rename_i t ht
      have hv := ha.eval v
      rw [ht] at hv
      cases t with
      | true => exact wp_cond_true hv.bool_inv (ihx Q s h.h M0 σ w a hs ha)
      | false => exact wp_cond_false hv.bool_inv (ihy Q s h.h M0 σ w a hs ha)
    · exact h.elim
  | block id c ih =>
    intro Q s h M0 σ w a hs ha
    have h : AWP P T n c (blockQ id Q) s := h
    refine wp_block (wp_mono (ih _ s h M0 σ w a hs ha) fun e a' w' hq => ?_)
    obtain ⟨x1, s', σ', rfl, k1, k2, k3, k4⟩ := hq
    cases x1 with
    | normal => exact ⟨.normal, s', σ', rfl, k1, k2, k3, k4⟩
    | ret => exact ⟨.ret, s', σ', rfl, k1, k2, k3, k4⟩
    | exit i =>
      simp only [blockQ] at k1
      simp only [toE, Exit.inBlock]
      by_cases hid : i = id
      · subst hid
        rw [if_pos rfl]
        have : Nat.beq i i = true := Nat.beq_refl i
        rw [this] at k1
        exact ⟨.normal, s', σ', rfl, k1, k2, k3, k4⟩
      · rw [if_neg hid]
        rw [beq_ne hid] at k1
        exact ⟨.exit i, s', σ', rfl, k1, k2, k3, k4⟩
  | loop c ih =>
    intro Q s h M0 σ w a hs ha
    have h : ALoop (AWP P T n c) Q s := h
    unfold ALoop at h
    obtain ⟨ι, I, shape, μ, ⟨i0, hI0, hw0⟩, hr⟩ := h
    have weak : ∀ {s1 s2 : AS} {σ1 : List Value} {w1 : World} {a1 : Act}, Weak s.H.length s1 s2 → St M0 s1.H σ1 w1 → Ext s.H σ w s1.H σ1 w1 → ActOk (Kof M0 s1.H σ1 w1) σ1 n s1.env a1 →
        ∃ σ2, St M0 s2.H σ2 w1 ∧ Ext s.H σ w s2.H σ2 w1 ∧ ActOk (Kof M0 s2.H σ2 w1) σ2 n s2.env a1 := by
      intro s1 s2 σ1 w1 a1 hw g2 g3 g4
      obtain ⟨σ2, m1, m2, m3, m4⟩ := hw M0 σ1 w1 n a1 (by rw [← hs.len]; exact g3.pre.length_le) g2 g4
      refine ⟨σ2, m3, ⟨g3.os, g3.tape, g3.output, g3.size, ?_, g3.keep, fun b hb hm => g3.mutb b hb (m2 b hm)⟩, m4⟩
      obtain ⟨t, ht⟩ := g3.pre
      have : σ1.take s.H.length = σ := by rw [← ht, ← hs.len]; simp
      rw [this] at m1; exact m1
    obtain ⟨σ0, i1, i2, i3⟩ := weak hw0 hs (Ext.refl _ _ _) ha
    refine wp_loop_ix (ι := ι × List Value) (fun p a' w' => I p.1 ∧ St M0 (shape p.1).H p.2 w' ∧ Ext s.H σ w (shape p.1).H p.2 w' ∧ ActOk (Kof M0 (shape p.1).H p.2 w') p.2 n (shape p.1).env a') (fun p => μ p.1) (i0 := (i0, σ0)) ⟨hI0, i1, i2, i3⟩ fun p a' w' hI => ?_
    obtain ⟨i, σ'⟩ := p
    obtain ⟨g1, g2, g3, g4⟩ := hI
    refine wp_mono (ih _ (shape i) (hr i g1) M0 σ' w' a' g2 g4) fun e a'' w'' hq => ?_
    obtain ⟨x1, s'', σ'', rfl, k1, k2, k3, k4⟩ := hq
    cases x1 with
    | normal =>
      obtain ⟨j, n2, n3, n1⟩ := k1
      obtain ⟨σ3, o1, o2, o3⟩ := weak n1 k2 (g3.trans k3) k4
      exact ⟨(j, σ3), ⟨n2, o1, o2, o3⟩, n3⟩
    | exit id => exact ⟨.exit id, s'', σ'', rfl, k1, k2, g3.trans k3, k4⟩
    | ret => exact ⟨.ret, s'', σ'', rfl, k1, k2, g3.trans k3, k4⟩
  | exit id => intro Q s h M0 σ w a hs ha; exact wp_exit ⟨.exit id, s, σ, rfl, h, hs, Ext.refl _ _ _, ha⟩
  | ret => intro Q s h M0 σ w a hs ha; exact wp_ret ⟨.ret, s, σ, rfl, h, hs, Ext.refl _ _ _, ha⟩
  | scope c ih =>
    intro Q s h M0 σ w a hs ha
    simp only [AWP] at h
    refine wp_scope_straight (wp_mono (ih _ s h M0 σ w a hs ha) fun e a' w' hq => ?_)
    obtain ⟨x1, s', σ', rfl, k⟩ := hq
    cases x1 with
    | normal => exact ⟨.normal, s', σ', rfl, k⟩
    | exit id => exact ⟨.exit id, s', σ', rfl, k⟩
    | ret => exact ⟨.ret, s', σ', rfl, k⟩
  | _ => intro Q s h; exact h.elim

/-! ### a function's results -/
theorem load_run (hT : TOk P T) {t : TypeId} {x : AV} {H : Hp} {K : KV} (h : aload T t x H K) : ∃ r, K r H ∧ ∀ (M0 : Nat → Prop) (σ : List Value) (w : World) (v : Value), St M0 H σ w → Rv (Kof M0 H σ w) σ x v →
    ∃ ad u, v = .pointer (some ad) ∧ (loadVar t ad).run P w = .ok u w ∧ Rv (Kof M0 H σ w) σ r u := by
  unfold aload at h
  cases hti : T t with
  | none => simp [hti] at h
  | some i =>
    simp only [hti] at h
    have ht := hT t i hti
    have key : ∀ (cs : List AV), ldc i cs H K → (∀ (M0 : Nat → Prop) (σ : List Value) (w : World) (v : Value), St M0 H σ w → Rv (Kof M0 H σ w) σ x v → ∃ ad, v = .pointer (some ad) ∧ At (Kof M0 H σ w) σ w ad cs) →
        ∃ r, K r H ∧ ∀ (M0 : Nat → Prop) (σ : List Value) (w : World) (v : Value), St M0 H σ w → Rv (Kof M0 H σ w) σ x v → ∃ ad u, v = .pointer (some ad) ∧ (loadVar t ad).run P w = .ok u w ∧ Rv (Kof M0 H σ w) σ r u := by
      intro cs hl hat
      obtain ⟨r, hr, hrun⟩ := sem_ldc ht hl
      refine ⟨r, hr, fun M0 σ w v hs hx => ?_⟩
      obtain ⟨ad, e, hA⟩ := hat M0 σ w v hs hx
      obtain ⟨u, h1, h2⟩ := hrun _ σ w ad hA
      exact ⟨ad, u, e, h1, h2⟩
    split at h
    · rename_i id off
      split at h
      · rename_i bt cs hH
        refine key _ h fun M0 σ w v hs hv => ?_
        obtain ⟨b, rfl, hσ⟩ := hv.ptr_inv
        refine ⟨_, rfl, ?_⟩
        have := (at_box hs hH hσ).1.drop off
        rwa [Addr.add_lit, Nat.zero_add] at this
      · exact h.elim
    · rename_i cs
      refine key _ h fun M0 σ w v hs hv => ?_
      obtain ⟨ad, val, rfl, h1, h2, h3⟩ := hv.cptr_inv
      exact ⟨ad, rfl, at_cptr h1 h2 h3⟩
    · rename_i id ix sz off
      split at h
      · rename_i rt rs es hH
        cases hsz : Nat.beq sz rs with
        | false => simp [hsz] at h
        | true =>
          simp only [hsz, cond_true] at h
          have esz : sz = rs := Nat.eq_of_beq_eq_true hsz
          subst esz
          obtain ⟨c, hc, h⟩ := h
          refine key _ h fun M0 σ w v hs hv => ?_
          obtain ⟨g, n, cap, rfl, hσ⟩ := hv.eptr_inv
          refine ⟨_, rfl, ?_⟩
          have := (at_row hs hH hσ hc).drop off
          rwa [Addr.add_lit] at this
      · exact h.elim
    · exact h.elim

def res1 (tmps : Array Value) : ResultVar → Sem Value
  | .tmp t => pure (tmps.getD t undef)
  | .cell a t => do loadVar t (← asAddr (tmps.getD a undef))
theorem results_eq (fn : Func) (tmps : Array Value) : results fn tmps = (do
    let vs ← fn.results.mapM (res1 tmps)
    pure (if h : vs.size = 1 then vs[0] else .tuple vs)) := by
  unfold results
  congr 1

theorem res_run (hT : TOk P T) {M0 : Nat → Prop} {s : AS} {σ : List Value} {w : World} {a : Act} (hs : St M0 s.H σ w) (ha : ActOk (Kof M0 s.H σ w) σ n s.env a) {r : ResultVar} {K : AV → Prop} (h : resOf T s r K) :
    ∃ x v, K x ∧ Rv (Kof M0 s.H σ w) σ x v ∧ (res1 a.tmps r).run P w = .ok v w := by
  cases r with
  | tmp t => exact ⟨_, _, h, ha.rv t, rfl⟩
  | cell b t =>
    simp only [resOf] at h
    obtain ⟨r, h1, h2⟩ := load_run (P := P) hT h
    obtain ⟨ad, u, e, h3, h4⟩ := h2 M0 σ w _ hs (ha.rv b)
    exact ⟨r, u, h1, h4, by simp [res1, e, asAddr, h3]⟩

theorem res_runs (hT : TOk P T) {M0 : Nat → Prop} {s : AS} {σ : List Value} {w : World} {a : Act} (hs : St M0 s.H σ w) (ha : ActOk (Kof M0 s.H σ w) σ n s.env a) : ∀ {rs : List ResultVar} {K : List AV → Prop}, resOfs T s rs K →
    ∃ xs vs, K xs ∧ Rvs (Kof M0 s.H σ w) σ xs vs ∧ (rs.mapM (res1 a.tmps)).run P w = .ok vs w
  | [], K, h => ⟨[], [], h, ⟨rfl, fun i x hx => by simp at hx⟩, rfl⟩
  | r :: rs, K, h => by
    simp only [resOfs] at h
    obtain ⟨x, v, h1, h2, h3⟩ := res_run hT hs ha h
    obtain ⟨xs, vs, h4, h5, h6⟩ := res_runs hT hs ha h1
    refine ⟨x :: xs, v :: vs, h4, ⟨by simp [h5.1], fun i y hy => ?_⟩, by simp [h3, h6]⟩
    cases i with
    | zero => simp at hy; subst hy; exact h2
    | succ i => exact h5.2 i y hy

theorem mk_run {K0 : Addr → Value → Prop} {σ : List Value} {xs : List AV} {vs : List Value} (h : Rvs K0 σ xs vs) : Rv K0 σ (mkRes xs) (if h : vs.toArray.size = 1 then vs.toArray[0] else .tuple vs.toArray) := by
  match xs, vs, h with
  | [x], [v], h => exact h.2 0 x rfl
  | [x], [], h => exact absurd h.1 (by simp)
  | [x], _ :: _ :: _, h => exact absurd h.1 (by simp)
  | [], vs, h =>
    have : vs = [] := List.length_eq_zero_iff.1 h.1
    subst this
    exact .tup _ _ _ rfl (fun j x hx => by simp at hx)
  | x :: y :: xs, vs, h =>
    have hl := h.1
    have hne : ¬ vs.toArray.size = 1 := by simp [hl]
    rw [dif_neg hne]
    refine .tup _ _ _ (by simpa using hl) (fun j x hx => ?_)
    have := h.2 j x hx
    simpa using this

theorem results_run (hT : TOk P T) {M0 : Nat → Prop} {s : AS} {σ : List Value} {w : World} {a : Act} {fn : Func} (hs : St M0 s.H σ w) (ha : ActOk (Kof M0 s.H σ w) σ n s.env a) {K : List AV → Prop} (h : resOfs T s fn.results.toList K) :
    ∃ xs vs, K xs ∧ Rvs (Kof M0 s.H σ w) σ xs vs ∧ (results fn a.tmps).run P w = .ok (if h : vs.toArray.size = 1 then vs.toArray[0] else .tuple vs.toArray) w := by
  obtain ⟨xs, vs, h1, h2, h3⟩ := res_runs hT hs ha h
  refine ⟨xs, vs, h1, h2, ?_⟩
  rw [results_eq, Array.mapM_eq_mapM_toList]
  simp only [Sem.run_bind, Sem.run_map, h3]
  rfl

/-! ### a function -/
/-- What the record of a function says, as far as a call needs it. -/
structure FnIs (P : Program) (f : FuncId) (ntmps : Nat) (c : Code) (rs : List ResultVar) : Prop where
  ex : ∃ fn, P.funcs[f]? = some fn ∧ fn.body = some c ∧ fn.ntmps = ntmps ∧ fn.results.toList = rs ∧ (fn.name == "runtime.NumGoroutine") = false

theorem FnIs.callable {f : FuncId} {c : Code} {rs : List ResultVar} (h : FnIs P f n c rs) : Callable P f := by
  obtain ⟨fn, h1, h2, h3, h4, h5⟩ := h.ex
  intro args w
  have h6 : ¬ fn.name = "runtime.NumGoroutine" := by simpa using h5
  simp [callFunc, h1, h2, h6]

theorem Rvs.act {K0 : Addr → Value → Prop} {σ : List Value} {args : List AV} {vs : List Value} (h : Rvs K0 σ args vs) (hn : args.length ≤ n) :
    ActOk K0 σ n (env0 args) { tmps := vs.toArray ++ Array.replicate (n - vs.toArray.size) undef, defers := [] } := by
  refine ⟨by simp [h.1]; omega, rfl, fun i => ?_⟩
  unfold env0
  by_cases hi : i < args.length
  · have := h.2 i args[i] (List.getElem?_eq_getElem hi)
    have e : (vs.toArray ++ Array.replicate (n - vs.toArray.size) undef).getD i undef = vs.getD i undef := by
      rw [Array.getD_eq_getD_getElem?, Array.getElem?_append_left (by simp [h.1]; exact hi), List.getD_eq_getElem?_getD]; simp
    rw [e, List.getD_eq_getElem?_getD, List.getElem?_eq_getElem hi]
    exact this
  · rw [List.getD_eq_getElem?_getD, List.getElem?_eq_none (by omega)]
    exact .undef _ _

def FPost (T : TT) (rs : List ResultVar) (K : List AV → Hp → Prop) : AQ := fun x s => match x with
  | .exit _ => False
  | _ => resOfs T s rs fun vs => K vs s.H

theorem calls_of_awp (hT : TOk P T) (hm : P.follows .mixedOrders = true) {f : FuncId} {c : Code} {rs : List ResultVar} (hf : FnIs P f n c rs) {args : List AV} (hn : args.length ≤ n) {H : Hp} {K : List AV → Hp → Prop}
    (h : AWP P T n c (FPost T rs K) ⟨env0 args, H⟩) {M0 : Nat → Prop} {σ : List Value} {w : World} {vs : List Value} (hs : St M0 H σ w) (hv : Rvs (Kof M0 H σ w) σ args vs) :
    Calls P f vs.toArray w fun e w' => ∃ xs us H' σ', e = .returned (if h : us.toArray.size = 1 then us.toArray[0] else .tuple us.toArray) ∧ K xs H' ∧ Rvs (Kof M0 H' σ' w') σ' xs us ∧ St M0 H' σ' w' ∧ Ext H σ w H' σ' w' := by
  obtain ⟨fn, h1, h2, rfl, rfl, h5⟩ := hf.ex
  refine calls_of_wp h1 h2 (wp_mono (awp_sound hT hm c _ _ h M0 σ w _ hs (hv.act hn)) fun e a' w' hq => ?_)
  obtain ⟨x, s', σ', rfl, k1, k2, k3, k4⟩ := hq
  cases x with
  | exit id => exact k1.elim
  | normal =>
    obtain ⟨xs, us, m1, m2, m3⟩ := results_run (fn := fn) hT k2 k4 k1
    exact ⟨k4.defers, _, m3, xs, us, s'.H, σ', rfl, m1, m2, k2, k3⟩
  | ret =>
    obtain ⟨xs, us, m1, m2, m3⟩ := results_run (fn := fn) hT k2 k4 k1
    exact ⟨k4.defers, _, m3, xs, us, s'.H, σ', rfl, m1, m2, k2, k3⟩

/-- A call, walked with the caller's own objects. -/
theorem ACall.of_awp (hT : TOk P T) (hm : P.follows .mixedOrders = true) {f : FuncId} {c : Code} {rs : List ResultVar} (hf : FnIs P f n c rs) {args : List AV} (hn : args.length ≤ n) {H : Hp} {K : KV}
    (h : AWP P T n c (FPost T rs fun vs H' => K (mkRes vs) H') ⟨env0 args, H⟩) : ACall P f args H K := by
  unfold ACall
  refine ⟨hf.callable, fun M0 σ w vs hs hv => Calls.mono (calls_of_awp hT hm hf hn h hs hv) fun e w' he => ?_⟩
  obtain ⟨xs, us, H', σ', rfl, k1, k2, k3, k4⟩ := he
  exact ⟨_, _, H', σ', rfl, k3, k4, mk_run k2, k1⟩

/-! ### what a value is to others -/
theorem view1_rv {M0 : Nat → Prop} {H : Hp} {σ : List Value} {w : World} (hs : St M0 H σ w) {x y : AV} {v : Value} (hx : Rv (Kof M0 H σ w) σ x v) (h : view1 H x = some y) : Rv (Cst M0 w) [] y v := by
  have toC : ∀ a u, Kof M0 H σ w a u → Cst M0 w a u := fun a u hk => ⟨fun hm => hk.1 (.inl hm), hk.2⟩
  have clo : ∀ {z : AV} {u : Value}, closed1 z = true → Rv (Kof M0 H σ w) σ z u → Rv (Cst M0 w) [] z u := fun hc hz => (hz.closed (σ' := []) hc).mono toC (List.prefix_refl _)
  unfold view1 at h
  split at h
  · rename_i id
    have hσ := hx.own_inv
    obtain ⟨o, ho⟩ : ∃ o, H[id]? = some o := by
      cases hH : H[id]? with
      | none => rw [hH] at h; simp [rowOf] at h
      | some o => exact ⟨o, rfl⟩
    rw [ho] at h
    have hob := hs.ok id o v ho hσ
    cases o with
    | row t sz es =>
      simp [rowOf] at h
      subst h
      obtain ⟨h0, g, cap, cur, rfl, q1, q2, q3, q4, q5⟩ := hob
      have hM : Mb H σ g := ⟨id, _, _, ho, rfl, hσ, rfl⟩
      have hlen : es.length * sz ≤ cur.size := by rw [q4]; exact Nat.mul_le_mul_right _ q2
      refine .sl _ es _ cap sz (fun i j => cur.getD (i * sz + j) undef) q2 (by omega) (fun c hc => ?_) (fun i j c x hc hx => ((q5 i c hc).2.2 j x hx).mono toC (List.prefix_refl _)) (fun i j hi hj => ⟨by rw [Addr.add_lit]; exact hs.sep g hM, ?_⟩)
      · obtain ⟨i, hi⟩ := List.getElem?_of_mem hc
        exact ⟨(q5 i c hi).1, (q5 i c hi).2.1⟩
      · rw [Addr.add_lit, Nat.zero_add]
        exact getD_cell q1 (Nat.lt_of_lt_of_le (row_pos hi hj) hlen)
    | frz es =>
      simp [rowOf] at h
      subst h
      exact Rv.mono hob toC (List.prefix_refl _)
    | box t cs => simp [rowOf] at h
    | dead => simp [rowOf] at h
  · rename_i id off
    split at h
    · rename_i t cs hH
      cases hc : cs.all closed1 with
      | false => rw [hc] at h; cases h
      | true =>
        rw [hc] at h
        simp only [cond_true, Option.some.injEq] at h
        subst h
        obtain ⟨b, rfl, hσ⟩ := hx.ptr_inv
        obtain ⟨h0, b', vs, e, q1, q2, q3⟩ := hs.ok id _ _ hH hσ
        simp only [Value.pointer.injEq, Option.some.injEq, Addr.mk.injEq] at e
        obtain ⟨rfl, _⟩ := e
        have hM : Mb H σ b := ⟨id, _, _, hH, rfl, hσ, rfl⟩
        refine .cptr _ _ _ (fun j => vs.getD (off + j) undef) ?_ (fun j x hx => ?_) (fun j hj => ⟨by rw [Addr.add_lit]; exact hs.sep b hM, ?_⟩)
        · rw [List.all_eq_true] at *; exact fun x hx => cell_of_closed (hc x (List.mem_of_mem_drop hx))
        · rw [List.getElem?_drop] at hx
          exact clo ((List.all_eq_true.1 hc) x (List.mem_of_getElem? hx)) (q3 _ x hx)
        · rw [List.length_drop] at hj
          rw [Addr.add_lit]
          exact getD_cell q1 (by omega)
    · cases h
  · rename_i cs
    cases hc : cs.all closed1 with
    | false => rw [hc] at h; cases h
    | true =>
      rw [hc] at h
      simp only [cond_true, Option.some.injEq] at h
      subst h
      obtain ⟨vs, rfl, h1, h2, h3⟩ := hx.agg_inv
      exact .agg _ _ _ h1 h2 (fun j x hx => clo ((List.all_eq_true.1 hc) x (List.mem_of_getElem? hx)) (h3 j x hx))
  · rename_i f cs
    cases hc : cs.all closed1 with
    | false => rw [hc] at h; cases h
    | true =>
      rw [hc] at h
      simp only [cond_true, Option.some.injEq] at h
      subst h
      obtain ⟨vs, rfl, h1, h3⟩ := hx.fn_inv
      exact .fn _ _ _ _ h1 (fun j x hx => clo ((List.all_eq_true.1 hc) x (List.mem_of_getElem? hx)) (h3 j x hx))
  · cases hc : closed1 x with
    | false => rw [hc] at h; cases h
    | true =>
      rw [hc] at h
      simp only [cond_true, Option.some.injEq] at h
      subst h
      exact clo hc hx

theorem viewAll_rv {M0 : Nat → Prop} {H : Hp} {σ : List Value} {w : World} (hs : St M0 H σ w) : ∀ {xs ys : List AV} {vs : List Value}, Rvs (Kof M0 H σ w) σ xs vs → viewAll H xs = some ys → Rvs (Cst M0 w) [] ys vs
  | [], ys, vs, hx, h => by
    simp only [viewAll, Option.some.injEq] at h
    subst h
    exact ⟨hx.1, fun i x hx => by simp at hx⟩
  | x :: xs, ys, vs, hx, h => by
    simp only [viewAll] at h
    cases hv : view1 H x with
    | none => rw [hv] at h; cases h
    | some y =>
      rw [hv] at h
      simp only [Option.map_eq_some_iff] at h
      obtain ⟨zs, hz, rfl⟩ := h
      obtain ⟨hl, hr⟩ := hx
      cases vs with
      | nil => simp at hl
      | cons v vs =>
        have ih := viewAll_rv hs (xs := xs) (ys := zs) (vs := vs) ⟨by simpa using hl, fun i z hi => hr (i + 1) z hi⟩ hz
        refine ⟨by simp [ih.1], fun i z hi => ?_⟩
        cases i with
        | zero => simp at hi; subst hi; exact view1_rv hs (hr 0 x rfl) hv
        | succ i => exact ih.2 i z hi

theorem Mb_nil {b : Nat} : ¬ Mb [] [] b := by rintro ⟨i, o, v, h, _⟩; simp at h
theorem Kof_nil {M0 : Nat → Prop} {w : World} : Kof M0 [] [] w = Cst M0 w := by
  funext a v
  unfold Kof Cst
  have : (¬ (M0 a.block ∨ Mb [] [] a.block)) = ¬ M0 a.block := by simp [Mb_nil]
  rw [this]
theorem St.nil {M0 : Nat → Prop} {w : World} (h : ∀ b, M0 b → b < w.heap.size) (hg : ∀ b, gblk = some b → ∃ m, Cst M0 w ⟨b, 0, none⟩ (.int .i64 m)) : St M0 [] [] w := ⟨rfl, fun i o v h => by simp at h, fun i j o o' v v' b _ h => by simp at h, fun b h => absurd h Mb_nil, h, by rw [Kof_nil]; exact hg⟩

/-- The contract of a function that touches nothing, from its code. -/
theorem PCall.of_awp (hT : TOk P T) (hm : P.follows .mixedOrders = true) {f : FuncId} {c : Code} {rs : List ResultVar} (hf : FnIs P f n c rs) {args : List AV} (hn : args.length ≤ n) {r : AV}
    (h : AWP P T n c (PPost T rs r) ⟨env0 args, []⟩) : PCall P f args r := by
  unfold PCall
  refine ⟨hf.callable, fun M0 w vs hM hG hv => ?_⟩
  have hs : St M0 [] [] w := St.nil hM hG
  have h' : AWP P T n c (FPost T rs fun xs H' => match viewAll H' xs with | some us => forceL us fun us' => mkRes us' = r | none => False) ⟨env0 args, []⟩ := by
    have e : (FPost T rs fun xs H' => match viewAll H' xs with | some us => forceL us fun us' => mkRes us' = r | none => False) = PPost T rs r := by
      funext x s; cases x <;> rfl
    rw [e]; exact h
  refine Calls.mono (calls_of_awp hT hm hf hn h' hs (by rw [Kof_nil]; exact hv)) fun e w' he => ?_
  obtain ⟨xs, us, H', σ', rfl, k1, k2, k3, k4⟩ := he
  cases hva : viewAll H' xs with
  | none => rw [hva] at k1; exact k1.elim
  | some ys =>
    rw [hva] at k1
    simp only [forceL_eq] at k1
    subst k1
    exact ⟨_, rfl, ⟨k4.os, k4.tape, k4.output, k4.size, fun b hb => k4.keep b hb Mb_nil⟩, mk_run (viewAll_rv k3 k2 hva)⟩

/-! ### a call in an abstract state, from a contract -/
/-- Values without memory. -/
def flat1 : AV → Bool
  | .int _ _ | .bool _ | .str _ | .nils | .nilp | .nilf | .nili => true
  | _ => false
def flat : AV → Bool
  | .agg cs => cs.all flat1
  | .tup cs => cs.all fun x => flat1 x || (match x with | .agg ds => ds.all flat1 | _ => false)
  | x => flat1 x
theorem Rv.flat1 {K K' : Addr → Value → Prop} {σ σ' : List Value} {x : AV} {v : Value} (h : Rv K σ x v) (hf : Ve.flat1 x = true) : Rv K' σ' x v := by
  cases h <;> first
    | exact .int _ _ _
    | exact .bool _ _
    | exact .str _ _
    | exact .nils _
    | exact .nilp _
    | exact .nilf _
    | exact .nili _
    | (simp [Ve.flat1] at hf; done)
theorem Rv.flatAgg {K K' : Addr → Value → Prop} {σ σ' : List Value} {cs : List AV} {v : Value} (h : Rv K σ (.agg cs) v) (hf : cs.all Ve.flat1 = true) : Rv K' σ' (.agg cs) v := by
  obtain ⟨vs, rfl, h1, h2, h3⟩ := h.agg_inv
  exact .agg _ _ _ h1 h2 fun j x hx => (h3 j x hx).flat1 ((List.all_eq_true.1 hf) x (List.mem_of_getElem? hx))
theorem Rv.flat {K K' : Addr → Value → Prop} {σ σ' : List Value} {x : AV} {v : Value} (h : Rv K σ x v) (hf : Ve.flat x = true) : Rv K' σ' x v := by
  unfold Ve.flat at hf
  split at hf
  · exact h.flatAgg hf
  · obtain ⟨vs, rfl, h1, h3⟩ := h.tup_inv
    refine .tup _ _ _ h1 fun j y hy => ?_
    have := (List.all_eq_true.1 hf) y (List.mem_of_getElem? hy)
    rw [Bool.or_eq_true] at this
    rcases this with this | this
    · exact (h3 j y hy).flat1 this
    · split at this
      · exact (h3 j _ hy).flatAgg this
      · cases this
  · exact h.flat1 hf

def closedA : AV → Bool
  | .agg cs => cs.all closed1
  | .fn _ cs => cs.all closed1
  | x => closed1 x
theorem Rv.closedA {K : Addr → Value → Prop} {σ σ' : List Value} {x : AV} {v : Value} (h : Rv K σ x v) (hc : Ve.closedA x = true) : Rv K σ' x v := by
  unfold Ve.closedA at hc
  split at hc
  · obtain ⟨vs, rfl, h1, h2, h3⟩ := h.agg_inv
    exact .agg _ _ _ h1 h2 fun j x hx => (h3 j x hx).closed ((List.all_eq_true.1 hc) x (List.mem_of_getElem? hx))
  · obtain ⟨vs, rfl, h1, h3⟩ := h.fn_inv
    exact .fn _ _ _ _ h1 fun j x hx => (h3 j x hx).closed ((List.all_eq_true.1 hc) x (List.mem_of_getElem? hx))
  · exact h.closed hc

/-- Its arguments name no object. -/
theorem ACall.of_pure {f : FuncId} {args : List AV} {r : AV} {H : Hp} {K : KV} (h : PCall P f args r) (hc : args.all closedA = true) (hK : K r H) : ACall P f args H K := by
  unfold PCall at h
  unfold ACall
  refine ⟨h.1, fun M0 σ w vs hs hv => ?_⟩
  have hv' : Rvs (Cst (fun b => M0 b ∨ Mb H σ b) w) [] args vs := ⟨hv.1, fun i x hx => (hv.2 i x hx).closedA ((List.all_eq_true.1 hc) x (List.mem_of_getElem? hx))⟩
  refine Calls.mono (h.2 (fun b => M0 b ∨ Mb H σ b) w vs (fun b hb => hb.elim (hs.old b) (Mb_lt hs)) hs.glob hv') fun e w' he => ?_
  obtain ⟨v, rfl, k1, k2⟩ := he
  exact ⟨v, r, H, σ, rfl, hs.below k1, Ext.of_below k1, k2.mono (fun _ _ h => h) ⟨σ, rfl⟩, hK⟩

/-- Some of its arguments are own objects, its result has no memory. -/
theorem ACall.of_view {f : FuncId} {args args' : List AV} {r : AV} {H : Hp} {K : KV} (h : PCall P f args' r) (hv : viewAll H args = some args') (hf : flat r = true) (hK : K r H) : ACall P f args H K := by
  unfold PCall at h
  unfold ACall
  refine ⟨h.1, fun M0 σ w vs hs hvs => Calls.mono (h.2 M0 w vs hs.old (fun b hb => let ⟨m, hm⟩ := hs.glob b hb; ⟨m, fun hx => hm.1 (.inl hx), hm.2⟩) (viewAll_rv hs hvs hv)) fun e w' he => ?_⟩
  obtain ⟨v, rfl, k1, k2⟩ := he
  exact ⟨v, r, H, σ, rfl, hs.below k1, Ext.of_below k1, k2.flat hf, hK⟩

theorem ACall.mono {f : FuncId} {args : List AV} {H : Hp} {K K' : KV} (h : ACall P f args H K) (hk : ∀ r H, K r H → K' r H) : ACall P f args H K' := by
  unfold ACall at *
  exact ⟨h.1, fun M0 σ w vs hs hv => Calls.mono (h.2 M0 σ w vs hs hv) fun e w' ⟨v, r, H', σ', h1, h2, h3, h4, h5⟩ => ⟨v, r, H', σ', h1, h2, h3, h4, hk _ _ h5⟩⟩

end
end Go.Ve
