/- An abstract weakest precondition, eleventh text: every plain operation; calls; regions whose order is fixed. -/
import Derived.Test.YtlmdacgkaailiaaDoorVeJ
namespace Go.Ve
open Go.RowKit (Below)

section
variable {P : Program} {T : TT} {o : Oper} {ev : Operand → AV} {H : Hp} {K : KV}

theorem pure0 {u : Nat} (h : ∃ r, (∀ H, OpSem P o ev H r H) ∧ K r H) : ∃ r H', K r H' ∧ OpSem P o ev H r H' ∧ (u = 0 → ∀ H, OpSem P o ev H r H) ∧ (u ≠ 2 → H' = H) := by
  obtain ⟨r, h1, h2⟩ := h
  exact ⟨r, H, h2, h1 H, fun _ => h1, fun _ => rfl⟩
theorem pure1 {u : Nat} (hu : u ≠ 0) (h : ∃ r, OpSem P o ev H r H ∧ K r H) : ∃ r H', K r H' ∧ OpSem P o ev H r H' ∧ (u = 0 → ∀ H, OpSem P o ev H r H) ∧ (u ≠ 2 → H' = H) := by
  obtain ⟨r, h1, h2⟩ := h
  exact ⟨r, H, h2, h1, fun h0 => absurd h0 hu, fun _ => rfl⟩
theorem pure2 {u : Nat} (hu : u = 2) (h : ∃ r H', OpSem P o ev H r H' ∧ K r H') : ∃ r H', K r H' ∧ OpSem P o ev H r H' ∧ (u = 0 → ∀ H, OpSem P o ev H r H) ∧ (u ≠ 2 → H' = H) := by
  obtain ⟨r, H', h1, h2⟩ := h
  exact ⟨r, H', h2, h1, fun h0 => absurd (hu.symm.trans h0) (by decide), fun h0 => absurd hu h0⟩

theorem aop_semD (hT : TOk P T) (h : aop T false o.op ev H K) :
    ∃ r H', K r H' ∧ OpSem P o ev H r H' ∧ (heapUse o.op = 0 → ∀ H, OpSem P o ev H r H) ∧ (heapUse o.op ≠ 2 → H' = H) := by
  have h0 := h
  generalize hq : o.op = q at h ⊢
  cases q <;> simp only [aop] at h <;> try exact h.elim
  case move x => exact pure0 ⟨_, sem_move (.inl hq), h⟩
  case assign x => exact pure0 ⟨_, sem_move (.inr hq), h⟩
  case pick c a b =>
    split at h
    · rename_i t hc
      refine pure0 ⟨_, sem_pick hq hc, ?_⟩
      cases t <;> exact h
    · exact h.elim
  case alloc e => exact pure2 rfl (sem_alloc hT hq h0)
  case box e x => exact pure2 rfl (sem_box hT hq h0)
  case build t parts => exact pure0 (sem_build hT hq h)
  case buildSlice t n parts => exact pure2 rfl (sem_buildSlice hT hq h)
  case load t a => exact pure1 (by simp [heapUse]) (sem_load hT hq h)
  case store t a x => exact pure2 rfl (sem_store hT hq h)
  case nilCheck x => exact pure0 (sem_nilCheck hq h0)
  case binOp op t x y t' => exact pure0 (sem_bin hT hq h)
  case unOp op t x => exact pure0 (sem_unop hq h)
  case convert s d x => exact pure1 (by simp [heapUse]) (sem_conv hT hq h)
  case makeFunc f first cap => exact pure0 (sem_makeFunc hq h0)
  case makeSlice t l c => exact pure2 rfl (sem_make hT hq h)
  case slice t x lo hi mx =>
    cases mx with
    | none => exact pure2 rfl (sem_slice hT hq h)
    | some _ => exact h.elim
  case fieldAddr s x f => exact pure0 (sem_field hT hq h)
  case field s x f => exact pure0 (sem_fieldv hT hq h)
  case indexAddr t x ix => exact pure1 (by simp [heapUse]) (sem_ixaddr hT hq h)
  case index t x ix => exact pure0 (sem_index hT hq h)
  case extract t i => exact pure0 (sem_extract hq h0)
  case call c =>
    obtain ⟨callee, args, ts⟩ := c
    cases callee with
    | builtin b =>
      simp only at h
      split at h
      · rename_i t e2
        split at h
        · rename_i x ex
          have ea : args = #[x] := by rw [← Array.toList_inj]; exact ex
          have et : ts = #[t] := by rw [← Array.toList_inj]; exact e2
          subst ea et
          exact pure1 (by simp [heapUse]) (sem_len hT hq h)
        · exact h.elim
      · rename_i t t' e2
        cases hb : Nat.beq t t' with
        | false => rw [hb] at h; exact h.elim
        | true =>
          rw [hb] at h
          simp only [cond_true] at h
          have := Nat.eq_of_beq_eq_true hb
          subst this
          split at h
          · rename_i x y ex
            have ea : args = #[x, y] := by rw [← Array.toList_inj]; exact ex
            have et : ts = #[t, t] := by rw [← Array.toList_inj]; exact e2
            subst ea et
            exact pure2 rfl (sem_append hT hq h)
          · exact h.elim
      · exact pure0 (sem_minmax (mx := false) hq h)
      · exact pure0 (sem_minmax (mx := true) hq h)
      · exact h.elim
    | _ => exact h.elim

/-- An operation at an abstract heap: it goes on, and R holds of what it yields and of the heap. -/
def Goes (P : Program) (o : Oper) (ρ : Operand → Value) (w : World) (N : Value → World → Prop) : Prop :=
  ∀ (a : Act) (next : Act → World → Prop) (Q : Exit → Act → World → Prop), (∀ v w', N v w' → next (a.put o.dst v) w') → o.upon P a next Q ((execOp ρ o).run P w)
def StepTo (P : Program) (o : Oper) (ev : Operand → AV) (H : Hp) (R : AV → Hp → Prop) : Prop :=
  ∀ (M0 : Nat → Prop) (σ : List Value) (w : World) (ρ : Operand → Value), St M0 H σ w → (∀ x ∈ o.op.operands, Rv (Kof M0 H σ w) σ (ev x) (ρ x)) →
    Goes P o ρ w fun v w' => ∃ r H' σ', St M0 H' σ' w' ∧ Ext H σ w H' σ' w' ∧ Rv (Kof M0 H' σ' w') σ' r v ∧ R r H'

theorem Goes.ran {ρ : Operand → Value} {w w' : World} {v : Value} {N : Value → World → Prop} (h : Ran P o ρ w v w') (hN : N v w') : Goes P o ρ w N := by
  intro a next Q hn
  rcases h with h | ⟨h, rfl⟩
  · rw [h]; exact hn _ _ hN
  · rw [h]; exact hn _ _ hN

theorem OpSem.goes {r : AV} {H' : Hp} {R : AV → Hp → Prop} (h : OpSem P o ev H r H') (hR : R r H') : StepTo P o ev H R := by
  intro M0 σ w ρ hs ho
  obtain ⟨v, σ', w', h1, h2, h3, h4⟩ := h M0 σ w ρ hs ho
  exact Goes.ran h1 ⟨r, H', σ', h2, h3, h4, hR⟩

theorem step_aop (hT : TOk P T) (h : aop T true o.op ev H K) : StepTo P o ev H K := by
  by_cases hb : ∃ op t x y t', o.op = .binOp op t x y t'
  · obtain ⟨op, t, x, y, t', hq⟩ := hb
    rw [hq] at h
    simp only [aop] at h
    rcases sem_bin_nil hT hq h with ⟨r, h1, h2⟩ | ⟨R, h1, h2⟩
    · exact (h1 H).goes h2
    · intro M0 σ w ρ hs ho
      obtain ⟨b, h3, h4⟩ := h1 M0 σ w ρ hs ho
      exact Goes.ran (.inl h3) ⟨.bool b, H, σ, hs, Ext.refl _ _ _, .bool _ _, h2 _ h4⟩
  · have h' : aop T false o.op ev H K := by
      revert h hb
      generalize o.op = q
      intro h hb
      cases q <;> first
        | exact h
        | exact absurd ⟨_, _, _, _, _, rfl⟩ hb
    obtain ⟨r, H', h1, h2, _⟩ := aop_semD hT h'
    exact h2.goes h1

theorem eval_fn {K0 : Addr → Value → Prop} {σ : List Value} {f : FuncId} {cs : List AV} {v : Value} (h : Rv K0 σ (.fn f cs) v) :
    ∃ vs : List Value, v = .func (.func f) #[] vs.toArray ∧ Rvs K0 σ cs vs := by
  obtain ⟨vs, e, hl, hv⟩ := h.fn_inv
  refine ⟨vs.toList, by simp [e], by simp [hl], fun i x hx => ?_⟩
  have := hv i x hx
  simpa using this

theorem Rvs.append {K0 : Addr → Value → Prop} {σ : List Value} {xs ys : List AV} {us vs : List Value} (h : Rvs K0 σ xs us) (k : Rvs K0 σ ys vs) : Rvs K0 σ (xs ++ ys) (us ++ vs) := by
  refine ⟨by simp [h.1, k.1], fun i x hx => ?_⟩
  by_cases hi : i < xs.length
  · rw [List.getElem?_append_left hi] at hx
    have := h.2 i x hx
    rwa [List.getD_eq_getElem?_getD, List.getElem?_append_left (by rw [h.1]; exact hi), ← List.getD_eq_getElem?_getD]
  · rw [List.getElem?_append_right (by omega)] at hx
    have := k.2 _ x hx
    rwa [List.getD_eq_getElem?_getD, List.getElem?_append_right (by rw [h.1]; omega), h.1, ← List.getD_eq_getElem?_getD]

theorem calleeOf_spec {e : Env} {g : FuncId} {as : List AV} (h : calleeOf e o.op = some (g, as)) :
    ∃ (f : Operand) (args : Array Operand) (ts : Array TypeId) (cap : List AV), o.op = .call { callee := .value f, args := args, argTypes := ts } ∧ evalO e f = .fn g cap ∧ as = args.toList.map (evalO e) ++ cap := by
  unfold calleeOf at h
  split at h
  · rename_i c hc
    obtain ⟨callee, args, ts⟩ := c
    cases callee with
    | value f =>
      simp only at h
      split at h
      · rename_i g' cap hf
        simp only [Option.some.injEq, Prod.mk.injEq] at h
        obtain ⟨rfl, rfl⟩ := h
        exact ⟨f, args, ts, cap, hc, hf, rfl⟩
      · cases h
    | _ => cases h
  · cases h

theorem step_call {e : Env} {g : FuncId} {as : List AV} (hc : calleeOf e o.op = some (g, as)) (h : ACall P g as H K) : StepTo P o (evalO e) H K := by
  obtain ⟨f, args, ts, cap, ho, hf, rfl⟩ := calleeOf_spec hc
  unfold ACall at h
  obtain ⟨hca, h⟩ := h
  intro M0 σ w ρ hs hop a next Q hn
  have h1 := hop f (by simp [ho, Op.operands, Call.operands])
  rw [hf] at h1
  obtain ⟨vs, e1, hvs⟩ := eval_fn h1
  have hargs : Rvs (Kof M0 H σ w) σ (args.toList.map (evalO e)) (args.toList.map ρ) := by
    refine ⟨by simp, fun i x hx => ?_⟩
    simp only [List.getElem?_map, Option.map_eq_some_iff] at hx
    obtain ⟨y, hy, rfl⟩ := hx
    have hy' : args[i]? = some y := by simpa using hy
    have := hop y (by rw [ho]; simp only [Op.operands, Call.operands]; exact Array.mem_append_right _ (Array.mem_of_getElem? hy'))
    simpa [hy'] using this
  have hC := h M0 σ w _ hs (hargs.append hvs)
  have hrun : (execOp ρ o).run P w = .ok (.enter g (args.toList.map ρ ++ vs).toArray) w := by
    have hcf := hca (args.toList.map ρ ++ vs).toArray w
    have ea : args.map ρ ++ vs.toArray = (args.toList.map ρ ++ vs).toArray := by rw [← Array.toList_inj]; simp
    simp [execOp, ho, resolve, e1, Deferred.ofValue, invoke, ea, hcf]
  rw [hrun, Oper.upon_enter]
  refine Calls.mono hC fun e' w' he => ?_
  obtain ⟨v, r, H', σ', rfl, h2, h3, h4, h5⟩ := he
  exact hn _ _ ⟨r, H', σ', h2, h3, h4, h5⟩

theorem step_aoper (hT : TOk P T) {e : Env} (h : aoper P T o e H K) : StepTo P o (evalO e) H K := by
  unfold aoper at h
  split at h
  · rename_i g as hc; exact step_call hc h
  · exact step_aop hT h

/-- In a region that draws: one result. -/
def OpD (P : Program) (o : Oper) (ev : Operand → AV) (H : Hp) (r : AV) (H' : Hp) : Prop :=
  StepTo P o ev H (fun r' H'' => r' = r ∧ H'' = H') ∧ (heapUse o.op = 0 → ∀ H, StepTo P o ev H (fun r' H'' => r' = r ∧ H'' = H)) ∧ (heapUse o.op ≠ 2 → H' = H)

theorem step_aoperD (hT : TOk P T) {e : Env} (h : aoperD P T o e H K) : ∃ r H', K r H' ∧ OpD P o (evalO e) H r H' := by
  unfold aoperD at h
  split at h
  · rename_i g as hc
    obtain ⟨r, h1, h2⟩ := h
    have hu : heapUse o.op = 1 := by
      obtain ⟨f, args, ts, cap, ho, _⟩ := calleeOf_spec hc
      rw [ho]; rfl
    exact ⟨r, H, h2, step_call hc h1, fun h0 => absurd (hu.symm.trans h0) (by decide), fun _ => rfl⟩
  · obtain ⟨r, H', h1, h2, h3, h4⟩ := aop_semD hT h
    exact ⟨r, H', h1, h2.goes ⟨rfl, rfl⟩, fun h0 H => (h3 h0 H).goes ⟨rfl, rfl⟩, h4⟩
end

/-! ### guards -/
section
variable {P : Program} {T : TT} {n : Nat} {ops : Array Oper}

def GY (ops : List Oper) (e : Env) (o : Oper) : Prop := o.guard = none ∨ ∃ g want og d, o.guard = some (g, want) ∧ ops[g]? = some og ∧ og.dst = some d ∧ e d = .bool want
def GN (ops : List Oper) (e : Env) (o : Oper) : Prop := ∃ g want og d, o.guard = some (g, want) ∧ ops[g]? = some og ∧ og.dst = some d ∧ (e d = .bool (!want) ∨ e d = .und)

theorem aguard_spec {l : List Oper} {e : Env} {o : Oper} {yes no : Prop} (h : aguard l e o yes no) : (GY l e o ∧ yes) ∨ (GN l e o ∧ no) := by
  unfold aguard at h
  split at h
  · rename_i hg; exact .inl ⟨.inl hg, h⟩
  · rename_i g want hg
    split at h
    · exact h.elim
    · rename_i og hog
      split at h
      · exact h.elim
      · rename_i d hd
        split at h
        · rename_i b hb
          cases b <;> cases want <;> simp only [cond_true, cond_false] at h
          · exact .inl ⟨.inr ⟨g, _, og, d, hg, hog, hd, hb⟩, h⟩
          · exact .inr ⟨⟨g, _, og, d, hg, hog, hd, .inl hb⟩, h⟩
          · exact .inr ⟨⟨g, _, og, d, hg, hog, hd, .inl hb⟩, h⟩
          · exact .inl ⟨.inr ⟨g, _, og, d, hg, hog, hd, hb⟩, h⟩
        · rename_i hb
          exact .inr ⟨⟨g, want, og, d, hg, hog, hd, .inr hb⟩, h⟩
        · exact h.elim

theorem yielded_of {a : Act} {K0 : Addr → Value → Prop} {σ : List Value} {g d : Nat} {og : Oper} {b : Bool} (h1 : ops.toList[g]? = some og) (h2 : og.dst = some d) (h3 : Rv K0 σ (.bool b) (a.tmps.getD d undef)) : yielded ops a.tmps g = some b := by
  have e := h3.bool_inv
  have e' : a.tmps[d]? = some (.bool b) := by
    cases hx : a.tmps[d]? with
    | none => rw [Array.getD_eq_getD_getElem?, hx] at e; simp [undef] at e
    | some v => rw [Array.getD_eq_getD_getElem?, hx] at e; simpa using e
  have h1' : ops[g]? = some og := by simpa using h1
  simp [yielded, h1', h2, e']

theorem yielded_und {a : Act} {g d : Nat} {og : Oper} (h1 : ops.toList[g]? = some og) (h2 : og.dst = some d) (h3 : a.tmps.getD d undef = undef) : yielded ops a.tmps g = none := by
  have h1' : ops[g]? = some og := by simpa using h1
  simp only [yielded, h1', Option.bind_some, h2]
  cases hx : a.tmps[d]? with
  | none => rfl
  | some v =>
    rw [Array.getD_eq_getD_getElem?, hx] at h3
    have h3 : v = undef := h3
    subst h3
    rfl

theorem GY.wanted {a : Act} {K0 : Addr → Value → Prop} {σ : List Value} {e : Env} {o : Oper} (h : GY ops.toList e o) (hr : ∀ g og d want, o.guard = some (g, want) → ops.toList[g]? = some og → og.dst = some d → Rv K0 σ (e d) (a.tmps.getD d undef)) :
    Region.wanted o (yielded ops a.tmps) = true := by
  rcases h with h | ⟨g, want, og, d, h1, h2, h3, h4⟩
  · simp [Region.wanted, h]
  · have := hr g og d want h1 h2 h3
    rw [h4] at this
    simp [Region.wanted, h1, yielded_of h2 h3 this]
theorem GN.wanted {a : Act} {K0 : Addr → Value → Prop} {σ : List Value} {e : Env} {o : Oper} (h : GN ops.toList e o) (hr : ∀ g og d want, o.guard = some (g, want) → ops.toList[g]? = some og → og.dst = some d → Rv K0 σ (e d) (a.tmps.getD d undef)) :
    Region.wanted o (yielded ops a.tmps) = false := by
  obtain ⟨g, want, og, d, h1, h2, h3, h4⟩ := h
  have := hr g og d want h1 h2 h3
  rcases h4 with h4 | h4
  · rw [h4] at this
    cases want <;> simp [Region.wanted, h1, yielded_of h2 h3 this]
  · rw [h4] at this
    generalize hv : a.tmps.getD d undef = v at this
    cases this
    simp [Region.wanted, h1, yielded_und h2 h3 hv]

def putE (e : Env) (dst : Option Nat) (v : AV) : Env := match dst with | none => e | some d => upd e d v
theorem putD_spec {e : Env} {dst : Option Nat} {v : AV} {K : Env → Prop} (h : putD n e dst v K) : (∀ d, dst = some d → d < n) ∧ K (putE e dst v) := by
  unfold putD at h
  cases dst with
  | none => exact ⟨fun d hd => (by cases hd), h⟩
  | some d =>
    simp only at h
    cases hb : Nat.blt d n with
    | false => rw [hb] at h; exact h.elim
    | true =>
      rw [hb] at h
      simp only [cond_true, forceV_eq] at h
      exact ⟨fun d' hd => by cases hd; exact Nat.blt_eq.mp hb, h⟩

theorem ActOk.putE {K : Addr → Value → Prop} {σ : List Value} {n : Nat} {dst : Option Nat} {e : Env} {a : Act} {x : AV} {v : Value} (h : ActOk K σ n e a) (hd : ∀ d, dst = some d → d < n) (hv : Rv K σ x v) : ActOk K σ n (Ve.putE e dst x) (a.put dst v) := by
  cases dst with
  | none => exact h
  | some d => exact h.put (hd d rfl) hv

/-- Operations in their order. -/
theorem aops_sound (hT : TOk P T) {Q : Exit → Act → World → Prop} {K : Env → Hp → Prop} {M0 : Nat → Prop} : ∀ (rest : List Oper) (k : Nat) (e : Env) (H : Hp) (a : Act) (σ : List Value) (w : World),
    ops.toList.drop k = rest → aops P T n ops.toList rest e H K → St M0 H σ w → ActOk (Kof M0 H σ w) σ n e a →
    (∀ e' H' a' σ' w', K e' H' → St M0 H' σ' w' → Ext H σ w H' σ' w' → ActOk (Kof M0 H' σ' w') σ' n e' a' → Q .normal a' w') →
    wpOps P ops Q (List.range' k rest.length) a w := by
  intro rest
  induction rest with
  | nil =>
    intro k e H a σ w _ h hs ha hK
    exact hK e H a σ w h hs (Ext.refl _ _ _) ha
  | cons o rest ih =>
    intro k e H a σ w hk h hs ha hK
    have ho : ops[k]? = some o := by
      have h0 : (ops.toList.drop k)[0]? = some o := by rw [hk]; rfl
      simpa using h0
    have hk' : ops.toList.drop (k + 1) = rest := by
      rw [← List.drop_drop, hk]; rfl
    simp only [List.length_cons, List.range'_succ, wpOps, ho]
    rw [aops_cons] at h
    have gr : ∀ g og d want, o.guard = some (g, want) → ops.toList[g]? = some og → og.dst = some d → Rv (Kof M0 H σ w) σ (e d) (a.tmps.getD d undef) := fun _ _ d _ _ _ _ => ha.rv d
    rcases aguard_spec h with ⟨hg, h⟩ | ⟨hg, h⟩
    · rw [if_pos (hg.wanted gr)]
      left
      have hst := step_aoper (K := fun v H' => forceH H' fun H2 => putD n e o.dst v fun e' => Box (aops P T n ops.toList rest e' H2 K)) hT h
      refine hst M0 σ w a.eval hs (fun x _ => ha.eval x) a _ Q fun v w' hN => ?_
      obtain ⟨r, H', σ', h1, h2, h3, h4⟩ := hN
      rw [forceH_eq] at h4
      obtain ⟨h5, h6⟩ := putD_spec h4
      exact ih (k + 1) _ H' _ σ' w' hk' h6.h h1 ((ha.ext h2).putE h5 h3) fun e' H'' a' σ'' w'' k1 k2 k3 k4 => hK e' H'' a' σ'' w'' k1 k2 (h2.trans k3) k4
    · rw [if_neg (by rw [hg.wanted gr]; decide)]
      obtain ⟨h5, h6⟩ := putD_spec h
      exact ih (k + 1) _ H _ σ w hk' h6.h hs (ha.putE h5 (.und _)) hK
end
end Go.Ve
