/- An abstract weakest precondition, twelfth text: regions whose order is drawn: every order comes to the same. -/
import Derived.Test.YtlmdacgkaailiaaDoorVeK
namespace Go.Ve
open Go.RowKit (Below)

/-- An operation waits for another: by an edge, or by an edge's own waiting. -/
inductive Waits (ops : List Oper) : Nat → Nat → Prop
  | edge {i : Nat} {o : Oper} {e : Edge} (h : ops[i]? = some o) (he : e ∈ o.after) (hb : Region.binds .any e = true) : Waits ops i e.on
  | far {i j : Nat} {o : Oper} {e : Edge} (h : ops[i]? = some o) (he : e ∈ o.after) (hb : Region.binds .any e = true) (hw : Waits ops e.on j) : Waits ops i j

theorem fold_mem (acc : List (List Nat)) : ∀ (es : List Edge) (l : List Nat) (j : Nat), j ∈ es.foldl (fun l e => e.on :: ((acc[e.on]?).getD [] ++ l)) l → j ∈ l ∨ ∃ e ∈ es, j = e.on ∨ j ∈ (acc[e.on]?).getD []
  | [], l, j, h => .inl h
  | e :: es, l, j, h => by
    rcases fold_mem acc es _ j h with h | ⟨e', h1, h2⟩
    · rw [List.mem_cons, List.mem_append] at h
      rcases h with h | h | h
      · exact .inr ⟨e, List.mem_cons_self, .inl h⟩
      · exact .inr ⟨e, List.mem_cons_self, .inr h⟩
      · exact .inl h
    · exact .inr ⟨e', List.mem_cons_of_mem _ h1, h2⟩

theorem waits_go (ops : List Oper) : ∀ (rest pre : List Oper) (acc : List (List Nat)), ops = pre ++ rest → acc.length = pre.length → (∀ i j, j ∈ (acc[i]?).getD [] → Waits ops i j) →
    ∀ i j, j ∈ ((rest.foldl (fun acc o => acc ++ [(o.after.toList.filter (Region.binds .any)).foldl (fun l e => e.on :: ((acc[e.on]?).getD [] ++ l)) []]) acc)[i]?).getD [] → Waits ops i j
  | [], pre, acc, _, _, h => h
  | o :: rest, pre, acc, hops, hlen, h => by
    refine waits_go ops rest (pre ++ [o]) _ (by rw [hops]; simp) (by simp [hlen]) fun i j hj => ?_
    by_cases hi : i < acc.length
    · rw [List.getElem?_append_left hi] at hj; exact h i j hj
    · rw [List.getElem?_append_right (by omega)] at hj
      by_cases hi' : i = acc.length
      · subst hi'
        simp only [Nat.sub_self, List.getElem?_cons_zero, Option.getD_some] at hj
        rcases fold_mem acc _ _ j hj with h0 | ⟨e, h1, h2⟩
        · cases h0
        · rw [List.mem_filter] at h1
          have ho : ops[acc.length]? = some o := by rw [hops, hlen]; simp
          rcases h2 with rfl | h2
          · exact .edge ho (by simpa using h1.1) h1.2
          · exact .far ho (by simpa using h1.1) h1.2 (h _ _ h2)
      · rw [List.getElem?_eq_none (by simp; omega)] at hj; cases hj

theorem waits_spec {ops : List Oper} {i j : Nat} (h : j ∈ ((waits ops)[i]?).getD []) : Waits ops i j :=
  waits_go ops ops [] [] rfl rfl (fun i j h => by simp at h) i j h

theorem zip_mem {ops : List Oper} {i : Nat} {o : Oper} (h : ops[i]? = some o) : (i, o) ∈ (List.range ops.length).zip ops := by
  obtain ⟨hlt, he⟩ := List.getElem?_eq_some_iff.1 h
  exact List.mem_iff_getElem?.2 ⟨i, by simp [hlt, he]⟩

structure DrawSpec (ops : List Oper) : Prop where
  back : ∀ (i : Nat) (o : Oper), ops[i]? = some o → ∀ e ∈ o.after, Region.binds .any e = true → e.on < i
  look : ∀ (i j : Nat) (o p : Oper) (d : Nat), ops[i]? = some o → ops[j]? = some p → i ≠ j → p.dst = some d → d ∈ looks ops o → j < i ∧ Waits ops i j
  once : ∀ (i j : Nat) (o p : Oper) (d : Nat), ops[i]? = some o → ops[j]? = some p → i ≠ j → p.dst = some d → o.dst ≠ some d
  heap : ∀ (i j : Nat) (o p : Oper), ops[i]? = some o → ops[j]? = some p → j < i → (heapUse o.op = 2 ∧ heapUse p.op ≠ 0) ∨ (heapUse p.op = 2 ∧ heapUse o.op ≠ 0) → Waits ops i j

theorem beq_ne {a b : Nat} (h : a ≠ b) : Nat.beq a b = false := by
  cases hb : Nat.beq a b with
  | false => rfl
  | true => exact absurd (Nat.eq_of_beq_eq_true hb) h

theorem drawOk_spec {ops : List Oper} (h : drawOk ops = true) : DrawSpec ops := by
  simp only [drawOk, List.all_eq_true] at h
  have pair : ∀ (i j : Nat) (o p : Oper), ops[i]? = some o → ops[j]? = some p → i ≠ j → ((match p.dst with
          | some d => (!(looks ops o).contains d || (Nat.blt j i && (((waits ops)[i]?).getD []).contains j)) && (o.dst != some d)
          | none => true) = true) ∧
        ((!(Nat.blt j i) || !((Nat.beq (heapUse o.op) 2 && !Nat.beq (heapUse p.op) 0) || (Nat.beq (heapUse p.op) 2 && !Nat.beq (heapUse o.op) 0)) || (((waits ops)[i]?).getD []).contains j) = true) := by
    intro i j o p hi hj hne
    have h1 := h (i, o) (zip_mem hi)
    simp only [Bool.and_eq_true, List.all_eq_true] at h1
    have h2 := h1.2 (j, p) (zip_mem hj)
    simp only [beq_ne hne, Bool.false_or] at h2
    rw [Bool.and_eq_true] at h2
    exact h2
  refine ⟨fun i o hi e he hb => ?_, fun i j o p d hi hj hne hp hd => ?_, fun i j o p d hi hj hne hp => ?_, fun i j o p hi hj hlt hu => ?_⟩
  · have h1 := h (i, o) (zip_mem hi)
    simp only [Bool.and_eq_true, List.all_eq_true] at h1
    have h2 := h1.1 e (by simpa using he)
    simp only [hb, Bool.not_true, Bool.false_or] at h2
    exact Nat.blt_eq.mp h2
  · have h1 := (pair i j o p hi hj hne).1
    simp only [hp, Bool.and_eq_true, Bool.or_eq_true, Bool.not_eq_true'] at h1
    rcases h1.1 with h2 | h2
    · rw [List.contains_iff_mem.2 hd] at h2; cases h2
    · exact ⟨Nat.blt_eq.mp h2.1, waits_spec (List.contains_iff_mem.1 h2.2)⟩
  · have h1 := (pair i j o p hi hj hne).1
    simp only [hp, Bool.and_eq_true, bne_iff_ne] at h1
    exact h1.2
  · have h1 := (pair i j o p hi hj (by omega)).2
    have e1 : Nat.blt j i = true := Nat.blt_eq.mpr hlt
    have e2 : ((Nat.beq (heapUse o.op) 2 && !Nat.beq (heapUse p.op) 0) || (Nat.beq (heapUse p.op) 2 && !Nat.beq (heapUse o.op) 0)) = true := by
      rcases hu with ⟨a, b⟩ | ⟨a, b⟩
      · rw [a, beq_ne b]; rfl
      · rw [a, beq_ne b]; simp
    rw [e1, e2] at h1
    simp only [Bool.not_true, Bool.false_or] at h1
    exact waits_spec (List.contains_iff_mem.1 h1)

/-! ### the run in the text's order -/
section
variable {P : Program} {T : TT} {n : Nat}

def Step1 (P : Program) (n : Nat) (ops : List Oper) (o : Oper) (e : Env) (H : Hp) (r : AV) (e' : Env) (H' : Hp) : Prop :=
  e' = putE e o.dst r ∧ (∀ d, o.dst = some d → d < n) ∧ ((GY ops e o ∧ OpD P o (evalO e) H r H') ∨ (GN ops e o ∧ r = .und ∧ H' = H))

theorem trace (hT : TOk P T) {ops : List Oper} {K : Env → Hp → Prop} : ∀ (rest : List Oper) (e : Env) (H : Hp), aopsD P T n ops rest e H K →
    ∃ (rs : Nat → AV) (es : Nat → Env) (hs : Nat → Hp), es 0 = e ∧ hs 0 = H ∧ (∀ i o, rest[i]? = some o → Step1 P n ops o (es i) (hs i) (rs i) (es (i + 1)) (hs (i + 1))) ∧ K (es rest.length) (hs rest.length)
  | [], e, H, h => ⟨fun _ => .undef, fun _ => e, fun _ => H, rfl, rfl, fun i o h => by simp at h, h⟩
  | o :: rest, e, H, h => by
    rw [aopsD_cons] at h
    have main : ∃ r H', Step1 P n ops o e H r (putE e o.dst r) H' ∧ aopsD P T n ops rest (putE e o.dst r) H' K := by
      rcases aguard_spec h with ⟨hg, h⟩ | ⟨hg, h⟩
      · obtain ⟨r, H', h1, h2⟩ := step_aoperD (K := fun v H' => forceH H' fun H2 => putD n e o.dst v fun e' => Box (aopsD P T n ops rest e' H2 K)) hT h
        simp only [forceH_eq] at h1
        obtain ⟨h3, h4⟩ := putD_spec h1
        exact ⟨r, H', ⟨rfl, h3, .inl ⟨hg, h2⟩⟩, h4.h⟩
      · obtain ⟨h3, h4⟩ := putD_spec h
        exact ⟨.und, H, ⟨rfl, h3, .inr ⟨hg, rfl, rfl⟩⟩, h4.h⟩
    obtain ⟨r, H', h1, h2⟩ := main
    obtain ⟨rs, es, hs, k1, k2, k3, k4⟩ := trace hT rest _ _ h2
    refine ⟨fun i => Nat.casesOn i r rs, fun i => Nat.casesOn i e es, fun i => Nat.casesOn i H hs, rfl, rfl, fun i o' hi => ?_, k4⟩
    cases i with
    | zero =>
      simp at hi
      subst hi
      show Step1 P n ops o e H r (es 0) (hs 0)
      rw [k1, k2]; exact h1
    | succ i => exact k3 i o' (by simpa using hi)

theorem putE_some {e : Env} {dst : Option Nat} {d : Nat} (v : AV) (h : dst = some d) : putE e dst v d = v := by subst h; exact upd_same _ _ _
theorem putE_ne {e : Env} {dst : Option Nat} {d : Nat} (v : AV) (h : dst ≠ some d) : putE e dst v d = e d := by
  cases dst with
  | none => rfl
  | some k => exact upd_ne _ _ (fun he => h (by rw [he]))

variable {ops : Array Oper} {rs : Nat → AV} {es : Nat → Env} {hs : Nat → Hp}

theorem env_char (hd : DrawSpec ops.toList) (h : ∀ i o, ops.toList[i]? = some o → Step1 P n ops.toList o (es i) (hs i) (rs i) (es (i + 1)) (hs (i + 1))) (t : Nat) :
    ∀ i, i ≤ ops.toList.length → (∀ j o, j < i → ops.toList[j]? = some o → o.dst = some t → es i t = rs j) ∧ ((∀ j o, j < i → ops.toList[j]? = some o → o.dst ≠ some t) → es i t = es 0 t)
  | 0, _ => ⟨fun j o hj => by omega, fun _ => rfl⟩
  | i + 1, hi => by
    obtain ⟨h1, h2⟩ := env_char hd h t i (by omega)
    obtain ⟨o, ho⟩ : ∃ o, ops.toList[i]? = some o := ⟨_, List.getElem?_eq_getElem (by omega)⟩
    have hs := (h i o ho).1
    refine ⟨fun j p hj hp hpt => ?_, fun hn => ?_⟩
    · rw [hs]
      by_cases hji : j = i
      · subst hji
        rw [ho] at hp; cases hp
        exact putE_some _ hpt
      · rw [putE_ne _ (hd.once i j o p t ho hp (fun e => hji e.symm) hpt)]
        exact h1 j p (by omega) hp hpt
    · rw [hs, putE_ne _ (hn i o (by omega) ho)]
      exact h2 fun j p hj hp => hn j p (by omega) hp

theorem heap_same (h : ∀ i o, ops.toList[i]? = some o → Step1 P n ops.toList o (es i) (hs i) (rs i) (es (i + 1)) (hs (i + 1))) {a : Nat} : ∀ k, a + k ≤ ops.toList.length → (∀ j o, a ≤ j → j < a + k → ops.toList[j]? = some o → heapUse o.op ≠ 2) → hs (a + k) = hs a
  | 0, _, _ => rfl
  | k + 1, hk, hn => by
    have ih := heap_same h k (by omega) fun j o h1 h2 h3 => hn j o h1 (by omega) h3
    obtain ⟨o, ho⟩ : ∃ o, ops.toList[a + k]? = some o := ⟨_, List.getElem?_eq_getElem (by omega)⟩
    have := (h (a + k) o ho).2.2
    rw [← Nat.add_assoc, ← ih]
    rcases this with ⟨_, h1⟩ | ⟨_, _, h1⟩
    · exact h1.2.2 (hn (a + k) o (by omega) (by omega) ho)
    · exact h1
theorem heap_same' (h : ∀ i o, ops.toList[i]? = some o → Step1 P n ops.toList o (es i) (hs i) (rs i) (es (i + 1)) (hs (i + 1))) {a b : Nat} (hab : a ≤ b) (hb : b ≤ ops.toList.length) (hn : ∀ j o, a ≤ j → j < b → ops.toList[j]? = some o → heapUse o.op ≠ 2) : hs b = hs a := by
  have := heap_same h (a := a) (b - a) (by omega) fun j o h1 h2 h3 => hn j o h1 (by omega) h3
  rwa [Nat.add_sub_cancel' hab] at this

/-- What holds of a world and of the slots when these operations have run. -/
structure Inv (n : Nat) (ops : Array Oper) (rs : Nat → AV) (es : Nat → Env) (hs : Nat → Hp) (M0 : Nat → Prop) (σ0 : List Value) (w0 : World) (L : Array Bool) (a : Act) (w : World) : Prop where
  size : L.size = ops.size
  closed : ∀ i o, ops.toList[i]? = some o → L.getD i false = true → ∀ e ∈ o.after, Region.binds .any e = true → L.getD e.on false = true
  state : ∃ (cur : Env) (m : Nat) (σ : List Value), m ≤ ops.toList.length ∧
    (∀ t i o, ops.toList[i]? = some o → o.dst = some t → L.getD i false = true → cur t = rs i) ∧
    (∀ t, (∀ i o, ops.toList[i]? = some o → o.dst = some t → L.getD i false = false) → cur t = es 0 t) ∧
    (∀ i o, ops.toList[i]? = some o → heapUse o.op = 2 → (L.getD i false = true ↔ i < m)) ∧
    St M0 (hs m) σ w ∧ Ext (hs 0) σ0 w0 (hs m) σ w ∧ ActOk (Kof M0 (hs m) σ w) σ n cur a

theorem Waits.closed {L : Array Bool} (hc : ∀ i o, ops.toList[i]? = some o → L.getD i false = true → ∀ e ∈ o.after, Region.binds .any e = true → L.getD e.on false = true) {i j : Nat} (h : Waits ops.toList i j) (hi : L.getD i false = true) : L.getD j false = true := by
  induction h with
  | edge h he hb => exact hc _ _ h hi _ he hb
  | far h he hb _ ih => exact ih (hc _ _ h hi _ he hb)

theorem Waits.ready {L : Array Bool} (hc : ∀ i o, ops.toList[i]? = some o → L.getD i false = true → ∀ e ∈ o.after, Region.binds .any e = true → L.getD e.on false = true) {i j : Nat} (h : Waits ops.toList i j)
    (hi : ∀ o, ops.toList[i]? = some o → ∀ e ∈ o.after, Region.binds .any e = true → L.getD e.on false = true) : L.getD j false = true := by
  cases h with
  | edge h he hb => exact hi _ h _ he hb
  | far h he hb hw => exact hw.closed hc (hi _ h _ he hb)

theorem getD_set_self {L : Array Bool} {i : Nat} (h : i < L.size) : (L.setIfInBounds i true).getD i false = true := by simp [h]

theorem inv_step {M0 : Nat → Prop} {σ0 : List Value} {w0 : World} (hd : DrawSpec ops.toList) (h : ∀ i o, ops.toList[i]? = some o → Step1 P n ops.toList o (es i) (hs i) (rs i) (es (i + 1)) (hs (i + 1)))
    {Q : Exit → Act → World → Prop} {L : Array Bool} {a : Act} {w : World} (hI : Inv n ops rs es hs M0 σ0 w0 L a w) {i : Nat} (hi : i ∈ Region.ready .any ops L) {K : Act → World → Prop}
    (hK : ∀ a' w', Inv n ops rs es hs M0 σ0 w0 (L.setIfInBounds i true) a' w' → K a' w') : wpOp P ops Q i K a w := by
  obtain ⟨hun, o, ho, hall⟩ := mem_ready.1 hi
  have hlt : i < ops.size := (Array.getElem?_eq_some_iff.1 ho).1
  have ho' : ops.toList[i]? = some o := by simpa using ho
  have hlen : i < ops.toList.length := by simpa using hlt
  have hLi : L.getD i false = false := by
    have : i < L.size := by rw [hI.size]; exact hlt
    simp [this] at hun ⊢; exact hun
  have hrdy : ∀ p, ops.toList[i]? = some p → ∀ e ∈ p.after, Region.binds .any e = true → L.getD e.on false = true := fun p hp => by
    rw [ho'] at hp; cases hp; exact hall
  obtain ⟨cur, m, σ, hm, c1, c2, c3, hst, hex, hact⟩ := hI.state
  have hcl := hI.closed
  -- what it looks at
  have hlook : ∀ t, t ∈ looks ops.toList o → cur t = es i t := by
    intro t ht
    obtain ⟨e1, e2⟩ := env_char hd h t i (by omega)
    by_cases hw : ∃ j p, j ≠ i ∧ ops.toList[j]? = some p ∧ p.dst = some t
    · obtain ⟨j, p, hji, hp, hpt⟩ := hw
      obtain ⟨l1, l2⟩ := hd.look i j o p t ho' hp (Ne.symm hji) hpt ht
      rw [e1 j p l1 hp hpt, c1 t j p hp hpt (l2.ready hcl hrdy)]
    · rw [e2 fun j p hj hp hpt => hw ⟨j, p, by omega, hp, hpt⟩]
      refine c2 t fun j p hp hpt => ?_
      by_cases hji : j = i
      · subst hji; exact hLi
      · exact absurd ⟨j, p, hji, hp, hpt⟩ hw
  have hstep := h i o ho'
  -- the heap
  have hheap : heapUse o.op ≠ 0 → hs m = hs i ∧ (heapUse o.op = 2 → m ≤ i) := by
    intro hu
    have below : ∀ j p, j < i → ops.toList[j]? = some p → heapUse p.op = 2 → j < m := fun j p hj hp hp2 =>
      (c3 j p hp hp2).1 ((hd.heap i j o p ho' hp hj (.inr ⟨hp2, hu⟩)).ready hcl hrdy)
    have above : ∀ j p, i < j → ops.toList[j]? = some p → heapUse p.op = 2 → ¬ j < m := fun j p hj hp hp2 hjm => by
      have := (hd.heap j i p o hp ho' hj (.inl ⟨hp2, hu⟩)).closed hcl ((c3 j p hp hp2).2 hjm)
      rw [hLi] at this; cases this
    have self : heapUse o.op = 2 → ¬ i < m := fun h2 him => by
      have := (c3 i o ho' h2).2 him
      rw [hLi] at this; cases this
    refine ⟨?_, fun h2 => by have := self h2; omega⟩
    rcases Nat.le_total m i with hmi | hmi
    · exact (heap_same' h hmi (by omega) fun j p h1 h2 hp hp2 => by have := below j p h2 hp hp2; omega).symm
    · refine heap_same' h hmi hm fun j p h1 h2 hp hp2 => ?_
      by_cases hji : j = i
      · subst hji; rw [ho'] at hp; cases hp; exact self hp2 h2
      · exact above j p (by omega) hp hp2 h2
  -- the invariant behind it
  have hsz : i < L.size := by rw [hI.size]; exact hlt
  have after : ∀ (r : AV) (m' : Nat) (σ' : List Value) (a' : Act) (w' : World), r = rs i → m' ≤ ops.toList.length → (∀ j p, ops.toList[j]? = some p → heapUse p.op = 2 → ((L.setIfInBounds i true).getD j false = true ↔ j < m')) →
      St M0 (hs m') σ' w' → Ext (hs 0) σ0 w0 (hs m') σ' w' → ActOk (Kof M0 (hs m') σ' w') σ' n (putE cur o.dst r) a' → K a' w' := by
    intro r m' σ' a' w' hr hm' hw3 h1 h2 h3
    refine hK a' w' ⟨by simp [hI.size], fun j p hp hj e he hb => ?_, putE cur o.dst r, m', σ', hm', fun t j p hp hpt hj => ?_, fun t hn => ?_, hw3, h1, h2, h3⟩
    · by_cases hji : j = i
      · subst hji; exact getD_set_true (hrdy p hp e he hb)
      · rw [getD_set_ne false (Ne.symm hji)] at hj; exact getD_set_true (hcl j p hp hj e he hb)
    · by_cases hji : j = i
      · subst hji; rw [ho'] at hp; cases hp; rw [putE_some _ hpt]; exact hr
      · rw [getD_set_ne false (Ne.symm hji)] at hj
        rw [putE_ne _ (hd.once i j o p t ho' hp (Ne.symm hji) hpt)]
        exact c1 t j p hp hpt hj
    · have hne : o.dst ≠ some t := fun e => by
        have := hn i o ho' e
        rw [getD_set_self hsz] at this; cases this
      rw [putE_ne _ hne]
      refine c2 t fun j p hp hpt => ?_
      by_cases hji : j = i
      · subst hji; exact hLi
      · have := hn j p hp hpt; rwa [getD_set_ne false (Ne.symm hji)] at this
  have keep3 : heapUse o.op ≠ 2 → ∀ j p, ops.toList[j]? = some p → heapUse p.op = 2 → ((L.setIfInBounds i true).getD j false = true ↔ j < m) := by
    intro hu j p hp hp2
    have hji : j ≠ i := fun e => by subst e; rw [ho'] at hp; cases hp; exact hu hp2
    rw [getD_set_ne false (Ne.symm hji)]; exact c3 j p hp hp2
  have new3 : heapUse o.op = 2 → ∀ j p, ops.toList[j]? = some p → heapUse p.op = 2 → ((L.setIfInBounds i true).getD j false = true ↔ j < i + 1) := by
    intro hu j p hp hp2
    have hmi := (hheap (by rw [hu]; decide)).2 hu
    by_cases hji : j = i
    · subst hji; rw [getD_set_self hsz]; simp
    · rw [getD_set_ne false (Ne.symm hji), c3 j p hp hp2]
      refine ⟨fun hj => by omega, fun hj => ?_⟩
      exact (c3 j p hp hp2).1 ((hd.heap i j o p ho' hp (by omega) (.inr ⟨hp2, by rw [hu]; decide⟩)).ready hcl hrdy)
  have gr : ∀ g og d want, o.guard = some (g, want) → ops.toList[g]? = some og → og.dst = some d → Rv (Kof M0 (hs m) σ w) σ (es i d) (a.tmps.getD d undef) := fun g og d want h1 h2 h3 => by
    rw [← hlook d (by
      refine List.mem_append_right _ ?_
      have h2' : ops[g]? = some og := by simpa using h2
      simp [h1, h2', h3])]
    exact hact.rv d
  have hop : ∀ x ∈ o.op.operands, Rv (Kof M0 (hs m) σ w) σ (evalO (es i) x) (a.eval x) := by
    intro x hx
    have : evalO (es i) x = evalO cur x := by
      cases x with
      | tmp t => exact (hlook t (List.mem_append_left _ (List.mem_filterMap.2 ⟨.tmp t, by simpa using hx, rfl⟩))).symm
      | _ => rfl
    rw [this]; exact hact.eval x
  unfold wpOp
  simp only [ho]
  obtain ⟨s1, s2, s3⟩ := hstep
  rcases s3 with ⟨hg, s3⟩ | ⟨hg, hr, hH⟩
  · rw [if_pos (hg.wanted gr)]
    left
    obtain ⟨d1, d2, d3⟩ := s3
    by_cases hu : heapUse o.op = 2
    · have hmi := (hheap (by rw [hu]; decide)).1
      refine d1 M0 σ w a.eval (by rw [← hmi]; exact hst) (by rw [← hmi]; exact hop) a _ Q fun v w' hN => ?_
      obtain ⟨r, H', σ', h1, h2, h3, rfl, rfl⟩ := hN
      rw [← hmi] at h2
      exact after _ (i + 1) σ' _ w' rfl (by omega) (new3 hu) h1 (hex.trans h2) ((hact.ext h2).putE s2 h3)
    · have main : StepTo P o (evalO (es i)) (hs m) (fun r' H'' => r' = rs i ∧ H'' = hs m) := by
        by_cases h0 : heapUse o.op = 0
        · exact d2 h0 (hs m)
        · have hmi := (hheap h0).1
          rw [hmi]
          have := d1
          rwa [d3 hu] at this
      refine main M0 σ w a.eval hst hop a _ Q fun v w' hN => ?_
      obtain ⟨r, H', σ', h1, h2, h3, rfl, rfl⟩ := hN
      exact after _ m σ' _ w' rfl hm (keep3 hu) h1 (hex.trans h2) ((hact.ext h2).putE s2 h3)
  · rw [if_neg (by rw [hg.wanted gr]; decide)]
    by_cases hu : heapUse o.op = 2
    · have hmi := (hheap (by rw [hu]; decide)).1
      have e : hs (i + 1) = hs m := by rw [hH, hmi]
      exact after .und (i + 1) σ _ w hr.symm (by omega) (new3 hu) (by rw [e]; exact hst) (by rw [e]; exact hex) (by rw [e]; exact hact.putE s2 (.und _))
    · exact after .und m σ _ w hr.symm hm (keep3 hu) hst hex (hact.putE s2 (.und _))

theorem inv_end {M0 : Nat → Prop} {σ0 : List Value} {w0 : World} (hd : DrawSpec ops.toList) (h : ∀ i o, ops.toList[i]? = some o → Step1 P n ops.toList o (es i) (hs i) (rs i) (es (i + 1)) (hs (i + 1)))
    {L : Array Bool} {a : Act} {w : World} (hI : Inv n ops rs es hs M0 σ0 w0 L a w) (hr : Region.ready .any ops L = []) :
    ∃ σ, St M0 (hs ops.toList.length) σ w ∧ Ext (hs 0) σ0 w0 (hs ops.toList.length) σ w ∧ ActOk (Kof M0 (hs ops.toList.length) σ w) σ n (es ops.toList.length) a := by
  have all : ∀ k i, i < k → i < ops.size → L.getD i false = true := by
    intro k
    induction k with
    | zero => intro i hi; omega
    | succ k ih =>
      intro i hi hlt
      cases hL : L.getD i false with
      | true => rfl
      | false =>
        have hsz : i < L.size := by rw [hI.size]; exact hlt
        have : i ∈ Region.ready .any ops L := mem_ready.2 ⟨by simp [hsz] at hL ⊢; exact hL, ops[i], by simp [hlt], fun e he hb => by
          have := hd.back i ops[i] (by simp [hlt]) e he hb
          exact ih _ (by omega) (by omega)⟩
        rw [hr] at this; cases this
  have all' : ∀ i o, ops.toList[i]? = some o → L.getD i false = true := fun i o ho => all (i + 1) i (by omega) (by have := (List.getElem?_eq_some_iff.1 ho).1; simpa using this)
  obtain ⟨cur, m, σ, hm, c1, c2, c3, hst, hex, hact⟩ := hI.state
  have e1 : hs ops.toList.length = hs m := heap_same' h hm (Nat.le_refl _) fun j p h1 _ hp hp2 => by have := (c3 j p hp hp2).1 (all' j p hp); omega
  have e2 : cur = es ops.toList.length := by
    funext t
    obtain ⟨k1, k2⟩ := env_char hd h t ops.toList.length (Nat.le_refl _)
    by_cases hw : ∃ (j : Nat) (p : Oper), ops.toList[j]? = some p ∧ p.dst = some t
    · obtain ⟨j, p, hp, hpt⟩ := hw
      rw [k1 j p (List.getElem?_eq_some_iff.1 hp).1 hp hpt, c1 t j p hp hpt (all' j p hp)]
    · rw [k2 fun j p _ hp hpt => hw ⟨j, p, hp, hpt⟩]
      exact c2 t fun j p hp hpt => absurd ⟨j, p, hp, hpt⟩ hw
  rw [e1, ← e2]
  exact ⟨σ, hst, hex, hact⟩

def left (L : Array Bool) (N : Nat) : Nat := ((List.range N).filter fun i => !L.getD i true).length
theorem left_set {L : Array Bool} {N i : Nat} (hi : i < N) (hu : L.getD i true = false) : left (L.setIfInBounds i true) N < left L N := by
  have hsz : i < L.size := by
    rcases Nat.lt_or_ge i L.size with h | h
    · exact h
    · simp [Array.getElem?_eq_none h] at hu
  unfold left
  have hmem : i ∈ (List.range N).filter fun i => !L.getD i true := by rw [List.mem_filter]; exact ⟨List.mem_range.2 hi, by rw [hu]; rfl⟩
  have hsub : ((List.range N).filter fun j => !(L.setIfInBounds i true).getD j true) = ((List.range N).filter fun j => !L.getD j true).filter fun j => !(L.setIfInBounds i true).getD j true := by
    rw [List.filter_filter]
    refine List.filter_congr fun j _ => ?_
    by_cases hji : j = i
    · subst hji; simp [hsz]
    · rw [getD_set_ne true (Ne.symm hji)]; simp
  rw [hsub]
  refine List.length_filter_lt_length_iff_exists.2 ⟨i, hmem, ?_⟩
  simp [hsz]

theorem inv_any {M0 : Nat → Prop} {σ0 : List Value} {w0 : World} (hd : DrawSpec ops.toList) (h : ∀ i o, ops.toList[i]? = some o → Step1 P n ops.toList o (es i) (hs i) (rs i) (es (i + 1)) (hs (i + 1)))
    {Q : Exit → Act → World → Prop} (hQ : ∀ σ a w, St M0 (hs ops.toList.length) σ w → Ext (hs 0) σ0 w0 (hs ops.toList.length) σ w → ActOk (Kof M0 (hs ops.toList.length) σ w) σ n (es ops.toList.length) a → Q .normal a w) :
    ∀ (fuel : Nat) (L : Array Bool) (a : Act) (w : World), left L ops.size ≤ fuel → Inv n ops rs es hs M0 σ0 w0 L a w → wpAny P .any ops Q fuel L a w
  | 0, L, a, w, hf, hI => by
    have hr : Region.ready .any ops L = [] := by
      cases hc : Region.ready .any ops L with
      | nil => rfl
      | cons i l =>
        have hi : i ∈ Region.ready .any ops L := by rw [hc]; exact List.mem_cons_self
        obtain ⟨hun, o, ho, _⟩ := mem_ready.1 hi
        have := left_set (N := ops.size) (Array.getElem?_eq_some_iff.1 ho).1 hun
        omega
    obtain ⟨σ, h1, h2, h3⟩ := inv_end hd h hI hr
    exact ⟨hr, hQ σ a w h1 h2 h3⟩
  | fuel + 1, L, a, w, hf, hI => by
    refine ⟨fun hr => ?_, fun i hi => ?_⟩
    · obtain ⟨σ, h1, h2, h3⟩ := inv_end hd h hI hr
      exact hQ σ a w h1 h2 h3
    · obtain ⟨hun, o, ho, _⟩ := mem_ready.1 hi
      have := left_set (N := ops.size) (Array.getElem?_eq_some_iff.1 ho).1 hun
      exact inv_step hd h hI hi fun a' w' hI' => inv_any hd h hQ fuel _ a' w' (by omega) hI'

/-- Operations in whatever order. -/
theorem aopsD_sound (hT : TOk P T) {Q : Exit → Act → World → Prop} {K : Env → Hp → Prop} {M0 : Nat → Prop} {e : Env} {H : Hp} {a : Act} {σ : List Value} {w : World} (hok : drawOk ops.toList = true)
    (hops : aopsD P T n ops.toList ops.toList e H K) (hst : St M0 H σ w) (ha : ActOk (Kof M0 H σ w) σ n e a)
    (hK : ∀ e' H' a' σ' w', K e' H' → St M0 H' σ' w' → Ext H σ w H' σ' w' → ActOk (Kof M0 H' σ' w') σ' n e' a' → Q .normal a' w') :
    wpAny P .any ops Q ops.size (Array.replicate ops.size false) a w := by
  obtain ⟨rs, es, hs, k1, k2, k3, k4⟩ := trace hT _ _ _ hops
  have hf : ∀ i : Nat, (Array.replicate ops.size false).getD i false = false := fun i => by
    rw [Array.getD_eq_getD_getElem?, Array.getElem?_replicate]; split <;> rfl
  refine inv_any (M0 := M0) (σ0 := σ) (w0 := w) (drawOk_spec hok) k3 (fun σ' a' w' h1 h2 h3 => ?_) ops.size _ a w ?_ ⟨by simp, fun i o _ hi => (by rw [hf] at hi; cases hi), e, 0, σ, Nat.zero_le _, fun t i o _ _ hi => (by rw [hf] at hi; cases hi), fun t _ => by rw [k1], fun i o _ _ => (by rw [hf]; simp), ?_, ?_, ?_⟩
  · rw [k2] at h2
    exact hK _ _ a' σ' w' k4 h1 h2 h3
  · unfold left
    refine Nat.le_trans (List.length_filter_le _ _) (by simp)
  · rw [k2]; exact hst
  · rw [k2]; exact Ext.refl _ _ _
  · rw [k2]; exact ha
end
end Go.Ve
