/- An abstract weakest precondition, fourteenth text: objects get other numbers; loops. -/
import Derived.Test.YtlmdacgkaailiaaDoorVeM
namespace Go.Ve
open Go.RowKit (Below)

/-! ### other numbers -/
def renN (g : Nat → Option Nat) : AV → AV
  | .own k => (match g k with | some j => .own j | none => .undef)
  | .ptr k o => (match g k with | some j => .ptr j o | none => .undef)
  | .eptr k i s o => (match g k with | some j => .eptr j i s o | none => .undef)
  | .agg _ => .undef
  | .tup _ => .undef
  | .fn _ _ => .undef
  | .ifc _ _ => .undef
  | x => x
def renL (g : Nat → Option Nat) : List AV → List AV
  | [] => []
  | x :: xs => renN g x :: renL g xs
def renC (g : Nat → Option Nat) : AV → AV
  | .fn f cs => .fn f (renL g cs)
  | x => renN g x
def renCL (g : Nat → Option Nat) : List AV → List AV
  | [] => []
  | x :: xs => renC g x :: renCL g xs
def renV (g : Nat → Option Nat) : AV → AV
  | .agg cs => bif (renCL g cs).all isCell then .agg (renCL g cs) else .undef
  | .tup cs => .tup (renCL g cs)
  | x => renC g x
def renO (g : Nat → Option Nat) : Ob → Ob
  | .box t cs => bif (renCL g cs).all isCell then .box t (renCL g cs) else .dead
  | o => o

section
variable {K K' : Addr → Value → Prop} {σ σ' : List Value} {g : Nat → Option Nat}

theorem renN_rv (hg : ∀ k j, g k = some j → σ'[j]? = σ[k]?) (hK : ∀ a v, K a v → K' a v) {x : AV} {v : Value} (h : Rv K σ x v) : Rv K' σ' (renN g x) v := by
  cases h with
  | undef => exact .undef _ _
  | und => exact .und _
  | int => exact .int _ _ _
  | bool => exact .bool _ _
  | str => exact .str _ _
  | nils => exact .nils _
  | sl0 => exact .sl0 _
  | sl _ es a cap sz val h1 h2 h3 h4 h5 => exact .sl _ es a cap sz val h1 h2 h3 (fun i j c x hc hx => (h4 i j c x hc hx).mono hK (List.prefix_refl _)) (fun i j hi hj => hK _ _ (h5 i j hi hj))
  | own _ id v h h1 =>
    simp only [renN]
    cases hk : g id with
    | none => exact .undef _ _
    | some j => exact .own _ j v ((hg id j hk).trans h) h1
  | cptr _ cs a val h1 h2 h3 => exact .cptr _ cs a val h1 (fun j x hx => (h2 j x hx).mono hK (List.prefix_refl _)) (fun j hj => hK _ _ (h3 j hj))
  | ptr _ id off b h =>
    simp only [renN]
    cases hk : g id with
    | none => exact .undef _ _
    | some j => exact .ptr _ j off b ((hg id j hk).trans h)
  | eptr _ id i sz off r n cap h =>
    simp only [renN]
    cases hk : g id with
    | none => exact .undef _ _
    | some j => exact .eptr _ j i sz off r n cap ((hg id j hk).trans h)
  | nilp => exact .nilp _
  | agg => exact .undef _ _
  | tup => exact .undef _ _
  | fn => exact .undef _ _
  | nilf => exact .nilf _
  | nili => exact .nili _
  | ifc => exact .undef _ _

theorem renL_len : ∀ (cs : List AV), (renL g cs).length = cs.length
  | [] => rfl
  | x :: xs => by simp [renL, renL_len xs]
theorem renL_get : ∀ {cs : List AV} {j : Nat} {y : AV}, (renL g cs)[j]? = some y → ∃ x, cs[j]? = some x ∧ y = renN g x
  | [], j, y, h => by simp [renL] at h
  | x :: xs, 0, y, h => by simp [renL] at h; exact ⟨x, rfl, h.symm⟩
  | x :: xs, j + 1, y, h => by simp [renL] at h; simpa using renL_get h
theorem renCL_len : ∀ (cs : List AV), (renCL g cs).length = cs.length
  | [] => rfl
  | x :: xs => by simp [renCL, renCL_len xs]
theorem renCL_get : ∀ {cs : List AV} {j : Nat} {y : AV}, (renCL g cs)[j]? = some y → ∃ x, cs[j]? = some x ∧ y = renC g x
  | [], j, y, h => by simp [renCL] at h
  | x :: xs, 0, y, h => by simp [renCL] at h; exact ⟨x, rfl, h.symm⟩
  | x :: xs, j + 1, y, h => by simp [renCL] at h; simpa using renCL_get h

theorem renC_rv (hg : ∀ k j, g k = some j → σ'[j]? = σ[k]?) (hK : ∀ a v, K a v → K' a v) {x : AV} {v : Value} (h : Rv K σ x v) : Rv K' σ' (renC g x) v := by
  unfold renC
  split
  · rename_i f cs
    obtain ⟨vs, rfl, h1, h2⟩ := h.fn_inv
    refine .fn _ _ _ _ (by rw [renL_len]; exact h1) fun j y hy => ?_
    obtain ⟨x, hx, rfl⟩ := renL_get hy
    exact renN_rv hg hK (h2 j x hx)
  · exact renN_rv hg hK h

theorem renV_rv (hg : ∀ k j, g k = some j → σ'[j]? = σ[k]?) (hK : ∀ a v, K a v → K' a v) {x : AV} {v : Value} (h : Rv K σ x v) : Rv K' σ' (renV g x) v := by
  unfold renV
  split
  · rename_i cs
    cases hc : (renCL g cs).all isCell with
    | false => exact .undef _ _
    | true =>
      obtain ⟨vs, rfl, h1, _, h2⟩ := h.agg_inv
      refine .agg _ _ _ (by rw [renCL_len]; exact h1) hc fun j y hy => ?_
      obtain ⟨x, hx, rfl⟩ := renCL_get hy
      exact renC_rv hg hK (h2 j x hx)
  · rename_i cs
    obtain ⟨vs, rfl, h1, h2⟩ := h.tup_inv
    refine .tup _ _ _ (by rw [renCL_len]; exact h1) fun j y hy => ?_
    obtain ⟨x, hx, rfl⟩ := renCL_get hy
    exact renC_rv hg hK (h2 j x hx)
  · exact renC_rv hg hK h

theorem renO_ok {w : World} (hg : ∀ k j, g k = some j → σ'[j]? = σ[k]?) (hK : ∀ a v, K a v → K' a v) {o : Ob} {v : Value} (h : ObOk K σ w o v) : ObOk K' σ' w (renO g o) v := by
  cases o with
  | box t cs =>
    simp only [renO]
    cases hc : (renCL g cs).all isCell with
    | false => trivial
    | true =>
      obtain ⟨_, b, vs, rfl, h1, h2, h3⟩ := h
      refine ⟨hc, b, vs, rfl, h1, by rw [renCL_len]; exact h2, fun j y hy => ?_⟩
      obtain ⟨x, hx, rfl⟩ := renCL_get hy
      exact renC_rv hg hK (h3 j x hx)
  | row t sz es =>
    obtain ⟨h0, r, cap, cur, rfl, h1, h2, h3, h4, h5⟩ := h
    exact ⟨h0, r, cap, cur, rfl, h1, h2, h3, h4, fun i c hc => ⟨(h5 i c hc).1, (h5 i c hc).2.1, fun j x hx => ((h5 i c hc).2.2 j x hx).mono hK (List.prefix_refl _)⟩⟩
  | frz es => exact Rv.mono h hK (List.prefix_refl _)
  | dead => trivial
theorem renO_live {o : Ob} (h : live (renO g o) = true) : live o = true := by
  cases o <;> first | rfl | exact h
end

/-! ### a state that says less -/
def envL : List (Nat × AV) → Env
  | [], _ => .undef
  | (k, v) :: r, i => bif Nat.beq i k then v else envL r i
/-- New numbers: for each new object, the number that it had; whether it lives on. -/
def gOf : List (Nat × Bool) → Nat → Nat → Option Nat
  | [], _, _ => none
  | (k, b) :: r, j, i => bif b && Nat.beq k i then some j else gOf r (j + 1) i
def getO : Hp → Nat → Ob
  | [], _ => .dead
  | o :: _, 0 => o
  | _ :: r, n + 1 => getO r n
def heapOf (g : Nat → Option Nat) (H : Hp) : List (Nat × Bool) → Hp
  | [] => []
  | (k, b) :: r => (bif b then renO g (getO H k) else .dead) :: heapOf g H r
def okL (len : Nat) : List (Nat × Bool) → Bool
  | [] => true
  | (k, b) :: r => Nat.blt k len && (!b || r.all fun p => !p.2 || !Nat.beq p.1 k) && okL len r
def preL : Nat → Nat → List (Nat × Bool) → Bool
  | _, 0, _ => true
  | j, n + 1, (k, _) :: r => Nat.beq j k && preL (j + 1) n r
  | _, _ + 1, [] => false

theorem envL_get {l : List (Nat × AV)} {i : Nat} : envL l i = .undef ∨ ∃ p ∈ l, p.1 = i ∧ envL l i = p.2 := by
  induction l with
  | nil => exact .inl rfl
  | cons p r ih =>
    obtain ⟨k, v⟩ := p
    simp only [envL]
    cases hb : Nat.beq i k with
    | true => exact .inr ⟨(k, v), List.mem_cons_self, (Nat.eq_of_beq_eq_true hb).symm, rfl⟩
    | false =>
      simp only [cond_false]
      rcases ih with h | ⟨p, h1, h2, h3⟩
      · exact .inl h
      · exact .inr ⟨p, List.mem_cons_of_mem _ h1, h2, h3⟩

theorem getO_get : ∀ {H : Hp} {k : Nat}, k < H.length → H[k]? = some (getO H k)
  | [], k, h => by simp at h
  | o :: r, 0, _ => rfl
  | o :: r, k + 1, h => by simpa [getO] using getO_get (H := r) (k := k) (by simpa using h)
theorem heapOf_len {g : Nat → Option Nat} {H : Hp} : ∀ (L : List (Nat × Bool)), (heapOf g H L).length = L.length
  | [] => rfl
  | (k, b) :: r => by simp [heapOf, heapOf_len r]
theorem heapOf_get {g : Nat → Option Nat} {H : Hp} : ∀ {L : List (Nat × Bool)} {j : Nat} {o : Ob}, (heapOf g H L)[j]? = some o → ∃ k b, L[j]? = some (k, b) ∧ o = bif b then renO g (getO H k) else .dead
  | [], j, o, h => by simp [heapOf] at h
  | (k, b) :: r, 0, o, h => by simp only [heapOf, List.getElem?_cons_zero, Option.some.injEq] at h; exact ⟨k, b, rfl, h.symm⟩
  | (k, b) :: r, j + 1, o, h => by simp [heapOf] at h; simpa using heapOf_get h
theorem gOf_spec : ∀ {L : List (Nat × Bool)} {j0 i j : Nat}, gOf L j0 i = some j → ∃ d, j = j0 + d ∧ L[d]? = some (i, true)
  | [], j0, i, j, h => by simp [gOf] at h
  | (k, b) :: r, j0, i, j, h => by
    simp only [gOf] at h
    cases hb : b && Nat.beq k i with
    | true =>
      rw [hb] at h
      simp only [cond_true, Option.some.injEq] at h
      rw [Bool.and_eq_true] at hb
      refine ⟨0, by omega, ?_⟩
      rw [← Nat.eq_of_beq_eq_true hb.2, hb.1]; rfl
    | false =>
      rw [hb] at h
      obtain ⟨d, h1, h2⟩ := gOf_spec h
      exact ⟨d + 1, by omega, by simpa using h2⟩
theorem okL_lt {len : Nat} : ∀ {L : List (Nat × Bool)}, okL len L = true → ∀ {j : Nat} {k : Nat} {b : Bool}, L[j]? = some (k, b) → k < len
  | [], _, j, k, b, h => by simp at h
  | (k', b') :: r, ho, 0, k, b, h => by
    simp only [List.getElem?_cons_zero, Option.some.injEq, Prod.mk.injEq] at h
    obtain ⟨rfl, rfl⟩ := h
    simp only [okL, Bool.and_eq_true] at ho
    exact Nat.blt_eq.mp ho.1.1
  | (k', b') :: r, ho, j + 1, k, b, h => by
    simp only [okL, Bool.and_eq_true] at ho
    exact okL_lt ho.2 (by simpa using h)
theorem okL_inj {len : Nat} : ∀ {L : List (Nat × Bool)}, okL len L = true → ∀ {i j k k' : Nat}, i < j → L[i]? = some (k, true) → L[j]? = some (k', true) → k ≠ k'
  | [], _, i, j, k, k', _, h, _ => by simp at h
  | (k0, b0) :: r, ho, 0, 0, k, k', hij, h, h' => by omega
  | (k0, b0) :: r, ho, 0, j + 1, k, k', hij, h, h' => by
    simp only [List.getElem?_cons_zero, Option.some.injEq, Prod.mk.injEq] at h
    obtain ⟨rfl, rfl⟩ := h
    simp only [okL, Bool.and_eq_true] at ho
    have h1 := ho.1.2
    simp only [Bool.not_true, Bool.false_or, List.all_eq_true] at h1
    have h2 := h1 (k', true) (List.mem_of_getElem? (by simpa using h'))
    simp only [Bool.not_true, Bool.false_or, Bool.not_eq_true'] at h2
    intro e
    subst e
    have := Nat.beq_refl k0
    rw [h2] at this; cases this
  | (k0, b0) :: r, ho, i + 1, 0, k, k', hij, h, h' => by omega
  | (k0, b0) :: r, ho, i + 1, j + 1, k, k', hij, h, h' => by
    simp only [okL, Bool.and_eq_true] at ho
    exact okL_inj ho.2 (i := i) (j := j) (by omega) (by simpa using h) (by simpa using h')
theorem preL_spec : ∀ {n j0 : Nat} {L : List (Nat × Bool)}, preL j0 n L = true → ∀ {i : Nat}, i < n → ∃ b, L[i]? = some (j0 + i, b)
  | 0, _, _, _, i, hi => by omega
  | n + 1, j0, [], h, i, hi => by simp [preL] at h
  | n + 1, j0, (k, b) :: r, h, i, hi => by
    simp only [preL, Bool.and_eq_true] at h
    cases i with
    | zero => exact ⟨b, by rw [← Nat.eq_of_beq_eq_true h.1]; rfl⟩
    | succ i =>
      obtain ⟨b', hb⟩ := preL_spec h.2 (i := i) (by omega)
      exact ⟨b', by rw [show j0 + (i + 1) = j0 + 1 + i by omega]; simpa using hb⟩

theorem Weak.refl (N0 : Nat) (s : AS) : Weak N0 s s := fun _ σ _ _ _ _ hs ha => ⟨σ, List.take_prefix _ _, fun _ h => h, hs, ha⟩
theorem Weak.trans {N0 : Nat} {s s' s'' : AS} (h : Weak N0 s s') (k : Weak N0 s' s'') : Weak N0 s s'' := by
  intro M0 σ w n a hl hs ha
  obtain ⟨σ', h1, h2, h3, h4⟩ := h M0 σ w n a hl hs ha
  have hl' : N0 ≤ σ'.length := by have := h1.length_le; simp at this; omega
  obtain ⟨σ'', k1, k2, k3, k4⟩ := k M0 σ' w n a hl' h3 h4
  refine ⟨σ'', ?_, fun b hb => h2 b (k2 b hb), k3, k4⟩
  obtain ⟨t, ht⟩ := h1
  have : σ'.take N0 = σ.take N0 := by rw [← ht]; simp [Nat.min_eq_left hl]
  rw [this] at k1; exact k1

/-- The slots alone. -/
theorem weak_env {N0 : Nat} {s : AS} {l : List (Nat × AV)} (h : ∀ p ∈ l, s.env p.1 = p.2) : Weak N0 s ⟨envL l, s.H⟩ := by
  intro M0 σ w n a hl hs ha
  refine ⟨σ, List.take_prefix _ _, fun _ h => h, hs, ha.size, ha.defers, fun i => ?_⟩
  rcases envL_get (l := l) (i := i) with e | ⟨p, h1, h2, h3⟩
  · show Rv _ _ (envL l i) _
    rw [e]; exact .undef _ _
  · show Rv _ _ (envL l i) _
    rw [h3, ← h p h1, h2]; exact ha.rv i

/-- Other numbers. -/
theorem weak_ren {N0 : Nat} {s : AS} (L : List (Nat × Bool)) {H' : Hp} {l : List (Nat × AV)} (hok : okL s.H.length L = true) (hpre : preL 0 N0 L = true) (hH : heapOf (gOf L 0) s.H L = H')
    (h : ∀ p ∈ l, renV (gOf L 0) (s.env p.1) = p.2) : Weak N0 s ⟨envL l, H'⟩ := by
  intro M0 σ w n a hl hs ha
  obtain ⟨σ', hσ'⟩ : ∃ σ' : List Value, σ' = L.map fun p => σ.getD p.1 undef := ⟨_, rfl⟩
  have hlen := hs.len
  have get' : ∀ {j k : Nat} {b : Bool}, L[j]? = some (k, b) → σ'[j]? = σ[k]? := by
    intro j k b hj
    have hk : k < σ.length := by rw [hlen]; exact okL_lt hok hj
    rw [hσ', List.getElem?_map, hj]
    simp [hk]
  have hg : ∀ k j, gOf L 0 k = some j → σ'[j]? = σ[k]? := fun k j hk => by
    obtain ⟨d, h1, h2⟩ := gOf_spec hk
    have : j = d := by omega
    subst this
    exact get' h2
  have objs : ∀ {j : Nat} {o : Ob}, H'[j]? = some o → ∃ k b, L[j]? = some (k, b) ∧ s.H[k]? = some (getO s.H k) ∧ o = bif b then renO (gOf L 0) (getO s.H k) else .dead := by
    intro j o hj
    rw [← hH] at hj
    obtain ⟨k, b, h1, h2⟩ := heapOf_get hj
    exact ⟨k, b, h1, getO_get (okL_lt hok h1), h2⟩
  have lives : ∀ {j : Nat} {o : Ob}, H'[j]? = some o → live o = true → ∃ k, L[j]? = some (k, true) ∧ s.H[k]? = some (getO s.H k) ∧ live (getO s.H k) = true := by
    intro j o hj hlo
    obtain ⟨k, b, h1, h2, rfl⟩ := objs hj
    cases b with
    | false => cases hlo
    | true => exact ⟨k, h1, h2, renO_live hlo⟩
  have hMb : ∀ b, Mb H' σ' b → Mb s.H σ b := by
    rintro b ⟨j, o, v, h1, h2, h3, h4⟩
    obtain ⟨k, e1, e2, e3⟩ := lives h1 h2
    exact ⟨k, _, v, e2, e3, (get' e1).symm.trans h3, h4⟩
  have hK : ∀ a v, Kof M0 s.H σ w a v → Kof M0 H' σ' w a v := fun a v hk => ⟨fun hm => hk.1 (hm.imp id (hMb _)), hk.2⟩
  have hlenL : H'.length = L.length := by rw [← hH]; exact heapOf_len L
  refine ⟨σ', ?_, hMb, ⟨by rw [hlenL, hσ']; simp, fun j o v hj hv => ?_, fun i j o o' v v' b hij hi hj l1 l2 v1 v2 b1 => ?_, fun b hb => hs.sep b (hMb b hb), hs.old, fun b hb => let ⟨m, hm⟩ := hs.glob b hb; ⟨m, hK _ _ hm⟩⟩, ha.size, ha.defers, fun i => ?_⟩
  · refine List.prefix_iff_getElem?.2 fun i hi => ?_
    simp only [List.length_take] at hi
    obtain ⟨b, hb⟩ := preL_spec hpre (i := i) (by omega)
    rw [get' hb, Nat.zero_add, List.getElem_take]
    exact List.getElem?_eq_getElem (by omega)
  · obtain ⟨k, b, h1, h2, rfl⟩ := objs hj
    cases b with
    | false => trivial
    | true => exact renO_ok hg hK (hs.ok k _ v h2 ((get' h1).symm.trans hv))
  · obtain ⟨k, e1, e2, e3⟩ := lives hi l1
    obtain ⟨k', f1, f2, f3⟩ := lives hj l2
    have hne : k ≠ k' := by
      rcases Nat.lt_or_gt_of_ne hij with h0 | h0
      · exact okL_inj hok h0 e1 f1
      · exact (okL_inj hok h0 f1 e1).symm
    exact hs.dist k k' _ _ v v' b hne e2 f2 e3 f3 ((get' e1).symm.trans v1) ((get' f1).symm.trans v2) b1
  · show Rv _ _ (envL l i) _
    rcases envL_get (l := l) (i := i) with e | ⟨p, h1, h2, h3⟩
    · rw [e]; exact .undef _ _
    · rw [h3, ← h p h1, h2]; exact renV_rv hg hK (ha.rv i)

/-! ### loops -/
/-- A loop whose state at its head is told by an index. -/
theorem aloop {B : AQ → AS → Prop} {Q : AQ} {s : AS} {ι : Type} (I : ι → Prop) (shape : ι → AS) (μ : ι → Nat) (x0 : ι) (hx : I x0) (h0 : Weak s.H.length s (shape x0))
    (hr : ∀ i, I i → B (afterQ (fun s'' => ∃ j, I j ∧ μ j < μ i ∧ Weak s.H.length s'' (shape j)) Q) (shape i)) : ALoop B Q s := by
  unfold ALoop
  exact ⟨ι, I, shape, μ, ⟨x0, hx, h0⟩, hr⟩
end Go.Ve
