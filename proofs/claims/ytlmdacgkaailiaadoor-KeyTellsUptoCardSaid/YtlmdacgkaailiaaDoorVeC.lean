/- An abstract weakest precondition, third text: the relations between abstract and real states go on: what grows, what is pushed, what is written. -/
import Derived.Test.YtlmdacgkaailiaaDoorVeB
namespace Go.Ve
open Go.RowKit (Below)

theorem Rv.mono {K K' : Addr → Value → Prop} {σ σ' : List Value} {x : AV} {v : Value} (h : Rv K σ x v) (hK : ∀ a u, K a u → K' a u) (hs : σ <+: σ') : Rv K' σ' x v := by
  induction h generalizing σ' with
  | undef => exact .undef _ _
  | und => exact .und _
  | int => exact .int _ _ _
  | bool => exact .bool _ _
  | str => exact .str _ _
  | nils => exact .nils _
  | sl0 => exact .sl0 _
  | sl σ es a cap sz val h1 h2 h3 h4 h5 ih => exact .sl _ es a cap sz val h1 h2 h3 (fun i j c x hc hx => ih i j c x hc hx (List.prefix_refl _)) (fun i j hi hj => hK _ _ (h5 i j hi hj))
  | own σ id v h h1 => exact .own _ id v (by obtain ⟨t, rfl⟩ := hs; rw [List.getElem?_append_left (List.getElem?_eq_some_iff.1 h).1]; exact h) h1
  | cptr σ cs a val h1 h2 h3 ih => exact .cptr _ cs a val h1 (fun j x hx => ih j x hx (List.prefix_refl _)) (fun j hj => hK _ _ (h3 j hj))
  | ptr σ id off b h => exact .ptr _ id off b (by obtain ⟨t, rfl⟩ := hs; rw [List.getElem?_append_left (List.getElem?_eq_some_iff.1 h).1]; exact h)
  | eptr σ id i sz off g n cap h => exact .eptr _ id i sz off g n cap (by obtain ⟨t, rfl⟩ := hs; rw [List.getElem?_append_left (List.getElem?_eq_some_iff.1 h).1]; exact h)
  | nilp => exact .nilp _
  | agg σ cs vs h1 h2 h3 ih => exact .agg _ cs vs h1 h2 (fun j x hx => ih j x hx hs)
  | tup σ cs vs h1 h2 ih => exact .tup _ cs vs h1 (fun j x hx => ih j x hx hs)
  | fn σ f cs vs h1 h2 ih => exact .fn _ f cs vs h1 (fun j x hx => ih j x hx hs)
  | nilf => exact .nilf _
  | nili => exact .nili _
  | ifc σ t x v h ih => exact .ifc _ t x v (ih hs)

theorem Rv.closed {K : Addr → Value → Prop} {σ σ' : List Value} {x : AV} {v : Value} (h : Rv K σ x v) (hc : closed1 x = true) : Rv K σ' x v := by
  cases h with
  | int => exact .int _ _ _
  | bool => exact .bool _ _
  | str => exact .str _ _
  | nils => exact .nils _
  | sl0 => exact .sl0 _
  | sl _ es a cap sz val h1 h2 h3 h4 h5 => exact .sl _ es a cap sz val h1 h2 h3 h4 h5
  | cptr _ cs a val h1 h2 h3 => exact .cptr _ cs a val h1 h2 h3
  | nilp => exact .nilp _
  | nilf => exact .nilf _
  | nili => exact .nili _
  | _ => simp [closed1] at hc

theorem Rv.oneCell {K : Addr → Value → Prop} {σ : List Value} {x : AV} {v : Value} (h : Rv K σ x v) (hc : isCell x = true) : v.oneCell' = true := by
  cases h <;> first
    | rfl
    | assumption
    | (simp [isCell] at hc; done)

theorem cell_of_closed {x : AV} (h : closed1 x = true) : isCell x = true := by cases x <;> simp_all [closed1, isCell]
theorem cells_of_closed {cs : List AV} (h : cs.all closed1 = true) : cs.all isCell = true := by
  rw [List.all_eq_true] at *; exact fun x hx => cell_of_closed (h x hx)

/-! ### Ext -/
theorem Ext.refl (H : Hp) (σ : List Value) (w : World) : Ext H σ w H σ w := ⟨rfl, rfl, rfl, Nat.le_refl _, List.prefix_refl _, fun _ _ _ => rfl, fun _ _ h => h⟩
theorem Ext.trans {H H' H'' : Hp} {σ σ' σ'' : List Value} {w w' w'' : World} (h : Ext H σ w H' σ' w') (k : Ext H' σ' w' H'' σ'' w'') : Ext H σ w H'' σ'' w'' :=
  ⟨k.os.trans h.os, k.tape.trans h.tape, k.output.trans h.output, Nat.le_trans h.size k.size, h.pre.trans k.pre,
    fun b hb hm => (k.keep b (Nat.lt_of_lt_of_le hb h.size) (fun hm' => hm (h.mutb b hb hm'))).trans (h.keep b hb hm),
    fun b hb hm => h.mutb b hb (k.mutb b (Nat.lt_of_lt_of_le hb h.size) hm)⟩
theorem Ext.K {M0 : Nat → Prop} {H H' : Hp} {σ σ' : List Value} {w w' : World} (h : Ext H σ w H' σ' w') : ∀ a v, Kof M0 H σ w a v → Kof M0 H' σ' w' a v := by
  intro a v ⟨hm, hc⟩
  have hb : a.block < w.heap.size := World.block_lt_of_cell? w a hc
  refine ⟨fun hx => ?_, ?_⟩
  · rcases hx with hx | hx
    · exact hm (.inl hx)
    · exact hm (.inr (h.mutb _ hb hx))
  · rw [World.cell?_of_block (w := w) (h.keep a.block hb (fun hx => hm (.inr hx)))]; exact hc
theorem Ext.rv {M0 : Nat → Prop} {H H' : Hp} {σ σ' : List Value} {w w' : World} {x : AV} {v : Value} (h : Ext H σ w H' σ' w') (hv : Rv (Kof M0 H σ w) σ x v) : Rv (Kof M0 H' σ' w') σ' x v := hv.mono h.K h.pre
theorem Ext.rv0 {M0 : Nat → Prop} {H H' : Hp} {σ σ' : List Value} {w w' : World} {x : AV} {v : Value} (h : Ext H σ w H' σ' w') (hv : Rv (Kof M0 H σ w) [] x v) : Rv (Kof M0 H' σ' w') [] x v := hv.mono h.K (List.prefix_refl _)

theorem ObOk.keep {M0 : Nat → Prop} {H H' : Hp} {σ σ' : List Value} {w w' : World} {o : Ob} {v : Value} (h : Ext H σ w H' σ' w') (ho : ObOk (Kof M0 H σ w) σ w o v)
    (hb : live o = true → ∀ b, blkOf v = some b → w'.heap[b]? = w.heap[b]?) : ObOk (Kof M0 H' σ' w') σ' w' o v := by
  cases o with
  | box t cs =>
    obtain ⟨h0, b, vs, rfl, h1, h2, h3⟩ := ho
    exact ⟨h0, b, vs, rfl, (hb rfl b rfl).trans h1, h2, fun j x hx => h.rv (h3 j x hx)⟩
  | row t sz es =>
    obtain ⟨h0, g, cap, cur, rfl, h1, h2, h3, h4, h5⟩ := ho
    exact ⟨h0, g, cap, cur, rfl, (hb rfl g rfl).trans h1, h2, h3, h4, fun i c hc => ⟨(h5 i c hc).1, (h5 i c hc).2.1, fun j x hx => h.rv0 ((h5 i c hc).2.2 j x hx)⟩⟩
  | frz es => exact h.rv0 ho
  | dead => trivial

theorem Mb_lt {M0 : Nat → Prop} {H : Hp} {σ : List Value} {w : World} (h : St M0 H σ w) {b : Nat} (hb : Mb H σ b) : b < w.heap.size := by
  obtain ⟨i, o, v, h1, h2, h3, h4⟩ := hb
  have := h.ok i o v h1 h3
  cases o with
  | box t cs =>
    obtain ⟨_, b', vs, rfl, k1, _⟩ := this
    have e : b' = b := by simpa [blkOf] using h4
    subst e
    exact (Array.getElem?_eq_some_iff.1 k1).1
  | row t sz es =>
    obtain ⟨_, g, cap, cur, rfl, k1, _⟩ := this
    have e : g = b := by simpa [blkOf] using h4
    subst e
    exact (Array.getElem?_eq_some_iff.1 k1).1
  | frz es => simp [live] at h2
  | dead => simp [live] at h2

theorem St.step {M0 : Nat → Prop} {H H' : Hp} {σ σ' : List Value} {w w' : World} (h : St M0 H σ w) (hx : Ext H σ w H' σ' w') (hl : σ'.length = H'.length)
    (hob : ∀ (i : Nat) (o : Ob) (v : Value), H'[i]? = some o → σ'[i]? = some v → (H[i]? = some o ∧ σ[i]? = some v ∧ (live o = true → ∀ b, blkOf v = some b → w'.heap[b]? = w.heap[b]?)) ∨ ObOk (Kof M0 H' σ' w') σ' w' o v)
    (hd : ∀ (i j : Nat) (o o' : Ob) (v v' : Value) (b : Nat), i ≠ j → H'[i]? = some o → H'[j]? = some o' → live o = true → live o' = true → σ'[i]? = some v → σ'[j]? = some v' → blkOf v = some b → blkOf v' ≠ some b) :
    St M0 H' σ' w' :=
  ⟨hl, fun i o v hi hv => by
    rcases hob i o v hi hv with ⟨h1, h2, h3⟩ | h1
    · exact (h.ok i o v h1 h2).keep hx h3
    · exact h1,
   hd,
   fun b hb hm => h.sep b (hx.mutb b (h.old b hm) hb) hm,
   fun b hm => Nat.lt_of_lt_of_le (h.old b hm) hx.size,
   fun b hb => let ⟨m, hm⟩ := h.glob b hb; ⟨m, hx.K _ _ hm⟩⟩

/-- Everything that was there is as it was. -/
theorem Ext.of_below {H : Hp} {σ : List Value} {w w' : World} (h : Below w.heap.size w w') : Ext H σ w H σ w' := ⟨h.os, h.tape, h.output, h.size, List.prefix_refl _, fun b hb _ => h.block b hb, fun _ _ h => h⟩
theorem St.below {M0 : Nat → Prop} {H : Hp} {σ : List Value} {w w' : World} (h : St M0 H σ w) (hb : Below w.heap.size w w') : St M0 H σ w' :=
  h.step (Ext.of_below hb) h.len (fun _ o _ hi hv => .inl ⟨hi, hv, fun hl _ hk => hb.block _ (Mb_lt h ⟨_, o, _, hi, hl, hv, hk⟩)⟩) h.dist

/-- A new object. -/
theorem St.push {M0 : Nat → Prop} {H : Hp} {σ : List Value} {w w' : World} (h : St M0 H σ w) (hb : Below w.heap.size w w') {o : Ob} {v : Value}
    (hn : ∀ b, blkOf v = some b → w.heap.size ≤ b) (ho : Ext H σ w (H ++ [o]) (σ ++ [v]) w' → ObOk (Kof M0 (H ++ [o]) (σ ++ [v]) w') (σ ++ [v]) w' o v) :
    St M0 (H ++ [o]) (σ ++ [v]) w' ∧ Ext H σ w (H ++ [o]) (σ ++ [v]) w' := by
  have hlen := h.len
  have cases_ : ∀ (i : Nat) (o' : Ob) (v' : Value), (H ++ [o])[i]? = some o' → (σ ++ [v])[i]? = some v' → (H[i]? = some o' ∧ σ[i]? = some v') ∨ (o' = o ∧ v' = v ∧ i = H.length) := by
    intro i o' v' h1 h2
    rcases Nat.lt_trichotomy i H.length with hi | hi | hi
    · rw [List.getElem?_append_left hi] at h1; rw [List.getElem?_append_left (by omega)] at h2; exact .inl ⟨h1, h2⟩
    · rw [List.getElem?_append_right (by omega)] at h1; rw [List.getElem?_append_right (by omega)] at h2
      rw [show i - H.length = 0 by omega] at h1; rw [show i - σ.length = 0 by omega] at h2
      simp at h1 h2
      exact .inr ⟨h1.symm, h2.symm, hi⟩
    · rw [List.getElem?_eq_none (by simp; omega)] at h1; cases h1
  have hx : Ext H σ w (H ++ [o]) (σ ++ [v]) w' := ⟨hb.os, hb.tape, hb.output, hb.size, ⟨[v], rfl⟩, fun b hlt _ => hb.block b hlt, fun b hlt ⟨i, o', v', h1, h2, h3, h4⟩ => by
    rcases cases_ i o' v' h1 h3 with ⟨k1, k2⟩ | ⟨rfl, rfl, _⟩
    · exact ⟨i, o', v', k1, h2, k2, h4⟩
    · have := hn b h4; omega⟩
  refine ⟨h.step hx (by simp [hlen]) (fun i o' v' h1 h2 => ?_) ?_, hx⟩
  · rcases cases_ i o' v' h1 h2 with ⟨k1, k2⟩ | ⟨rfl, rfl, _⟩
    · exact .inl ⟨k1, k2, fun hl b hk => hb.block b (Mb_lt h ⟨i, o', v', k1, hl, k2, hk⟩)⟩
    · exact .inr (ho hx)
  · intro i j o1 o2 v1 v2 b hij h1 h2 l1 l2 s1 s2 e1 e2
    rcases cases_ i o1 v1 h1 s1 with ⟨k1, k2⟩ | ⟨rfl, rfl, hi⟩
    · rcases cases_ j o2 v2 h2 s2 with ⟨m1, m2⟩ | ⟨rfl, rfl, hj⟩
      · exact h.dist i j o1 o2 v1 v2 b hij k1 m1 l1 l2 k2 m2 e1 e2
      · have := Mb_lt h ⟨i, o1, v1, k1, l1, k2, e1⟩; have := hn b e2; omega
    · rcases cases_ j o2 v2 h2 s2 with ⟨m1, m2⟩ | ⟨rfl, rfl, hj⟩
      · have := Mb_lt h ⟨j, o2, v2, m1, l2, m2, e2⟩; have := hn b e1; omega
      · omega

theorem set_cases {α : Type} {l : List α} {id i : Nat} {o o' : α} (h : (l.set id o)[i]? = some o') : (i = id ∧ o' = o) ∨ (i ≠ id ∧ l[i]? = some o') := by
  by_cases hi : id = i
  · subst hi
    have hlt : id < l.length := by have := (List.getElem?_eq_some_iff.1 h).1; simpa using this
    rw [List.getElem?_set_self hlt] at h
    exact .inl ⟨rfl, by simpa using h.symm⟩
  · rw [List.getElem?_set_ne hi] at h
    exact .inr ⟨fun e => hi e.symm, h⟩

/-- An object is written: only its own block turns. -/
theorem St.write {M0 : Nat → Prop} {H : Hp} {σ : List Value} {w w' : World} (h : St M0 H σ w) {id b : Nat} {o o' : Ob} {v : Value} (hi : H[id]? = some o) (hv : σ[id]? = some v) (hl : live o = true) (hk : blkOf v = some b)
    (hos : w'.os = w.os) (htape : w'.tape = w.tape) (hout : w'.output = w.output) (hsize : w.heap.size = w'.heap.size) (hkeep : ∀ c, c ≠ b → w'.heap[c]? = w.heap[c]?)
    (ho : Ext H σ w (H.set id o') σ w' → ObOk (Kof M0 (H.set id o') σ w') σ w' o' v) : St M0 (H.set id o') σ w' ∧ Ext H σ w (H.set id o') σ w' := by
  have hMb : ∀ c, Mb (H.set id o') σ c → Mb H σ c := by
    rintro c ⟨i, o1, v1, h1, h2, h3, h4⟩
    rcases set_cases h1 with ⟨rfl, rfl⟩ | ⟨_, k⟩
    · rw [hv] at h3; cases h3
      exact ⟨_, o, v, hi, hl, hv, h4⟩
    · exact ⟨i, o1, v1, k, h2, h3, h4⟩
  have hx : Ext H σ w (H.set id o') σ w' := ⟨hos, htape, hout, by omega, List.prefix_refl _, fun c _ hm => hkeep c (fun e => hm (e ▸ ⟨id, o, v, hi, hl, hv, hk⟩)), fun c _ hm => hMb c hm⟩
  refine ⟨h.step hx (by simp [h.len]) (fun i o1 v1 h1 h2 => ?_) ?_, hx⟩
  · rcases set_cases h1 with ⟨rfl, rfl⟩ | ⟨hne, k⟩
    · rw [hv] at h2; cases h2
      exact .inr (ho hx)
    · refine .inl ⟨k, h2, fun hl1 c hc => hkeep c (fun e => ?_)⟩
      subst e
      exact h.dist i id o1 o v1 v c hne k hi hl1 hl h2 hv hc hk
  · intro i j o1 o2 v1 v2 c hij h1 h2 l1 l2 s1 s2 e1 e2
    have back : ∀ (i : Nat) (o1 : Ob) (v1 : Value), (H.set id o')[i]? = some o1 → live o1 = true → σ[i]? = some v1 → ∃ o2, H[i]? = some o2 ∧ live o2 = true := by
      intro i o1 v1 h1 l1 _
      rcases set_cases h1 with ⟨rfl, rfl⟩ | ⟨_, k⟩
      · exact ⟨o, hi, hl⟩
      · exact ⟨o1, k, l1⟩
    obtain ⟨p1, q1, r1⟩ := back i o1 v1 h1 l1 s1
    obtain ⟨p2, q2, r2⟩ := back j o2 v2 h2 l2 s2
    exact h.dist i j p1 p2 v1 v2 c hij q1 q2 r1 r2 s1 s2 e1 e2

/-- The world turns in nothing that is asked here. -/
theorem below_of_heap {w w' : World} (h1 : w'.os = w.os) (h2 : w'.tape = w.tape) (h3 : w'.output = w.output) (h4 : w'.heap = w.heap) : Below w.heap.size w w' := ⟨h1, h2, h3, by rw [h4]; exact Nat.le_refl _, fun k _ => by rw [h4]⟩

/-! ### slots -/
theorem ActOk.ext {M0 : Nat → Prop} {H H' : Hp} {σ σ' : List Value} {w w' : World} {n : Nat} {e : Env} {a : Act} (h : ActOk (Kof M0 H σ w) σ n e a) (hx : Ext H σ w H' σ' w') : ActOk (Kof M0 H' σ' w') σ' n e a :=
  ⟨h.size, h.defers, fun i => hx.rv (h.rv i)⟩

theorem upd_same (e : Env) (d : Nat) (v : AV) : upd e d v d = v := by simp [upd]
theorem upd_ne (e : Env) {d i : Nat} (v : AV) (h : i ≠ d) : upd e d v i = e i := by
  have : Nat.beq i d = false := by
    cases hb : Nat.beq i d with
    | false => rfl
    | true => exact absurd (Nat.eq_of_beq_eq_true hb) h
  simp [upd, this]

theorem ActOk.put {K : Addr → Value → Prop} {σ : List Value} {n d : Nat} {e : Env} {a : Act} {x : AV} {v : Value} (h : ActOk K σ n e a) (hd : d < n) (hv : Rv K σ x v) : ActOk K σ n (upd e d x) (a.put (some d) v) := by
  refine ⟨by simp [Act.put, h.size], h.defers, fun i => ?_⟩
  by_cases hi : i = d
  · subst hi
    rw [upd_same]
    have : (a.tmps.setIfInBounds i v).getD i undef = v := by
      have hs := h.size
      simp [Array.getElem?_setIfInBounds_self_of_lt (by omega : i < a.tmps.size)]
    simpa [Act.put, this] using hv
  · rw [upd_ne e x hi]
    have : (a.tmps.setIfInBounds d v).getD i undef = a.tmps.getD i undef := by
      simp [Array.getElem?_setIfInBounds_ne (Ne.symm hi)]
    simpa [Act.put, this] using h.rv i

theorem Rv.cst {K : Addr → Value → Prop} {σ : List Value} (v : Value) : Rv K σ (cst v) v := by
  unfold Ve.cst
  split <;> first
    | exact .int _ _ _
    | exact .bool _ _
    | exact .str _ _
    | exact .nils _
    | exact .nilp _
    | exact .nili _
    | exact .nilf _
    | exact .undef _ _

theorem ActOk.eval {K : Addr → Value → Prop} {σ : List Value} {n : Nat} {e : Env} {a : Act} (h : ActOk K σ n e a) (x : Operand) : Rv K σ (evalO e x) (a.eval x) := by
  cases x with
  | tmp t => exact h.rv t
  | const v => exact Rv.cst v
  | global g => exact .undef _ _
  | func f => exact .fn _ f [] #[] rfl (fun j x hx => by simp at hx)
end Go.Ve
