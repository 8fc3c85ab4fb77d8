/- An abstract weakest precondition, tenth text: list literals, make, append. -/
import Derived.Test.YtlmdacgkaailiaaDoorVeI
set_option linter.unusedSimpArgs false
set_option linter.unusedVariables false
namespace Go.Ve
open Go.RowKit (Below)
section
variable {P : Program} {T : TT} {o : Oper} {ev : Operand → AV} {H : Hp} {K : KV}

/-- A new row of the call's own. -/
theorem push_row {M0 : Nat → Prop} {σ : List Value} {w w' : World} (hs : St M0 H σ w) (hB : Below w.heap.size w w') {t sz cap : Nat} {es : List (List AV)} {cur : Array Value} (h0 : 0 < sz)
    (hg : w'.heap[w.heap.size]? = some (.cells cur t (0, 0))) (h1 : es.length ≤ cap) (h2 : cap ≤ 9223372036854775807) (h3 : cur.size = cap * sz)
    (h4 : ∀ i c, es[i]? = some c → c.length = sz ∧ c.all isCell = true ∧ ∀ j x, c[j]? = some x → Rv (Kof M0 H σ w) [] x (cur.getD (i * sz + j) undef)) :
    St M0 (H ++ [.row t sz es]) (σ ++ [.slice (some ⟨w.heap.size, 0, none⟩) es.length cap]) w' ∧ Ext H σ w (H ++ [.row t sz es]) (σ ++ [.slice (some ⟨w.heap.size, 0, none⟩) es.length cap]) w' :=
  hs.push hB (fun b hb => by simp [blkOf] at hb; omega) (fun hx => ⟨h0, w.heap.size, cap, cur, rfl, hg, h1, h2, h3, fun i c hc => ⟨(h4 i c hc).1, (h4 i c hc).2.1, fun j x hx' => hx.rv0 ((h4 i c hc).2.2 j x hx')⟩⟩)

theorem aelems_spec {size : Nat} : ∀ {l : List (Nat × AV)} {k : Nat} {es : List (List AV)}, aelems size k l = some es →
    es.length = l.length ∧ ∀ j, j < l.length → ∃ v, l[j]? = some (k + j, v) ∧ es[j]? = some (cellsOf v) ∧ (cellsOf v).length = size ∧ (cellsOf v).all closed1 = true
  | [], k, es, h => by simp [aelems] at h; subst h; exact ⟨rfl, fun j hj => by simp at hj⟩
  | (i, v) :: rest, k, es, h => by
    simp only [aelems] at h
    cases hb : Nat.beq i k && Nat.beq (cellsOf v).length size && (cellsOf v).all closed1 with
    | false => simp [hb] at h
    | true =>
      simp only [hb, cond_true] at h
      rw [Bool.and_eq_true, Bool.and_eq_true] at hb
      have ei := Nat.eq_of_beq_eq_true hb.1.1
      have es' := Nat.eq_of_beq_eq_true hb.1.2
      obtain ⟨r, hr, rfl⟩ := Option.map_eq_some_iff.1 h
      obtain ⟨g1, g2⟩ := aelems_spec hr
      refine ⟨by simp [g1], fun j hj => ?_⟩
      cases j with
      | zero => exact ⟨v, by simp [ei], rfl, es', hb.2⟩
      | succ j =>
        obtain ⟨u, m1, m2⟩ := g2 j (by simpa using hj)
        exact ⟨u, by simp [m1]; omega, by simpa using m2⟩

theorem sem_buildSlice (hT : TOk P T) {t : TypeId} {len : Nat} {parts : Array (Nat × Operand)} (ho : o.op = .buildSlice t len parts) (h : abuildSlice T t len (parts.toList.map fun p => (p.1, ev p.2)) H K) : ∃ r H', OpSem P o ev H r H' ∧ K r H' := by
  unfold abuildSlice at h
  cases hti : T t with
  | none => simp [hti] at h
  | some i =>
    have ht := hT t i hti
    simp only [hti] at h
    split at h
    · rename_i e hk
      have hud := ht.und
      rw [hk] at hud
      split at h
      · rename_i ei hei
        have hte := hT e ei hei
        cases hb : Nat.blt 0 ei.size && Nat.ble (len * ei.size) 65536 && Nat.beq (parts.toList.map fun p => (p.1, ev p.2)).length len with
        | false => rw [hb] at h; exact h.elim
        | true =>
          rw [hb] at h
          simp only [cond_true] at h
          rw [Bool.and_eq_true, Bool.and_eq_true] at hb
          have hpos : 0 < ei.size := cast Nat.blt_eq hb.1.1
          have hsmall := Nat.le_of_ble_eq_true hb.1.2
          have hlen := Nat.eq_of_beq_eq_true hb.2
          split at h
          · rename_i es hes
            obtain ⟨g1, g2⟩ := aelems_spec hes
            rw [forceLL_eq, forceN_eq] at h
            refine ⟨_, _, fun M0 σ w ρ hs hop => ?_, h⟩
            have hesl : es.length = len := by rw [g1, hlen]
            obtain ⟨pi, z, q1, q2, q3, q4, q5⟩ := hte.get
            -- the parts as values
            have hops : ∀ j (hj : j < len), ∃ (y : Operand), parts[j]? = some (j, y) ∧ es[j]? = some (cellsOf (ev y)) ∧ (cellsOf (ev y)).length = ei.size ∧ (cellsOf (ev y)).all closed1 = true ∧ Rv (Kof M0 H σ w) σ (ev y) (ρ y) := by
              intro j hj
              obtain ⟨v, m1, m2, m3, m4⟩ := g2 j (by omega)
              simp only [List.getElem?_map, Option.map_eq_some_iff, Prod.mk.injEq] at m1
              obtain ⟨a, ha, e1, e2⟩ := m1
              have ha' : parts[j]? = some a := by simpa using ha
              obtain ⟨a1, a2⟩ := a
              simp at e1 e2
              subst e2
              subst e1
              refine ⟨a2, ha', m2, m3, m4, hop a2 ?_⟩
              simp only [ho, Op.operands, List.mem_toArray, List.mem_map]
              exact ⟨_, List.mem_of_getElem? ha, rfl⟩
            have hplen : parts.size = len := by rw [← hlen]; simp
            have hvs : ((parts.map fun (i, x) => (i, ρ x)).toList) = ((parts.toList.map fun p => ρ p.2).zipIdx 0).map fun x => (x.2, x.1) := by
              apply List.ext_getElem?
              intro j
              by_cases hj : j < len
              · obtain ⟨y, m1, _⟩ := hops j hj
                simp [m1, List.getElem?_zipIdx]
              · have hn : parts[j]? = none := Array.getElem?_eq_none (by omega)
                simp [hn, List.getElem?_zipIdx]
            have hcell : ∀ v ∈ parts.toList.map (fun p => ρ p.2), v.cells.size = ei.size := by
              intro v hv
              obtain ⟨j, hj⟩ := List.getElem?_of_mem hv
              have hjl : j < len := by have := (List.getElem?_eq_some_iff.1 hj).1; simpa [hplen] using this
              obtain ⟨y, m1, m2, m3, m4, m5⟩ := hops j hjl
              have : v = ρ y := by simpa [m1] using hj.symm
              rw [this, (rv_cells m5 (cells_of_closed m4)).1, m3]
            by_cases hl0 : len = 0
            · have he : es = [] := List.eq_nil_of_length_eq_zero (by omega)
              have hp : parts = #[] := by rw [← Array.size_eq_zero_iff]; omega
              subst he
              subst hl0
              have hr : (Instr.buildSlice t 0 (parts.map fun (i, x) => (i, ρ x))).run P w = .ok (.slice (some ⟨w.heap.size, 0, none⟩) 0 0) (w.alloc (.cells #[] e)) := by
                rw [hp]
                simp [Instr.buildSlice, run_underlying (show P.underlying t = some (.slice e) from hud), sizeOf, typeInfo, q1, Instr.fill, newRow, Array.range_zero']
              obtain ⟨s1, s2⟩ := push_row hs (below_alloc w (.cells #[] e)) (es := []) (cap := 0) hpos (heap_alloc w _) (Nat.le_refl _) (by omega) (by simp) (fun i c hc => by simp at hc)
              exact ⟨_, _, _, .inl (by simp only [execOp, ho, Sem.run_bind, hr, Result.andThen_ok, Sem.run_pure]; rfl), s1, s2, .own _ _ _ (by rw [← hs.len]; exact new_id _ _) rfl⟩
            · have hsize : ((Array.range (len * pi.size)).map (z.cells[· % z.cells.size]!)).size = len * pi.size := by simp
              obtain ⟨r, f1, f2, f3⟩ := Great.fill_dense (s := ei.size) hpos (parts.toList.map fun p => ρ p.2) 0 ((Array.range (len * pi.size)).map (z.cells[· % z.cells.size]!)) hcell (by rw [hsize, q2]; simp [hplen])
              have hr := run_buildSlice (P := P) w t e len (parts.map fun (i, x) => (i, ρ x)) r pi z hud q1 q4 (by rw [q2]; omega) (by rw [q2]; exact Nat.ne_of_gt (Nat.mul_pos (by omega) hpos)) (by rw [hvs, q2, ← f1, q2])
              obtain ⟨s1, s2⟩ := push_row hs (below_alloc w (.cells r e)) (es := es) (cap := len) (cur := r) hpos (heap_alloc w _) (by omega) (by have : len ≤ len * ei.size := Nat.le_mul_of_pos_right _ hpos; omega) (by rw [f2, hsize, q2]) (fun i c hc => by
                have hi : i < len := by rw [← hesl]; exact (List.getElem?_eq_some_iff.1 hc).1
                obtain ⟨y, m1, m2, m3, m4, m5⟩ := hops i hi
                rw [m2] at hc
                simp at hc
                subst hc
                refine ⟨m3, cells_of_closed m4, fun j x hx => ?_⟩
                have hj : j < ei.size := by rw [← m3]; exact (List.getElem?_eq_some_iff.1 hx).1
                have hrv := ((rv_cells m5 (cells_of_closed m4)).2.1 j x hx).closed (σ' := []) ((List.all_eq_true.1 m4) x (List.mem_of_getElem? hx))
                have hin := row_pos hi hj
                have hdiv : (i * ei.size + j) / ei.size = i := by
                  rw [Nat.mul_comm, Nat.mul_add_div hpos, Nat.div_eq_of_lt hj]; omega
                have hmod : (i * ei.size + j) % ei.size = j := by
                  rw [Nat.mul_comm, Nat.mul_add_mod, Nat.mod_eq_of_lt hj]
                have hk := f3 (i * ei.size + j)
                rw [if_pos ⟨by omega, by simp [hplen]; omega⟩, hdiv, hmod] at hk
                have hvi : (parts.toList.map fun p => ρ p.2)[i - 0]? = some (ρ y) := by simp [m1]
                rw [hvi] at hk
                simp only [Option.bind_some] at hk
                have hjc : j < (ρ y).cells.size := by rw [(rv_cells m5 (cells_of_closed m4)).1]; omega
                have e1 : r.getD (i * ei.size + j) undef = (ρ y).cells.getD j undef := by
                  rw [Array.getD_eq_getD_getElem?, Array.getD_eq_getD_getElem?, hk]
                rw [e1]; exact hrv)
              rw [hesl] at s1 s2
              exact ⟨_, _, _, .inl (by simp only [execOp, ho, Sem.run_bind, hr, Result.andThen_ok, Sem.run_pure]; rfl), s1, s2, .own _ _ _ (by rw [← hs.len]; exact new_id _ _) rfl⟩
          · exact h.elim
      · exact h.elim
    · exact h.elim

theorem sem_make (hT : TOk P T) {t : TypeId} {l c : Operand} (ho : o.op = .makeSlice t l c) (h : amake T t (ev l) (ev c) H K) : ∃ r H', OpSem P o ev H r H' ∧ K r H' := by
  unfold amake at h
  split at h
  · rename_i i k n k' m hti hl hc
    have hud := (hT t i hti).und
    split at h
    · rename_i e hk
      rw [hk] at hud
      split at h
      · rename_i ei hei
        have hte := hT e ei hei
        cases hb : Nat.blt 0 ei.size && Nat.beq ei.zero.length ei.size && ei.zero.all closed1 with
        | false => rw [hb] at h; exact h.elim
        | true =>
          rw [hb] at h
          simp only [cond_true] at h
          rw [Bool.and_eq_true, Bool.and_eq_true] at hb
          have hpos : 0 < ei.size := cast Nat.blt_eq hb.1.1
          have hzl := Nat.eq_of_beq_eq_true hb.1.2
          obtain ⟨h0, h1, h2, h3, h⟩ := h
          rw [forceN_eq] at h
          refine ⟨_, _, fun M0 σ w ρ hs hop => ?_, h⟩
          have p1 := hop l (by simp [ho, Op.operands]); rw [hl] at p1
          have p2 := hop c (by simp [ho, Op.operands]); rw [hc] at p2
          obtain ⟨pi, z, q1, q2, q3, q4, q5⟩ := hte.get
          have hby : (pi.bytes : Int) * m ≤ 281474976710656 := by rw [q3, Int.mul_comm]; omega
          have hr := run_make (P := P) w t e pi z hud q1 q4 k k' n m h0 h1 hby h3
          obtain ⟨c1, c2, c3, c4⟩ := zero_cells hte q5 (K0 := Kof M0 H σ w) (σ := [])
          rw [q2] at hr
          have hn : (List.replicate n.toNat ei.zero).length = n.toNat := by simp
          obtain ⟨s1, s2⟩ := push_row hs (below_alloc w (.cells (madeCells z.cells (m.toNat * ei.size)) e)) (es := List.replicate n.toNat ei.zero) (cap := m.toNat) hpos (heap_alloc w _) (by rw [hn]; omega) (by omega) (size_madeCells _ _) (fun i' c' hc' => by
            rw [List.getElem?_replicate] at hc'
            split at hc'
            · rename_i hi
              simp at hc'
              subst hc'
              refine ⟨hzl, c2, fun j x hx => ?_⟩
              have hj : j < ei.size := by rw [← hzl]; exact (List.getElem?_eq_some_iff.1 hx).1
              have hlt : i' * ei.size + j < m.toNat * ei.size := row_pos (by omega) hj
              have e1 : (madeCells z.cells (m.toNat * ei.size)).getD (i' * ei.size + j) undef = z.cells.getD j undef := by
                have hzs : z.cells.size = ei.size := by rw [c1, hzl]
                have hmod : (i' * ei.size + j) % z.cells.size = j := by rw [hzs, Nat.mul_comm, Nat.mul_add_mod, Nat.mod_eq_of_lt hj]
                have hjz : j < z.cells.size := by omega
                rw [Array.getD_eq_getD_getElem?, Array.getD_eq_getD_getElem?]
                simp [madeCells, hlt, hmod, hjz]
              rw [e1]; exact c4 j x hx
            · cases hc')
          rw [hn] at s1 s2
          exact ⟨_, _, _, .inl (by simp only [execOp, ho, p1.int_inv, p2.int_inv, Sem.run_bind, hr, Result.andThen_ok, Sem.run_pure]; rfl), s1, s2, .own _ _ _ (by rw [← hs.len]; exact new_id _ _) rfl⟩
      · exact h.elim
    · exact h.elim
  · exact h.elim

/-- An object makes way for another one over the same block. -/
theorem renew {M0 : Nat → Prop} {σ : List Value} {w w' : World} (h : St M0 H σ w) {id g : Nat} {ob nb : Ob} {v v' : Value} (hi : H[id]? = some ob) (hv : σ[id]? = some v) (hl : live ob = true) (hk : blkOf v = some g) (hk' : blkOf v' = some g)
    (hos : w'.os = w.os) (htape : w'.tape = w.tape) (hout : w'.output = w.output) (hsize : w.heap.size = w'.heap.size) (hkeep : ∀ c, c ≠ g → w'.heap[c]? = w.heap[c]?)
    (ho : Ext H σ w (H.set id .dead ++ [nb]) (σ ++ [v']) w' → ObOk (Kof M0 (H.set id .dead ++ [nb]) (σ ++ [v']) w') (σ ++ [v']) w' nb v') :
    St M0 (H.set id .dead ++ [nb]) (σ ++ [v']) w' ∧ Ext H σ w (H.set id .dead ++ [nb]) (σ ++ [v']) w' := by
  have hlen := h.len
  have cases_ : ∀ (i : Nat) (o' : Ob) (u : Value), (H.set id .dead ++ [nb])[i]? = some o' → (σ ++ [v'])[i]? = some u → (o' = .dead ∧ i < H.length) ∨ (i ≠ id ∧ i < H.length ∧ H[i]? = some o' ∧ σ[i]? = some u) ∨ (o' = nb ∧ u = v' ∧ i = H.length) := by
    intro i o' u h1 h2
    rcases Nat.lt_trichotomy i H.length with hlt | hlt | hlt
    · rw [List.getElem?_append_left (by simpa using hlt)] at h1; rw [List.getElem?_append_left (by omega)] at h2
      rcases set_cases h1 with ⟨_, rfl⟩ | ⟨hne, k⟩
      · exact .inl ⟨rfl, hlt⟩
      · exact .inr (.inl ⟨hne, hlt, k, h2⟩)
    · rw [List.getElem?_append_right (by simp; omega)] at h1; rw [List.getElem?_append_right (by omega)] at h2
      rw [show i - (H.set id Ob.dead).length = 0 by simp; omega] at h1; rw [show i - σ.length = 0 by omega] at h2
      simp at h1 h2
      exact .inr (.inr ⟨h1.symm, h2.symm, hlt⟩)
    · rw [List.getElem?_eq_none (by simp; omega)] at h1; cases h1
  have hg : Mb H σ g := ⟨id, ob, v, hi, hl, hv, hk⟩
  have hx : Ext H σ w (H.set id .dead ++ [nb]) (σ ++ [v']) w' := ⟨hos, htape, hout, by omega, ⟨[v'], rfl⟩, fun b _ hm => hkeep b (fun e => hm (e ▸ hg)), fun b _ ⟨i, o', u, h1, h2, h3, h4⟩ => by
    rcases cases_ i o' u h1 h3 with ⟨rfl, _⟩ | ⟨_, _, k1, k2⟩ | ⟨rfl, rfl, _⟩
    · simp [live] at h2
    · exact ⟨i, o', u, k1, h2, k2, h4⟩
    · rw [hk'] at h4; cases h4; exact hg⟩
  refine ⟨h.step hx (by simp [hlen]) (fun i o' u h1 h2 => ?_) ?_, hx⟩
  · rcases cases_ i o' u h1 h2 with ⟨rfl, _⟩ | ⟨hne, _, k1, k2⟩ | ⟨rfl, rfl, _⟩
    · exact .inr trivial
    · exact .inl ⟨k1, k2, fun hl' b hb => hkeep b (fun e => h.dist i id o' ob u v g hne k1 hi hl' hl k2 hv (e ▸ hb) hk)⟩
    · exact .inr (ho hx)
  · intro i j o1 o2 v1 v2 b hij h1 h2 l1 l2 s1 s2 e1 e2
    rcases cases_ i o1 v1 h1 s1 with ⟨rfl, _⟩ | ⟨n1, _, k1, k2⟩ | ⟨rfl, rfl, hi'⟩
    · simp [live] at l1
    · rcases cases_ j o2 v2 h2 s2 with ⟨rfl, _⟩ | ⟨n2, _, m1, m2⟩ | ⟨rfl, rfl, hj⟩
      · simp [live] at l2
      · exact h.dist i j o1 o2 v1 v2 b hij k1 m1 l1 l2 k2 m2 e1 e2
      · rw [hk'] at e2; cases e2
        exact h.dist i id o1 ob v1 v _ n1 k1 hi l1 hl k2 hv e1 hk
    · rcases cases_ j o2 v2 h2 s2 with ⟨rfl, _⟩ | ⟨n2, _, m1, m2⟩ | ⟨rfl, rfl, hj⟩
      · simp [live] at l2
      · rw [hk'] at e1; cases e1
        exact h.dist j id o2 ob v2 v _ n2 m1 hi l2 hl m2 hv e2 hk
      · omega

/-! ### append -/
/-- The cells of the elements that are taken over. -/
theorem src_cells {M0 : Nat → Prop} {σ : List Value} {w : World} (hs : St M0 H σ w) {y : AV} {v : Value} (hv : Rv (Kof M0 H σ w) σ y v) {ds : List (List AV)} (hd : srcOf H y = some ds) {sz : Nat} (hpos : 0 < sz) (hc : allCells sz ds) :
    (v = .slice none 0 0 ∧ ds = []) ∨ ∃ (ad : Addr) (c : Nat) (news : List Value), v = .slice (some ad) ds.length c ∧ news.length = ds.length * sz ∧ (∀ j u, news[j]? = some u → w.cell? (ad.add j) = some u) ∧ (∀ u ∈ news, u.oneCell' = true) ∧
      ∀ i c j x, ds[i]? = some c → c[j]? = some x → Rv (Kof M0 H σ w) [] x (news.getD (i * sz + j) undef) := by
  have const : ∀ {v : Value}, Rv (Kof M0 H σ w) [] (.sl ds) v → (v = .slice none 0 0 ∧ ds = []) ∨ ∃ (ad : Addr) (c : Nat) (news : List Value), v = .slice (some ad) ds.length c ∧ news.length = ds.length * sz ∧ (∀ j u, news[j]? = some u → w.cell? (ad.add j) = some u) ∧ (∀ u ∈ news, u.oneCell' = true) ∧
      ∀ i c j x, ds[i]? = some c → c[j]? = some x → Rv (Kof M0 H σ w) [] x (news.getD (i * sz + j) undef) := by
    intro v hv
    rcases hv.sl_inv with ⟨e0, e1⟩ | ⟨a, cap, sz', val, e1, k1, k2, k3, k4, k5⟩
    · exact .inl ⟨e1, e0⟩
    · by_cases hnil : ds = []
      · refine .inr ⟨a, cap, [], e1, by simp [hnil], fun j u hj => by simp at hj, fun u hu => by simp at hu, fun i c j x hi => by simp [hnil] at hi⟩
      · have hsz : sz' = sz := by
          obtain ⟨c, hm⟩ := List.exists_mem_of_ne_nil _ hnil
          rw [← (k3 c hm).1]; exact (hc c hm).1
        subst hsz
        have get : ∀ k, k < ds.length * sz' → ((List.range (ds.length * sz')).map fun k => val (k / sz') (k % sz'))[k]? = some (val (k / sz') (k % sz')) := by
          intro k hk; simp [hk]
        refine .inr ⟨a, cap, (List.range (ds.length * sz')).map fun k => val (k / sz') (k % sz'), e1, by simp, fun j u hj => ?_, fun u hu => ?_, fun i c j x hi hx => ?_⟩
        · have hlt : j < ds.length * sz' := by have := (List.getElem?_eq_some_iff.1 hj).1; simpa using this
          rw [get j hlt] at hj
          simp at hj
          subst hj
          have hq : j / sz' < ds.length := Nat.div_lt_of_lt_mul (by rw [Nat.mul_comm]; exact hlt)
          have := (k5 (j / sz') (j % sz') hq (Nat.mod_lt _ hpos)).2
          rwa [Nat.mul_comm, Nat.div_add_mod] at this
        · obtain ⟨k, hk, rfl⟩ := List.mem_map.1 hu
          have hk' : k < ds.length * sz' := by simpa using hk
          have hq : k / sz' < ds.length := Nat.div_lt_of_lt_mul (by rw [Nat.mul_comm]; exact hk')
          have hm : k % sz' < sz' := Nat.mod_lt _ hpos
          have hc1 : ds[k / sz']? = some ds[k / sz'] := List.getElem?_eq_getElem hq
          have hcl := (k3 _ (List.mem_of_getElem? hc1))
          have hx1 : (ds[k / sz'])[k % sz']? = some ((ds[k / sz'])[k % sz']'(by rw [hcl.1]; exact hm)) := List.getElem?_eq_getElem _
          exact (k4 _ _ _ _ hc1 hx1).oneCell ((List.all_eq_true.1 hcl.2) _ (List.mem_of_getElem? hx1))
        · have hi' : i < ds.length := (List.getElem?_eq_some_iff.1 hi).1
          have hj' : j < sz' := by rw [← (k3 c (List.mem_of_getElem? hi)).1]; exact (List.getElem?_eq_some_iff.1 hx).1
          have hlt := row_pos hi' hj'
          have hdiv : (i * sz' + j) / sz' = i := by rw [Nat.mul_comm, Nat.mul_add_div hpos, Nat.div_eq_of_lt hj']; omega
          have hmod : (i * sz' + j) % sz' = j := by rw [Nat.mul_comm, Nat.mul_add_mod, Nat.mod_eq_of_lt hj']
          rw [List.getD_eq_getElem?_getD, get _ hlt, hdiv, hmod]
          exact k4 _ _ _ _ hi hx
  unfold srcOf at hd
  split at hd
  · obtain rfl := Option.some.inj hd
    exact const (hv.closed rfl)
  · obtain rfl := Option.some.inj hd
    exact .inl ⟨hv.nils_inv, rfl⟩
  · rename_i id
    unfold rowOf at hd
    split at hd
    · rename_i rt rs es hH
      obtain rfl := Option.some.inj hd
      obtain ⟨q0, g, cap, cur, e1, q1, q2, q3, q4, q5⟩ := hs.ok id _ _ hH hv.own_inv
      have hfit : es.length * rs ≤ cur.size := by rw [q4]; exact Nat.mul_le_mul_right _ q2
      by_cases hnil : es = []
      · subst hnil
        exact .inr ⟨_, cap, [], e1, by simp, fun j u hj => by simp at hj, fun u hu => by simp at hu, fun i c j x hi => by simp at hi⟩
      · have hsz : rs = sz := by
          obtain ⟨c, hm⟩ := List.exists_mem_of_ne_nil _ hnil
          obtain ⟨i, hi⟩ := List.getElem?_of_mem hm
          rw [← (q5 i c hi).1]; exact (hc c hm).1
        subst hsz
        refine .inr ⟨_, cap, cur.toList.take (es.length * rs), e1, by simp; omega, fun j u hj => ?_, fun u hu => ?_, fun i c j x hi hx => ?_⟩
        · have hlt : j < es.length * rs := by have := (List.getElem?_eq_some_iff.1 hj).1; simp at this; omega
          rw [List.getElem?_take, if_pos hlt] at hj
          have hj' : cur[j]? = some u := by simpa using hj
          rw [Addr.add_lit, Nat.zero_add, getD_cell q1 (by omega)]
          simp [hj']
        · obtain ⟨k, hk⟩ := List.getElem?_of_mem hu
          have hlt : k < es.length * rs := by have := (List.getElem?_eq_some_iff.1 hk).1; simp at this; omega
          rw [List.getElem?_take, if_pos hlt] at hk
          have hq : k / rs < es.length := Nat.div_lt_of_lt_mul (by rw [Nat.mul_comm]; exact hlt)
          have hm : k % rs < rs := Nat.mod_lt _ hpos
          have hc1 : es[k / rs]? = some es[k / rs] := List.getElem?_eq_getElem hq
          obtain ⟨m1, m2, m3⟩ := q5 _ _ hc1
          have hx1 : (es[k / rs])[k % rs]? = some ((es[k / rs])[k % rs]'(by rw [m1]; exact hm)) := List.getElem?_eq_getElem _
          have := m3 _ _ hx1
          rw [Nat.mul_comm, Nat.div_add_mod] at this
          have e : cur.getD k undef = u := by
            have hk' : cur[k]? = some u := by simpa using hk
            simp [hk']
          rw [e] at this
          exact this.oneCell ((List.all_eq_true.1 m2) _ (List.mem_of_getElem? hx1))
        · have hi' : i < es.length := (List.getElem?_eq_some_iff.1 hi).1
          have hj' : j < rs := by rw [← (q5 i c hi).1]; exact (List.getElem?_eq_some_iff.1 hx).1
          have hlt := row_pos hi' hj'
          have := (q5 i c hi).2.2 j x hx
          have e : (cur.toList.take (es.length * rs)).getD (i * rs + j) undef = cur.getD (i * rs + j) undef := by
            rw [List.getD_eq_getElem?_getD, List.getElem?_take, if_pos hlt]; simp
          rw [e]; exact this
    · rename_i es hH
      obtain rfl := Option.some.inj hd
      exact const (hs.ok id _ _ hH hv.own_inv)
    · cases hd
  · cases hd

theorem sem_append (hT : TOk P T) {t : TypeId} {x y : Operand} (ho : o.op = .call { callee := .builtin .append, args := #[x, y], argTypes := #[t, t] }) (h : aappend T t (ev x) (ev y) H K) : ∃ r H', OpSem P o ev H r H' ∧ K r H' := by
  unfold aappend at h
  cases hti : T t with
  | none => simp [hti] at h
  | some i =>
    have hud := (hT t i hti).und
    simp only [hti] at h
    split at h
    · rename_i e hk
      rw [hk] at hud
      split at h
      · rename_i ei hei
        have hte := hT e ei hei
        cases hb : Nat.blt 0 ei.size && Nat.beq ei.zero.length ei.size with
        | false => rw [hb] at h; exact h.elim
        | true =>
          rw [hb] at h
          simp only [cond_true] at h
          rw [Bool.and_eq_true] at hb
          have hpos : 0 < ei.size := cast Nat.blt_eq hb.1
          have hzl := Nat.eq_of_beq_eq_true hb.2
          obtain ⟨pi, z, z1, z2, z3, z4, z5⟩ := hte.get
          have hzs : z.cells.size = ei.size := by rw [← Array.length_toList, z5]; simp [hzl]
          have hud' : P.underlying t = some (.slice e) := hud
          have runA : ∀ {w : World} {ρ : Operand → Value} {u v r : Value} {w' : World}, ρ x = u → ρ y = v → (Builtin.append_ #[t, t] o.type #[u, v]).run P w = .ok r w' → (execOp ρ o).run P w = .ok (.value r) w' := by
            intro w ρ u v r w' hx hy hr
            simp only [execOp, ho, resolve, invoke, builtin, Sem.run_bind, Sem.run_pure, Result.andThen_ok, List.map_toArray, List.map_cons, List.map_nil, hx, hy, hr]
          have appNil : ∀ (w : World) (a : Option Addr) (n c : Nat), n ≤ c → (Builtin.append_ #[t, t] o.type #[.slice a n c, .slice none 0 0]).run P w = .ok (.slice a n c) w := by
            intro w a n c hnc
            cases a <;> simp [Builtin.append_, run_underlying hud', sizeOf, typeInfo, z1, Builtin.lenOf, hnc, Builtin.firstCells, storeCells]
          split at h
          · rename_i ds hd
            split at h
            · rename_i hx
              obtain ⟨hac, hnil, hcons⟩ := h
              by_cases hdn : ds = []
              · refine ⟨_, _, .still fun M0 σ w ρ hs hop => ?_, hnil hdn⟩
                have p1 := hop x (by simp [ho, Op.operands, Call.operands]); rw [hx] at p1
                have p2 := hop y (by simp [ho, Op.operands, Call.operands])
                rcases src_cells hs p2 hd hpos hac with ⟨e1, _⟩ | ⟨ad, c, news, e1, _⟩
                · exact ⟨_, runA p1.nils_inv e1 (appNil w _ _ _ (Nat.le_refl _)), .nils _⟩
                · subst hdn
                  refine ⟨.slice none 0 0, runA p1.nils_inv e1 ?_, .nils _⟩
                  simp [Builtin.append_, run_underlying hud', sizeOf, typeInfo, z1, Builtin.lenOf, Builtin.firstCells, loadCells, loadCellsFrom]
              · obtain ⟨hby, h63, h⟩ := hcons hdn
                rw [forceN_eq] at h
                refine ⟨_, _, fun M0 σ w ρ hs hop => ?_, h⟩
                have p1 := hop x (by simp [ho, Op.operands, Call.operands]); rw [hx] at p1
                have p2 := hop y (by simp [ho, Op.operands, Call.operands])
                rcases src_cells hs p2 hd hpos hac with ⟨_, e0⟩ | ⟨ad, c, news, e1, n1, n2, n3, n4⟩
                · exact absurd e0 hdn
                · have hm : 0 < ds.length := List.length_pos_iff.2 hdn
                  have hr := run_append_nil (P := P) w t o.type e pi z hud' z1 z4 ad ds.length c news (by rw [z2]; exact n1) n2 hm (by omega) (by rw [z3]; omega)
                  have hcap := grownCap_ge w ds.length 0 e
                  have hcapm := grownCap_le_maxLen w ds.length 0 e (by unfold maxLen; omega)
                  have hB : Below w.heap.size w (w.drew.alloc (.cells (news.toArray ++ Builtin.zeroCells z.cells (grownCap w ds.length 0 e - ds.length)) e)) := ((Below.refl _ w).drew).alloc (Nat.le_refl _) _
                  obtain ⟨s1, s2⟩ := push_row hs hB (es := ds) (cap := grownCap w ds.length 0 e) (t := e) (cur := news.toArray ++ Builtin.zeroCells z.cells (grownCap w ds.length 0 e - ds.length)) hpos (heap_alloc w.drew _) hcap (by unfold maxLen at hcapm; omega) (by
                    simp only [Array.size_append, List.size_toArray, n1, size_zeroCells, hzs, ← Nat.add_mul]; congr 1; omega) (fun i c hc => by
                    obtain ⟨m1, m2⟩ := hac c (List.mem_of_getElem? hc)
                    refine ⟨m1, cells_of_closed m2, fun j x hx => ?_⟩
                    have hlt := row_pos (List.getElem?_eq_some_iff.1 hc).1 (show j < ei.size by rw [← m1]; exact (List.getElem?_eq_some_iff.1 hx).1)
                    have := n4 i c j x hc hx
                    have e' : (news.toArray ++ Builtin.zeroCells z.cells (grownCap w ds.length 0 e - ds.length)).getD (i * ei.size + j) undef = news.getD (i * ei.size + j) undef := by
                      rw [Array.getD_eq_getD_getElem?, Array.getElem?_append_left (by simp [n1]; exact hlt), List.getD_eq_getElem?_getD]; simp
                    rw [e']; exact this)
                  exact ⟨_, _, _, .inl (runA p1.nils_inv e1 hr), s1, s2, .own _ _ _ (by rw [← hs.len]; exact new_id _ _) rfl⟩
            · rename_i id hx
              split at h
              · rename_i rt rs es hH
                cases hbb : Nat.beq rt e && Nat.beq rs ei.size with
                | false => rw [hbb] at h; exact h.elim
                | true =>
                  rw [hbb] at h
                  simp only [cond_true] at h
                  rw [Bool.and_eq_true] at hbb
                  have er := Nat.eq_of_beq_eq_true hbb.1
                  have ers := Nat.eq_of_beq_eq_true hbb.2
                  subst er
                  subst ers
                  obtain ⟨hac, hby, h63, h⟩ := h
                  rw [forceN_eq] at h
                  refine ⟨_, _, fun M0 σ w ρ hs hop => ?_, h⟩
                  have p1 := hop x (by simp [ho, Op.operands, Call.operands]); rw [hx] at p1
                  have p2 := hop y (by simp [ho, Op.operands, Call.operands])
                  have hσ := p1.own_inv
                  obtain ⟨q0, g, cap, cur, f1, q1, q2, q3, q4, q5⟩ := hs.ok id _ _ hH hσ
                  rw [f1] at hσ
                  have hnl : (es ++ ds).length = es.length + ds.length := by simp
                  have hfit : es.length * ei.size ≤ cur.size := by rw [q4]; exact Nat.mul_le_mul_right _ q2
                  -- what the new row holds, given where its cells come from
                  have fill : ∀ {K1 : Addr → Value → Prop} {nc : Array Value} (news : List Value), (∀ i c j x, ds[i]? = some c → c[j]? = some x → Rv K1 [] x (news.getD (i * ei.size + j) undef)) →
                      (∀ k, k < es.length * ei.size → nc.getD k undef = cur.getD k undef) → (∀ k, k < ds.length * ei.size → nc.getD (es.length * ei.size + k) undef = news.getD k undef) → (∀ i c j x, es[i]? = some c → c[j]? = some x → Rv K1 [] x (cur.getD (i * ei.size + j) undef)) →
                      ∀ i c, (es ++ ds)[i]? = some c → c.length = ei.size ∧ c.all isCell = true ∧ ∀ j x, c[j]? = some x → Rv K1 [] x (nc.getD (i * ei.size + j) undef) := by
                    intro K1 nc news g1 g2 g3 g4 i c hc
                    by_cases hi : i < es.length
                    · rw [List.getElem?_append_left hi] at hc
                      obtain ⟨m1, m2, _⟩ := q5 i c hc
                      refine ⟨m1, m2, fun j x hx => ?_⟩
                      rw [g2 _ (row_pos hi (by rw [← m1]; exact (List.getElem?_eq_some_iff.1 hx).1))]
                      exact g4 i c j x hc hx
                    · rw [List.getElem?_append_right (by omega)] at hc
                      obtain ⟨m1, m2⟩ := hac c (List.mem_of_getElem? hc)
                      refine ⟨m1, cells_of_closed m2, fun j x hx => ?_⟩
                      have e1 : i * ei.size + j = es.length * ei.size + ((i - es.length) * ei.size + j) := by
                        have : i * ei.size = es.length * ei.size + (i - es.length) * ei.size := by rw [← Nat.add_mul]; congr 1; omega
                        omega
                      rw [e1, g3 _ (row_pos (List.getElem?_eq_some_iff.1 hc).1 (by rw [← m1]; exact (List.getElem?_eq_some_iff.1 hx).1))]
                      exact g1 _ c j x hc hx
                  rcases src_cells hs p2 hd hpos hac with ⟨e1, e0⟩ | ⟨ad, c, news, e1, n1, n2, n3, n4⟩
                  · subst e0
                    obtain ⟨s1, s2⟩ := renew hs hH hσ rfl rfl (v' := .slice (some ⟨g, 0, none⟩) es.length cap) (nb := .row rt ei.size (es ++ [])) rfl (w' := w) rfl rfl rfl rfl (fun _ _ => rfl) (fun hx' => ⟨hpos, g, cap, cur, by simp, q1, by simpa using q2, q3, q4, fun i c hc => by
                      rw [List.append_nil] at hc
                      exact ⟨(q5 i c hc).1, (q5 i c hc).2.1, fun j x hx => hx'.rv0 ((q5 i c hc).2.2 j x hx)⟩⟩)
                    exact ⟨_, _, _, .inl (runA f1 e1 (appNil w _ _ _ q2)), s1, s2, .own _ _ _ (by rw [← hs.len]; exact new_id _ _) rfl⟩
                  · by_cases hroom : es.length + ds.length ≤ cap
                    · have hr := run_append_room (P := P) w t o.type rt pi hud' z1 g es.length cap cur q1 ad ds.length c news (by rw [z2]; exact n1) n2 n3 hroom (by
                        rw [z2, n1, ← Nat.add_mul, q4]; exact Nat.mul_le_mul_right _ hroom)
                      rw [z2] at hr
                      obtain ⟨nw, hnw⟩ : ∃ nw, nw = (cur.toList.take (es.length * ei.size) ++ news ++ cur.toList.drop (es.length * ei.size + news.length)).toArray := ⟨_, rfl⟩
                      rw [← hnw] at hr
                      have hle : es.length * ei.size + news.length ≤ cur.toList.length := by
                        have h1 : (es.length + ds.length) * ei.size ≤ cap * ei.size := Nat.mul_le_mul_right _ hroom
                        rw [Nat.add_mul] at h1
                        have e2 : cur.toList.length = cur.size := by simp
                        omega
                      have hget : ∀ k, nw.getD k undef = if es.length * ei.size ≤ k ∧ k < es.length * ei.size + news.length then news.getD (k - es.length * ei.size) undef else cur.toList.getD k undef := fun k => by
                        rw [hnw]; exact spliceV_get _ _ hle
                      obtain ⟨s1, s2⟩ := renew hs hH hσ rfl rfl (v' := .slice (some ⟨g, 0, none⟩) (es.length + ds.length) cap) (nb := .row rt ei.size (es ++ ds)) rfl (w' := w.setRow g nw) (setRow_os w g _) (setRow_tape w g _) (setRow_output w g _) (by simp) (fun c hc => setRow_other w g c _ hc)
                        (fun hx' => ⟨hpos, g, cap, nw, by rw [hnl], setRow_heap w g cur _ rt _ q1, by rw [hnl]; exact hroom, q3, by rw [hnw]; simp at hle ⊢; omega, fill news (fun i c j x hc hx => hx'.rv0 (n4 i c j x hc hx)) (fun k hk => by
                          rw [hget, if_neg (by omega)]; simp) (fun k hk => by
                          rw [hget, if_pos (by omega)]; congr 1; omega) (fun i c j x hc hx => hx'.rv0 ((q5 i c hc).2.2 j x hx))⟩)
                      exact ⟨_, _, _, .inl (runA f1 e1 hr), s1, s2, .own _ _ _ (by rw [← hs.len]; simp) rfl⟩
                    · have hxl : (cur.toList.take (es.length * ei.size)).length = es.length * ei.size := by simp; omega
                      have hr := run_append_grow (P := P) w t o.type rt pi z hud' z1 z4 ⟨g, 0, none⟩ es.length cap (cur.toList.take (es.length * ei.size)) (by rw [z2]; exact hxl) (fun j u hj => by
                        have hlt : j < es.length * ei.size := by have := (List.getElem?_eq_some_iff.1 hj).1; simp at this; omega
                        rw [List.getElem?_take, if_pos hlt] at hj
                        have hj' : cur[j]? = some u := by simpa using hj
                        rw [Addr.add_lit, Nat.zero_add, getD_cell q1 (by omega)]
                        simp [hj']) ad ds.length c news (by rw [z2]; exact n1) n2 (by omega) (by omega) (growslice_fits (by omega) (by rw [z3]; exact hby))
                      have hcap := grownCap_ge w (es.length + ds.length) cap rt
                      have hcapm := grownCap_le_maxLen w (es.length + ds.length) cap rt (by unfold maxLen; omega)
                      obtain ⟨nc, hnc⟩ : ∃ nc, nc = (cur.toList.take (es.length * ei.size)).toArray ++ news.toArray ++ Builtin.zeroCells z.cells (grownCap w (es.length + ds.length) cap rt - (es.length + ds.length)) := ⟨_, rfl⟩
                      rw [← hnc] at hr
                      have hk1 : ∀ k, k < es.length * ei.size → nc.getD k undef = cur.getD k undef := fun k hk => by
                        rw [hnc, Array.getD_eq_getD_getElem?, Array.getElem?_append_left (by simp; omega), Array.getElem?_append_left (by simp; omega), Array.getD_eq_getD_getElem?]
                        rw [List.getElem?_toArray, List.getElem?_take, if_pos hk]; simp
                      have hk2 : ∀ k, k < ds.length * ei.size → nc.getD (es.length * ei.size + k) undef = news.getD k undef := fun k hk => by
                        rw [hnc, Array.getD_eq_getD_getElem?, Array.getElem?_append_left (by simp [n1]; omega), Array.getElem?_append_right (by simp; omega), List.getElem?_toArray, List.getD_eq_getElem?_getD]
                        congr 2; simp; omega
                      obtain ⟨k1, k2⟩ := hs.write (w' := w) hH hσ rfl rfl rfl rfl rfl rfl (fun _ _ => rfl) (o' := .dead) (fun _ => trivial)
                      have hB : Below w.heap.size w (w.drew.alloc (.cells nc rt)) := ((Below.refl _ w).drew).alloc (Nat.le_refl _) _
                      obtain ⟨s1, s2⟩ := push_row k1 hB (es := es ++ ds) (cap := grownCap w (es.length + ds.length) cap rt) (t := rt) (cur := nc) hpos (heap_alloc w.drew _) (by rw [hnl]; exact hcap) (by unfold maxLen at hcapm; omega) (by
                        rw [hnc]
                        simp only [Array.size_append, List.size_toArray, hxl, n1, size_zeroCells, hzs, ← Nat.add_mul]; congr 1; omega)
                        (fill news (fun i c j x hc hx => k2.rv0 (n4 i c j x hc hx)) hk1 hk2 (fun i c j x hc hx => k2.rv0 ((q5 i c hc).2.2 j x hx)))
                      rw [hnl] at s1 s2
                      exact ⟨_, _, _, .inl (runA f1 e1 hr), s1, k2.trans s2, .own _ _ _ (by rw [← hs.len]; simp) rfl⟩
              · exact h.elim
            · exact h.elim
          · exact h.elim
      · exact h.elim
    · exact h.elim
end
end Go.Ve
