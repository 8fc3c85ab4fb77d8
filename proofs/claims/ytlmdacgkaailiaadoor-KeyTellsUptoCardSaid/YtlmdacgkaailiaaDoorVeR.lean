/- An abstract weakest precondition, eighteenth text: what an argument that reads as data is to the walk. -/
import Derived.Test.YtlmdacgkaailiaaDoorVeQ
namespace Go.Ve
open Go.ChangeShapes Go.WideShapes Go.ChangeAt Go.RowKit

def kOf (T : TT) (t : TypeId) : Option TK := (T t).map (·.k)
mutual
/-- Cells that read as data of a type. -/
inductive Wf (T : TT) (B : Nat) : TypeId → List AV → Prop
  | int {t : TypeId} {k : IntKind} {n : Int} (ht : kOf T t = some (.int k)) (hw : (Lit.int k n).wf = true) : Wf T B t [.int k n]
  | bool {t : TypeId} {b : Bool} (ht : kOf T t = some .bool) : Wf T B t [.bool b]
  | str {t : TypeId} {s : Bs} (ht : kOf T t = some .str) (hs : s.length ≤ B) : Wf T B t [.str s]
  | nils {t e : TypeId} (ht : kOf T t = some (.slice e)) : Wf T B t [.nils]
  | sl {t e : TypeId} {es : List (List AV)} (ht : kOf T t = some (.slice e)) (hl : es.length ≤ B) (h : ∀ c ∈ es, Wf T B e c) : Wf T B t [.sl es]
  | struct {t : TypeId} {fs : List (Nat × TypeId)} {xs : List AV} (ht : kOf T t = some (.struct fs)) (h : WfL T B (fs.map (·.2)) xs) : Wf T B t xs
inductive WfL (T : TT) (B : Nat) : List TypeId → List AV → Prop
  | nil : WfL T B [] []
  | cons {t : TypeId} {ts : List TypeId} {a b : List AV} (h : Wf T B t a) (r : WfL T B ts b) : WfL T B (t :: ts) (a ++ b)
end

/-- The fields follow each other without a gap. -/
def tile (T : TT) : Nat → List (Nat × TypeId) → Option Nat
  | off, [] => some off
  | off, (o, t) :: r => bif Nat.beq o off then (match T t with | some i => tile T (off + i.size) r | none => none) else none
/-- A type whose data are numbers, bools, texts, lists and structs of such. -/
def rdB (T : TT) : Nat → TypeId → Bool
  | 0, _ => false
  | d + 1, t => match T t with
    | none => false
    | some i => match i.k with
      | .int _ => true
      | .bool => true
      | .str => true
      | .slice e => (match T e with | some ei => Nat.blt 0 ei.size && rdB T d e | none => false)
      | .struct fs => (fs.all fun f => rdB T d f.2) && (match tile T 0 fs with | some n => Nat.beq n i.size | none => false)
      | _ => false

theorem choose_list {α : Type} {p : Nat → α → Prop} : ∀ (n : Nat), (∀ i, i < n → ∃ x, p i x) → ∃ l : List α, l.length = n ∧ ∀ i x, l[i]? = some x → p i x
  | 0, _ => ⟨[], rfl, fun i x h => by simp at h⟩
  | n + 1, h => by
    obtain ⟨l, hl, hp⟩ := choose_list n fun i hi => h i (by omega)
    obtain ⟨x, hx⟩ := h n (by omega)
    refine ⟨l ++ [x], by simp [hl], fun i y hy => ?_⟩
    by_cases hi : i < n
    · rw [List.getElem?_append_left (by omega)] at hy; exact hp i y hy
    · rw [List.getElem?_append_right (by omega)] at hy
      by_cases hin : i = n
      · subst hin
        simp [hl] at hy
        subst hy; exact hx
      · rw [List.getElem?_eq_none (by simp; omega)] at hy; cases hy

section
variable {H : Type} {enc : TypeId × Value → H} {P : Program} {T : TT} {B : Nat} {W : World}

/-- A bound on texts and lists, from what is known of the data. -/
structure OkP (B : Nat) (ok : DataW H → Prop) : Prop where
  str : ∀ b, ok (.lit (.string b)) → b.length ≤ 9223372036854775807 → b.length ≤ B
  sl : ∀ e s, ok (.slice e s) → e.length ≤ 9223372036854775807 → e.length ≤ B ∧ ∀ d ∈ e, ok d
  agg : ∀ e, ok (.agg e) → ∀ d ∈ e, ok d
theorem okAll : OkP (H := H) 9223372036854775807 (fun _ => True) := ⟨fun _ _ h => h, fun _ _ _ h => ⟨h, fun _ _ => trivial⟩, fun _ _ _ _ => trivial⟩

theorem TyOk.cellsOf {t : TypeId} {i : TI} (h : TyOk P t i) : P.cellsOf t = i.size := by
  obtain ⟨pi, z, h1, h2, _⟩ := h.get
  simp [Program.cellsOf, h1, h2]

def Opens (T : TT) (B : Nat) (W : World) (t : TypeId) (cs : List Value) : Prop := ∃ xs : List AV, Rvs (Cst none0 W) [] xs cs ∧ xs.all isCell = true ∧ Wf T B t xs
def OpensL (T : TT) (B : Nat) (W : World) (ts : List TypeId) (cs : List Value) : Prop := ∃ xs : List AV, Rvs (Cst none0 W) [] xs cs ∧ xs.all isCell = true ∧ WfL T B ts xs

theorem opens_tile (hT : TOk P T) {cs : List Value} : ∀ (L : List (Nat × TypeId)) (off : Nat), tile T off L = some cs.length → off ≤ cs.length → (∀ p ∈ L, Opens T B W p.2 ((cs.drop p.1).take (P.cellsOf p.2))) → OpensL T B W (L.map (·.2)) (cs.drop off)
  | [], off, ht, _, _ => by
    simp only [tile, Option.some.injEq] at ht
    subst ht
    rw [List.drop_length]
    exact ⟨[], ⟨rfl, fun i x h => by simp at h⟩, rfl, .nil⟩
  | (o, t) :: L, off, ht, hle, h => by
    simp only [tile] at ht
    cases hb : Nat.beq o off with
    | false => rw [hb] at ht; cases ht
    | true =>
      rw [hb] at ht
      have := Nat.eq_of_beq_eq_true hb
      subst this
      simp only [cond_true] at ht
      cases hi : T t with
      | none => rw [hi] at ht; cases ht
      | some i =>
        rw [hi] at ht
        have hc := (hT t i hi).cellsOf
        obtain ⟨xs, h1, h2, h3⟩ := h (o, t) List.mem_cons_self
        have hle2 : o + i.size ≤ cs.length := by
          have mono : ∀ (L : List (Nat × TypeId)) (a b : Nat), tile T a L = some b → a ≤ b := by
            intro L
            induction L with
            | nil => intro a b h; simp only [tile, Option.some.injEq] at h; omega
            | cons p L ih =>
              intro a b h
              obtain ⟨o', t'⟩ := p
              simp only [tile] at h
              cases hb' : Nat.beq o' a with
              | false => rw [hb'] at h; cases h
              | true =>
                rw [hb'] at h
                simp only [cond_true] at h
                cases hi' : T t' with
                | none => rw [hi'] at h; cases h
                | some i' => rw [hi'] at h; have := ih _ _ h; omega
          exact mono _ _ _ ht
        obtain ⟨ys, k1, k2, k3⟩ := opens_tile hT L (o + i.size) ht hle2 fun p hp => h p (List.mem_cons_of_mem _ hp)
        refine ⟨xs ++ ys, ?_, by rw [List.all_append, h2, k2]; rfl, .cons h3 k3⟩
        have e : cs.drop o = (cs.drop o).take (P.cellsOf t) ++ cs.drop (o + i.size) := by
          rw [hc, ← List.drop_drop, List.take_append_drop]
        rw [e]
        exact h1.append k1

theorem opens (hT : TOk P T) {ok : DataW H → Prop} (hok : OkP B ok) : ∀ (d : Nat) (t : TypeId), rdB T d t = true → ∀ (base : Nat) (sp : Nat → Bool) (held : Bool) (fuel : Nat) (cs : List Value) (y : DataW H × List MemPlace), DataW.trod enc P W base sp held fuel t cs = some y → ok y.1 → Opens T B W t cs
  | 0, t, h, _, _, _, _, _, _, _, _ => by cases h
  | d + 1, t, h, base, sp, held, fuel, cs, y, hy, ho => by
    simp only [rdB] at h
    cases hi : T t with
    | none => rw [hi] at h; cases h
    | some i =>
      rw [hi] at h
      simp only at h
      have ht := hT t i hi
      have hu := ht.und
      have hk : kOf T t = some i.k := by simp [kOf, hi]
      cases hik : i.k with
      | int k =>
        rw [hik] at hu hk
        obtain ⟨n, rfl, _, hw⟩ := DataW.trod_int hu hy
        exact ⟨[.int k n], ⟨rfl, fun j x hx => by
          cases j with
          | zero => cases hx; exact .int _ _ _
          | succ j => simp at hx⟩, rfl, .int hk hw⟩
      | bool =>
        rw [hik] at hu hk
        obtain ⟨b, rfl, _⟩ := DataW.trod_bool hu hy
        exact ⟨[.bool b], ⟨rfl, fun j x hx => by
          cases j with
          | zero => cases hx; exact .bool _ _
          | succ j => simp at hx⟩, rfl, .bool hk⟩
      | str =>
        rw [hik] at hu hk
        obtain ⟨s, rfl, rfl, hw⟩ := DataW.trod_string hu hy
        refine ⟨[.str s.data.toList], ⟨rfl, fun j x hx => ?_⟩, rfl, .str hk (hok.str _ ho (by
          have h9 : s.size ≤ 2 ^ 63 - 1 := hw
          have e9 : s.data.toList.length = s.size := rfl
          omega))⟩
        cases j with
        | zero => cases hx; exact .str _ _
        | succ j => simp at hx
      | slice e =>
        rw [hik] at hu hk h
        simp only at h
        cases hei : T e with
        | none => rw [hei] at h; cases h
        | some ei =>
          rw [hei] at h
          simp only [Bool.and_eq_true] at h
          have hsz : 0 < ei.size := Nat.blt_eq.mp h.1
          have hc := (hT e ei hei).cellsOf
          rcases DataW.trod_slice hu hy with ⟨rfl, _⟩ | ⟨a, len, cap, elems, rest, n, _, rfl, rfl, hb, hl, hm, hlen, hel, _, _⟩
          · exact ⟨[.nils], ⟨rfl, fun j x hx => by
              cases j with
              | zero => cases hx; exact .nils _
              | succ j => simp at hx⟩, rfl, .nils hk⟩
          · have hm' : cap ≤ 9223372036854775807 := by unfold maxLen at hm; omega
            obtain ⟨hlB, hoe⟩ := hok.sl _ _ ho (by simp; omega)
            have each : ∀ i, i < len → ∃ c : List AV, ∃ vs, W.cells? base (a.add (i * ei.size)) ei.size = some vs ∧ Rvs (Cst none0 W) [] c vs ∧ c.all isCell = true ∧ Wf T B e c := by
              intro i hi
              have h1 := hel i hi
              rw [List.getElem?_eq_getElem (by omega), hc, Option.bind_eq_some_iff] at h1
              obtain ⟨vs, h2, h3⟩ := h1
              obtain ⟨xs, k1, k2, k3⟩ := opens hT hok d e h.2 base sp held n vs _ h3 (hoe _ (List.mem_map.2 ⟨_, List.getElem_mem (by omega), rfl⟩))
              exact ⟨xs, vs, h2, k1, k2, k3⟩
            obtain ⟨es, h1, h2⟩ := choose_list len each
            refine ⟨[.sl es], ⟨rfl, fun j x hx => ?_⟩, rfl, .sl hk (by simp at hlB; omega) fun c hc' => ?_⟩
            · cases j with
              | succ j => simp at hx
              | zero =>
                cases hx
                show Rv _ _ _ (Value.slice (some a) len cap)
                rw [← h1]
                have cell : ∀ i c, es[i]? = some c → ∀ j, j < ei.size → ∃ u, W.cell? (a.add (i * ei.size + j)) = some u ∧ ∀ x, c[j]? = some x → Rv (Cst none0 W) [] x u := by
                  intro i c hc' j hj
                  obtain ⟨vs, q1, q2, q3, q4⟩ := h2 i c hc'
                  obtain ⟨_, r1, r2⟩ := World.cells?_some q1
                  have := r2 j hj
                  rw [Addr.add_add] at this
                  have hj' : j < vs.length := by omega
                  rw [List.getElem?_eq_getElem hj'] at this
                  refine ⟨_, this, fun x hx => ?_⟩
                  have hr := q2.2 j x hx
                  rwa [List.getD_eq_getElem?_getD, List.getElem?_eq_getElem hj'] at hr
                refine .sl _ es a cap ei.size (fun i j => (W.cell? (a.add (i * ei.size + j))).getD undef) (by omega) (by omega) (fun c hc' => ?_) (fun i j c x hc' hx => ?_) (fun i j hi hj => ?_)
                · obtain ⟨i, hi⟩ := List.getElem?_of_mem hc'
                  obtain ⟨vs, q1, q2, q3, q4⟩ := h2 i c hi
                  obtain ⟨_, r1, _⟩ := World.cells?_some q1
                  exact ⟨by rw [← q2.1, r1], q3⟩
                · obtain ⟨vs, q1, q2, q3, q4⟩ := h2 i c hc'
                  obtain ⟨_, r1, _⟩ := World.cells?_some q1
                  have hj : j < ei.size := by have := (List.getElem?_eq_some_iff.1 hx).1; have := q2.1; omega
                  obtain ⟨u, hu1, hu2⟩ := cell i c hc' j hj
                  rw [hu1]; exact hu2 x hx
                · obtain ⟨u, hu1, _⟩ := cell i _ (List.getElem?_eq_getElem hi) j hj
                  rw [hu1]; exact cst0 hu1
            · obtain ⟨i, hi⟩ := List.getElem?_of_mem hc'
              obtain ⟨vs, _, _, _, q4⟩ := h2 i c hi
              exact q4
      | struct fs =>
        rw [hik] at hu hk h
        simp only [Bool.and_eq_true] at h
        obtain ⟨fields, hu1, hu2, _⟩ := hu
        obtain ⟨xs, n, _, rfl, hlen, _, hf⟩ := DataW.trod_struct hu1 hy
        have hoe := hok.agg _ ho
        have hc := ht.cellsOf
        have htile : tile T 0 fs = some cs.length := by
          cases htl : tile T 0 fs with
          | none => rw [htl] at h; cases h.2
          | some m => rw [htl] at h; rw [hlen, hc, Nat.eq_of_beq_eq_true h.2]
        obtain ⟨zs, k1, k2, k3⟩ := opens_tile (W := W) hT fs 0 htile (Nat.zero_le _) fun p hp => by
          rw [← hu2, List.mem_map] at hp
          obtain ⟨f, hf', rfl⟩ := hp
          obtain ⟨j, hj⟩ := List.getElem?_of_mem hf'
          have hj' : fields[j]? = some f := by simpa using hj
          have := hf j f hj'
          have hlt : j < xs.length := by
            have := (Array.getElem?_eq_some_iff.1 hj').1
            omega
          rw [List.getElem?_eq_getElem hlt] at this
          have hr : rdB T d f.type = true := (List.all_eq_true.1 h.1) (f.offset, f.type) (by rw [← hu2]; exact List.mem_map.2 ⟨f, hf', rfl⟩)
          exact opens hT hok d f.type hr base sp held n _ _ this (hoe _ (List.mem_map.2 ⟨_, List.getElem_mem hlt, rfl⟩))
        exact ⟨zs, by simpa using k1, k2, .struct hk k3⟩
      | _ => rw [hik] at h; cases h
end
end Go.Ve
