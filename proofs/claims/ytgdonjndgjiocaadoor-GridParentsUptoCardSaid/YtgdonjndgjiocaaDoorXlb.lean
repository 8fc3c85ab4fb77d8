/- The program's contracts: texts joined into one: GridLaw2 Ref8 Ref7f Ref8b PreLaw PreLaw2 Ref9 Grid2 Grid3 LawKey4 PreLaw3 Ups GridLaw3 Ref9b Ref9c Grid4 Grid5 Grid6. -/
import Derived.Test.YtgdonjndgjiocaaDoorXla
import Derived.Test.YtgdonjndgjiocaaDoorXvb

section
/- grid: places and nodes (plain). -/
namespace Go.Proofs.YtgdonjndgjiocaaDoor
open Go.Ve

theorem rowN_get {a b h t : Nat} : (rowN a b h)[t]? = if t < cntN a b h then some (h - b + t, h - (h - b + t)) else none := by
  unfold rowN
  split
  · rename_i ht; simp [ht]
  · rename_i ht; simp; omega
/-- Where a node stands. -/
def placeN (a b : Nat) (p : Nat × Nat) : Nat := (uptoN a b (p.1 + p.2)).length + (p.1 - (p.1 + p.2 - b))
theorem get_upto {a b : Nat} : ∀ (n k : Nat) (p : Nat × Nat), (uptoN a b n)[k]? = some p → p.1 ≤ a ∧ p.2 ≤ b ∧ p.1 + p.2 < n ∧ placeN a b p = k
  | 0, k, p, h => by simp [uptoN] at h
  | n + 1, k, p, h => by
    rw [uptoN_succ] at h
    by_cases hk : k < (uptoN a b n).length
    · rw [List.getElem?_append_left hk] at h
      obtain ⟨h1, h2, h3, h4⟩ := get_upto n k p h
      exact ⟨h1, h2, by omega, h4⟩
    · rw [List.getElem?_append_right (by omega), rowN_get] at h
      split at h
      · rename_i ht
        have hd : cntN a b n = min n a + 1 - (n - b) := rfl
        simp only [Option.some.injEq] at h
        subst h
        have e : n - b + (k - (uptoN a b n).length) + (n - (n - b + (k - (uptoN a b n).length))) = n := by omega
        refine ⟨by show n - b + _ ≤ a; omega, by show n - (n - b + _) ≤ b; omega, by show _ + _ < _; omega, ?_⟩
        show (uptoN a b (n - b + (k - (uptoN a b n).length) + (n - (n - b + (k - (uptoN a b n).length))))).length + (n - b + (k - (uptoN a b n).length) - (n - b + (k - (uptoN a b n).length) + (n - (n - b + (k - (uptoN a b n).length))) - b)) = k
        rw [e]; omega
      · cases h
theorem node_get {a b k : Nat} {p : Nat × Nat} (h : (nodesN a b)[k]? = some p) : p.1 ≤ a ∧ p.2 ≤ b ∧ placeN a b p = k := by
  obtain ⟨h1, h2, _, h4⟩ := get_upto _ k p h
  exact ⟨h1, h2, h4⟩
theorem place_get {a b : Nat} {p : Nat × Nat} (h1 : p.1 ≤ a) (h2 : p.2 ≤ b) : (nodesN a b)[placeN a b p]? = some p := by
  obtain ⟨i, j⟩ := p
  have h1 : i ≤ a := h1
  have h2 : j ≤ b := h2
  have hpre := uptoN_pre (a := a) (b := b) (h := i + j + 1) (h' := a + b + 1) (by omega)
  have hd : cntN a b (i + j) = min (i + j) a + 1 - (i + j - b) := rfl
  have hrow : (rowN a b (i + j))[i - (i + j - b)]? = some (i, j) := by
    rw [rowN_get, if_pos (by omega)]
    simp only [Option.some.injEq, Prod.mk.injEq]
    omega
  have hin : (uptoN a b (i + j + 1))[placeN a b (i, j)]? = some (i, j) := by
    unfold placeN
    rw [uptoN_succ, List.getElem?_append_right (by show _ ≤ (uptoN a b (i + j)).length + _; omega)]
    show (rowN a b (i + j))[(uptoN a b (i + j)).length + (i - (i + j - b)) - (uptoN a b (i + j)).length]? = _
    rw [show (uptoN a b (i + j)).length + (i - (i + j - b)) - (uptoN a b (i + j)).length = i - (i + j - b) by omega]
    exact hrow
  obtain ⟨t, ht⟩ := hpre
  unfold nodesN
  rw [← ht, List.getElem?_append_left (List.getElem?_eq_some_iff.1 hin).1]
  exact hin
theorem place_lt {a b : Nat} {p : Nat × Nat} (h1 : p.1 ≤ a) (h2 : p.2 ≤ b) : placeN a b p < (nodesN a b).length := (List.getElem?_eq_some_iff.1 (place_get h1 h2)).1
theorem upto_step {a b : Nat} : ∀ n, n ≤ a + b + 2 → (uptoN a (b + 1) n).length = (uptoN a b n).length + (n - (b + 1))
  | 0, _ => by simp [uptoN]
  | n + 1, h => by
    have ih := upto_step (a := a) (b := b) n (by omega)
    rw [uptoN_succ, uptoN_succ, List.length_append, List.length_append, rowN_len, rowN_len, ih]
    unfold cntN
    omega
theorem upto_zero {a : Nat} : ∀ n, n ≤ a + 1 → (uptoN a 0 n).length = n
  | 0, _ => by simp [uptoN]
  | n + 1, h => by
    have ih := upto_zero (a := a) n (by omega)
    rw [uptoN_succ, List.length_append, rowN_len, ih]
    unfold cntN
    omega
theorem nodes_cnt (a : Nat) : ∀ b, (nodesN a b).length = (a + 1) * (b + 1)
  | 0 => by unfold nodesN; rw [upto_zero _ (by omega)]; omega
  | b + 1 => by
    have ih := nodes_cnt a b
    unfold nodesN at ih ⊢
    rw [show a + (b + 1) + 1 = a + b + 2 by omega, upto_step _ (Nat.le_refl _), show a + b + 2 = (a + b + 1) + 1 by omega, uptoN_succ, List.length_append, rowN_len, ih]
    have : cntN a b (a + b + 1) = 0 := by unfold cntN; omega
    rw [this, Nat.mul_add (a + 1) (b + 1) 1]
    omega
theorem nodes_ne (a b : Nat) : nodesN a b ≠ [] := by
  intro h
  have := nodes_cnt a b
  rw [h] at this
  have h2 : 0 < (a + 1) * (b + 1) := Nat.mul_pos (by omega) (by omega)
  simp only [List.length_nil] at this
  omega
theorem nodes_last (a b : Nat) : (nodesN a b)[(nodesN a b).length - 1]? = some (a, b) := by
  have h := place_get (p := (a, b)) (Nat.le_refl a) (Nat.le_refl b)
  have hl : placeN a b (a, b) = (nodesN a b).length - 1 := by
    unfold nodesN placeN
    rw [uptoN_succ, List.length_append, rowN_len]
    unfold cntN
    simp only
    omega
  rw [← hl]; exact h
theorem row_sum {a b h : Nat} {p : Nat × Nat} (hp : p ∈ rowN a b h) : p.1 + p.2 = h := by
  obtain ⟨t, ht⟩ := List.getElem?_of_mem hp
  rw [rowN_get] at ht
  split at ht
  · rename_i hc
    have hd : cntN a b h = min h a + 1 - (h - b) := rfl
    simp only [Option.some.injEq] at ht
    subst ht
    show h - b + t + (h - (h - b + t)) = h
    omega
  · cases ht
theorem filter_upto (a b h : Nat) : ∀ n, (uptoN a b n).filter (fun p => decide (p.1 + p.2 = h)) = if h < n then rowN a b h else []
  | 0 => by simp [uptoN]
  | n + 1 => by
    rw [uptoN_succ, List.filter_append, filter_upto a b h n]
    by_cases e : n = h
    · subst e
      rw [if_neg (Nat.lt_irrefl _), if_pos (Nat.lt_succ_self _), List.nil_append]
      exact List.filter_eq_self.2 fun p hp => decide_eq_true (row_sum hp)
    · have : (rowN a b n).filter (fun p => decide (p.1 + p.2 = h)) = [] := List.filter_eq_nil_iff.2 fun p hp hd => e (by rw [← row_sum hp]; exact of_decide_eq_true hd)
      rw [this, List.append_nil]
      by_cases hn : h < n
      · rw [if_pos hn, if_pos (by omega)]
      · rw [if_neg hn, if_neg (by omega)]
/-- The nodes of a height. -/
theorem filter_nodes (a b h : Nat) : (nodesN a b).filter (fun p => decide (p.1 + p.2 = h)) = rowN a b h := by
  unfold nodesN
  rw [filter_upto]
  split
  · rfl
  · have : cntN a b h = 0 := by unfold cntN; omega
    rw [rowN, this]; rfl
def nds (s : Sp) : List (Nat × Nat) := bif soundS s then nodesN (gA s) (gB s) else []
theorem nds_yes {s : Sp} (h : soundS s = true) : nds s = nodesN (gA s) (gB s) := by rw [nds, h, cond_true]
theorem nds_no {s : Sp} (h : soundS s = false) : nds s = [] := by rw [nds, h, cond_false]
theorem nds_len (s : Sp) : (nds s).length ≤ 33153 := by
  obtain ⟨g1, g2⟩ := g_le s
  cases h : soundS s
  · rw [nds_no h]; exact Nat.zero_le _
  · rw [nds_yes h]; exact nodesN_len g1 g2
/-- A node's place; -1: there is no such node. -/
def plS (s : Sp) (i j : Int) : Int := if soundS s = true ∧ 0 ≤ i ∧ i ≤ gA s ∧ 0 ≤ j ∧ j ≤ gB s then (placeN (gA s) (gB s) (i.toNat, j.toNat) : Int) else -1
theorem plS_get {s : Sp} {k : Nat} {p : Nat × Nat} (h : (nds s)[k]? = some p) : plS s p.1 p.2 = k := by
  cases hs : soundS s
  · rw [nds_no hs] at h; simp at h
  · rw [nds_yes hs] at h
    obtain ⟨h1, h2, h3⟩ := node_get h
    rw [plS, if_pos ⟨hs, by omega, by omega, by omega, by omega⟩, Int.toNat_natCast, Int.toNat_natCast]
    show (placeN _ _ p : Int) = k
    rw [h3]
theorem plS_at {s : Sp} {i j : Int} (h : 0 ≤ plS s i j) : ∃ p : Nat × Nat, i = p.1 ∧ j = p.2 ∧ (nds s)[(plS s i j).toNat]? = some p := by
  unfold plS at h ⊢
  split at h
  · rename_i hc
    rw [if_pos hc]
    refine ⟨(i.toNat, j.toNat), by show i = (i.toNat : Int); omega, by show j = (j.toNat : Int); omega, ?_⟩
    rw [nds_yes hc.1, Int.toNat_natCast]
    exact place_get (by show i.toNat ≤ _; omega) (by show j.toNat ≤ _; omega)
  · omega
end Go.Proofs.YtgdonjndgjiocaaDoor
end

section
/- dim, the document's answer: the list of lengths. -/
namespace Go.Proofs.YtgdonjndgjiocaaDoor
open Go.Ve

def lenAt (w s : Int) (i : Nat) : Int := max 0 (w - i * s)
def lensA (w s : Int) (n : Nat) : List Int := (List.range n).map (lenAt w s)
theorem lensA_len (w s : Int) (n : Nat) : (lensA w s n).length = n := by simp [lensA]
theorem lensA_succ (w s : Int) (n : Nat) : lensA w s (n + 1) = lensA w s n ++ [lenAt w s n] := by simp [lensA, List.range_succ]
theorem ints_len (l : List Int) : (ints l).length = l.length := by simp [ints]
theorem ints_get (l : List Int) (i : Nat) : (ints l)[i]? = (l[i]?).map fun x => [.int .i64 x] := by simp [ints]
theorem ints_snoc (l : List Int) (x : Int) : ints l ++ [[.int .i64 x]] = ints (l ++ [x]) := by simp [ints]
theorem lensA_at {w s : Int} {n i : Nat} (h : i < n) : (ints (lensA w s n))[(i : Int).toNat]? = some [.int .i64 (lenAt w s i)] := by
  rw [ints_get]; simp [lensA, h]
theorem depth_iff {d : Dm} (h : rightD d = true) (i : Nat) : 0 < lenAt (widthK d.kind) d.step i ↔ (i : Int) < depthD d := by
  obtain ⟨_, h1, h2⟩ := rightD_step h
  rw [depthD_eq h]
  have e : (i : Int) < (widthK d.kind + d.step - 1) / d.step ↔ ((i : Int) + 1) * d.step ≤ widthK d.kind + d.step - 1 := by
    rw [← Int.le_ediv_iff_mul_le (by omega)]; omega
  rw [e, Int.add_mul]
  unfold lenAt; omega
/-- The levels' lengths. -/
def lensD (d : Dm) : List Int := bif rightD d then lensA (widthK d.kind) d.step (depthD d).toNat.succ else []
def lensV (d : Dm) : AV := bif rightD d then .sl (ints (lensA (widthK d.kind) d.step (depthD d).toNat.succ)) else .nils

def le8 : Nat → AV
  | 0 => .own 1
  | _ + 1 => .own 2
def lh8 (d : Dm) (w : Int) : Nat → Hp
  | 0 => [.box 23 [.int .i64 d.kind, .int .i64 d.side, .int .i64 d.step], .row 3 1 (ints (lensA w d.step 1))]
  | i + 1 => [.box 23 [.int .i64 d.kind, .int .i64 d.side, .int .i64 d.step], .dead, .row 3 1 (ints (lensA w d.step (i + 1 + 1)))]
theorem lens_ok (d : Dm) : PCall P 67 [dmv d] (lensV d) := by
  have q1 := rWidth_ok d.kind
  have hw := widthK_le d.kind
  have hd := @depthD_le d
  cases hr : rightD d
  · have e : lensV d = .nils := by rw [lensV, hr, cond_false]
    rw [e]
    have hr' := of_decide_eq_false hr
    refine PCall.of_awp tok mixed fn67 (Nat.le_of_ble_eq_true rfl) ?_
    (conv => whnf); (repeat' first | ((with_reducible refine Box.mk ?_); conv => whnf) | ((with_reducible refine And.intro (fun _ => ?_) (fun _ => ?_)) <;> conv => whnf) | ((with_reducible show AYld _ _ _ _ _); (refine AYld.of tok mixed ?_); conv => whnf) | ((with_reducible show forceH _ _); (refine (forceH_eq _ _).mpr ?_); conv => whnf) | ((with_reducible show ACall _ _ _ _ _); (refine ACall.of_pure (by assumption) (by rfl) ?_); conv => whnf) | ((with_reducible show Exists _); (refine ⟨_, ACall.of_pure (by assumption) (by rfl) ⟨rfl, rfl⟩, ?_⟩); conv => whnf) | ((with_reducible show ∃ L, drawR L _ = true ∧ _); (refine ⟨[], by kernel_rfl, ?_⟩); conv => whnf) | ((with_reducible show _ ∧ _ ∧ _); (refine ⟨by omega, by omega, ?_⟩); conv => whnf) | fail)
    all_goals first
      | rfl
      | (exfalso; omega)
  · have e : lensV d = .sl (ints (lensA (widthK d.kind) d.step (depthD d).toNat.succ)) := by rw [lensV, hr, cond_true]
    obtain ⟨h0, h1, h2⟩ := rightD_step hr
    have hdi := depth_iff hr
    rw [e]
    generalize depthD d = dd at *
    generalize widthK d.kind = w at *
    refine PCall.of_awp tok mixed fn67 (Nat.le_of_ble_eq_true rfl) ?_
    (conv => whnf); (repeat' first | ((with_reducible refine Box.mk ?_); conv => whnf) | ((with_reducible refine And.intro (fun _ => ?_) (fun _ => ?_)) <;> conv => whnf) | ((with_reducible show AYld _ _ _ _ _); (refine AYld.of tok mixed ?_); conv => whnf) | ((with_reducible show forceH _ _); (refine (forceH_eq _ _).mpr ?_); conv => whnf) | ((with_reducible show ACall _ _ _ _ _); (refine ACall.of_pure (by assumption) (by rfl) ?_); conv => whnf) | ((with_reducible show Exists _); (refine ⟨_, ACall.of_pure (by assumption) (by rfl) ⟨rfl, rfl⟩, ?_⟩); conv => whnf) | ((with_reducible show ∃ L, drawR L _ = true ∧ _); (refine ⟨[], by kernel_rfl, ?_⟩); conv => whnf) | ((with_reducible show _ ∧ _ ∧ _); (refine ⟨by omega, by omega, ?_⟩); conv => whnf) | fail)
    all_goals try (exfalso; omega)
    all_goals (
      refine aloop (fun i : Nat => (i : Int) ≤ dd) (fun i : Nat => ⟨envL [(1, .ptr 0 0), (3, .int .i64 w), (4, le8 i)], lh8 d w i⟩)
        (fun i => dd.toNat - i) 0 (by omega) (weak_to ⟨rfl, rfl, rfl, trivial⟩ ?_) ?_
      · show [_, Ob.row _ _ [[AV.int _ _]]] = [_, Ob.row _ _ [[AV.int _ _]]]
        have : lenAt w d.step 0 = w := by unfold lenAt; omega
        rw [this]
      intro i hi
      have hl : (ints (lensA w d.step (i + 1))).length = i + 1 := by rw [ints_len, lensA_len]
      have hL := lensA_at (w := w) (s := d.step) (Nat.lt_succ_self i)
      have hn1 := hdi i
      have hx : IntKind.i64.wrap (((ints (lensA w d.step (i + 1))).length : Int) - 1) = (i : Int) := by rw [hl, wrap_i64 (by omega) (by omega)]; omega
      have hst : 0 < lenAt w d.step i → lenAt w d.step (i + 1) = max 0 (lenAt w d.step i - d.step) := fun hp => by
        unfold lenAt at hp ⊢
        rw [Int.natCast_add, Int.add_mul]; omega
      have hwr : IntKind.i64.wrap (lenAt w d.step i - d.step) = lenAt w d.step i - d.step := by
        have : lenAt w d.step i ≤ w := by
          have := Int.mul_nonneg (show (0 : Int) ≤ (i : Int) by omega) (show (0 : Int) ≤ d.step by omega)
          unfold lenAt; omega
        have : 0 ≤ lenAt w d.step i := by unfold lenAt; omega
        exact wrap_i64 (by omega) (by omega)
      have hA : 0 < lenAt w d.step i → IntKind.i64.wrap (lenAt w d.step i - d.step) < 0 → lenAt w d.step (i + 1) = 0 := fun h h' => by rw [hst h]; omega
      have hB : 0 < lenAt w d.step i → ¬ IntKind.i64.wrap (lenAt w d.step i - d.step) < 0 → lenAt w d.step (i + 1) = IntKind.i64.wrap (lenAt w d.step i - d.step) := fun h h' => by rw [hst h]; omega
      clear hst hwr
      have hE : ¬ 0 < lenAt w d.step i → dd.toNat = i := fun h => by
        have : ¬ (i : Int) < dd := fun h' => h (hn1.2 h')
        omega
      rcases i with _ | i
      all_goals (
        conv => whnf
        repeat' first | ((with_reducible refine Box.mk ?_); conv => whnf) | ((with_reducible refine And.intro (fun _ => ?_) (fun _ => ?_)) <;> conv => whnf) | ((with_reducible show AYld _ _ _ _ _); (refine AYld.of tok mixed ?_); conv => whnf) | ((with_reducible show forceH _ _); (refine (forceH_eq _ _).mpr ?_); conv => whnf) | fail
        rw [hx]
        refine ⟨by omega, by rw [hl]; omega, ?_⟩
        conv => whnf
        repeat' first | ((with_reducible refine Box.mk ?_); conv => whnf) | ((with_reducible refine And.intro (fun _ => ?_) (fun _ => ?_)) <;> conv => whnf) | ((with_reducible show AYld _ _ _ _ _); (refine AYld.of tok mixed ?_); conv => whnf) | ((with_reducible show forceH _ _); (refine (forceH_eq _ _).mpr ?_); conv => whnf) | fail
        refine ⟨_, hL, ?_⟩
        conv => whnf
        repeat' first | ((with_reducible refine Box.mk ?_); conv => whnf) | ((with_reducible refine And.intro (fun _ => ?_) (fun _ => ?_)) <;> conv => whnf) | ((with_reducible show AYld _ _ _ _ _); (refine AYld.of tok mixed ?_); conv => whnf) | ((with_reducible show forceH _ _); (refine (forceH_eq _ _).mpr ?_); conv => whnf) | fail
        · rename_i hpos
          have hlt := hn1.1 hpos
          refine ⟨[], by kernel_rfl, ?_⟩
          conv => whnf
          repeat' first | ((with_reducible refine Box.mk ?_); conv => whnf) | ((with_reducible refine And.intro (fun _ => ?_) (fun _ => ?_)) <;> conv => whnf) | ((with_reducible show AYld _ _ _ _ _); (refine AYld.of tok mixed ?_); conv => whnf) | ((with_reducible show forceH _ _); (refine (forceH_eq _ _).mpr ?_); conv => whnf) | fail
          rw [hx]
          refine ⟨by omega, by rw [hl]; omega, ?_⟩
          conv => whnf
          repeat' first | ((with_reducible refine Box.mk ?_); conv => whnf) | ((with_reducible refine And.intro (fun _ => ?_) (fun _ => ?_)) <;> conv => whnf) | ((with_reducible show AYld _ _ _ _ _); (refine AYld.of tok mixed ?_); conv => whnf) | ((with_reducible show forceH _ _); (refine (forceH_eq _ _).mpr ?_); conv => whnf) | fail
          refine ⟨_, hL, ?_⟩
          conv => whnf
          repeat' first | ((with_reducible refine Box.mk ?_); conv => whnf) | ((with_reducible refine And.intro (fun _ => ?_) (fun _ => ?_)) <;> conv => whnf) | ((with_reducible show AYld _ _ _ _ _); (refine AYld.of tok mixed ?_); conv => whnf) | ((with_reducible show forceH _ _); (refine (forceH_eq _ _).mpr ?_); conv => whnf) | fail
          all_goals (
            refine ⟨fun c hc => by rw [List.mem_singleton.1 hc]; exact ⟨rfl, rfl⟩, by show ((ints (lensA w d.step _)).length + 1) * 8 ≤ _; rw [hl]; omega, by show (ints (lensA w d.step _)).length + 1 ≤ _; rw [hl]; omega, ?_⟩
            conv => whnf
            repeat' first | ((with_reducible refine Box.mk ?_); conv => whnf) | ((with_reducible refine And.intro (fun _ => ?_) (fun _ => ?_)) <;> conv => whnf) | ((with_reducible show AYld _ _ _ _ _); (refine AYld.of tok mixed ?_); conv => whnf) | ((with_reducible show forceH _ _); (refine (forceH_eq _ _).mpr ?_); conv => whnf) | fail
            first
              | (refine ⟨0 + 1, by omega, by omega, weak_ren_to [(0, true), (1, false), (3, true)] rfl rfl ?_ ⟨rfl, rfl, rfl, trivial⟩⟩
                 show [_, _, Ob.row 3 1 (ints (lensA w d.step (0 + 1)) ++ [[.int .i64 _]])] = [_, _, Ob.row 3 1 (ints (lensA w d.step (0 + 1 + 1)))]
                 rw [ints_snoc, lensA_succ w d.step (0 + 1)])
              | (refine ⟨i + 1 + 1, by omega, by omega, weak_ren_to [(0, true), (1, false), (4, true)] rfl rfl ?_ ⟨rfl, rfl, rfl, trivial⟩⟩
                 show [_, _, Ob.row 3 1 (ints (lensA w d.step (i + 1 + 1)) ++ [[.int .i64 _]])] = [_, _, Ob.row 3 1 (ints (lensA w d.step (i + 1 + 1 + 1)))]
                 rw [ints_snoc, lensA_succ w d.step (i + 1 + 1)])
            first
              | (rw [hA hpos (by assumption)] <;> rfl)
              | (rw [hB hpos (by assumption)] <;> rfl))
        · rename_i hpos
          have hdn := hE hpos
          rw [hdn]
          rfl))
end Go.Proofs.YtgdonjndgjiocaaDoor
end

section
/- key, the document's answer: Cut. -/
namespace Go.Proofs.YtgdonjndgjiocaaDoor
open Go.Ve

theorem of_take {k : Ky} (hn : k.n < 2 ^ 128) (h : rightK k = true) (m : Nat) (hm : (m : Int) ≤ k.len) : PCall P 90 [.int .i64 k.kind, .sl (strs ((lettersL k).take m))] (kv (cutK k m)) := by
  by_cases h3 : k.kind = 3
  · obtain ⟨a1, a2, a3⟩ := right_path h h3
    have e : lettersL k = labs k.path := by unfold lettersL; rw [if_pos h3]
    have hlab : ∀ x ∈ (labs k.path).take m, isLabel x = true := fun x hx => labs_lab x (List.mem_of_mem_take hx)
    have h8 : ((labs k.path).take m).length ≤ 8 := Nat.le_trans (by rw [List.length_take]; exact Nat.min_le_right _ _) (labs_len k.path).1
    obtain ⟨j1, j2⟩ := labs_join hlab h8
    have e2 : cutK k m = ⟨3, (((labs k.path).take m).length : Int), 0, joinD ((labs k.path).take m)⟩ := by
      rw [cutK, if_pos h3, show (min (max (m : Int) 0) k.len).toNat = m by omega, ofPathK, j2]
    rw [e, e2, h3]
    exact of3_ok _ 16 (fun x hx => isLabel_len (hlab x hx)) (by omega)
  · obtain ⟨a0, a1, a2, a3, a4⟩ := right_addr h h3
    have e : lettersL k = letB k.n k.len.toNat := by unfold lettersL; rw [if_neg h3]
    have e2 : cutK k m = ⟨k.kind, (m : Int), topN k.n m, []⟩ := by
      rw [cutK, if_neg h3, ofBitsK, show min (max (m : Int) 0) k.len = (m : Int) by omega, show (min (m : Int) 128).toNat = m by omega]
    rw [e, e2, letB_take, show min m k.len.toNat = m by omega]
    exact ofB_ok k.kind h3 k.n m hn (by omega)
theorem of_nils {k : Ky} (hn : k.n < 2 ^ 128) (h : rightK k = true) : PCall P 90 [.int .i64 k.kind, .nils] (kv (cutK k 0)) := by
  have h1 := letters_len h
  have := of_take hn h 0 (by omega)
  rw [List.take_zero] at this
  exact pNil2 this
theorem strs_take (l : List Bs) (m : Nat) : ((strs l).take m).drop 0 = strs (l.take m) := by simp [strs, List.map_take]
theorem strs_all (l : List Bs) : allLen 1 (strs l) := by
  intro c hc
  simp only [strs, List.mem_map] at hc
  obtain ⟨x, _, rfl⟩ := hc
  rfl
theorem cutK_min {k : Ky} (h : rightK k = true) (n : Int) : cutK k (min (max n 0) k.len) = cutK k n := by
  have h1 := letters_len h
  unfold cutK
  rw [show min (max (min (max n 0) k.len) 0) k.len = min (max n 0) k.len by omega]
theorem rCut_ok (k : Ky) (n : Int) (hn : k.n < 2 ^ 128) (hp : k.path.length < 4294967281) : PCall P 81 [kv k, .int .i64 n] (kv (cutU k n)) := by
  have q1 := letters_ok k hp
  refine PCall.of_awp tok mixed fn81 (Nat.le_of_ble_eq_true rfl) ?_
  cases hr : rightK k
  · rw [hr] at q1
    (conv => whnf); (repeat' first | ((with_reducible refine Box.mk ?_); conv => whnf) | ((with_reducible refine And.intro (fun _ => ?_) (fun _ => ?_)) <;> conv => whnf) | ((with_reducible show AYld _ _ _ _ _); (refine AYld.of tok mixed ?_); conv => whnf) | ((with_reducible show forceH _ _); (refine (forceH_eq _ _).mpr ?_); conv => whnf) | ((with_reducible show ACall _ _ _ _ _); (refine ACall.of_pure (by assumption) (by rfl) ?_); conv => whnf) | ((with_reducible show Exists _); (refine ⟨_, ACall.of_pure (by assumption) (by rfl) ⟨rfl, rfl⟩, ?_⟩); conv => whnf) | ((with_reducible show ∃ L, drawR L _ = true ∧ _); (refine ⟨[], by kernel_rfl, ?_⟩); conv => whnf) | ((with_reducible show _ ∧ _ ∧ _); (refine ⟨by omega, by omega, ?_⟩); conv => whnf) | fail)
    rw [cutU, hr, cond_false]
    show AV.agg [_, _, _, _, _] = AV.agg [_, _, _, _, _]
    simp [zeroK]
  · rw [hr, cond_true] at q1
    have hl := letters_len hr
    have hc : ∀ m : Int, min (max n 0) k.len = m → cutU k n = cutK k m := fun m h => by rw [cutU, hr, cond_true, ← cutK_min hr, h]
    cases hL : lettersL k with
    | nil =>
      rw [hL] at q1 hl
      have q2 := of_nils hn hr
      have hl : (0 : Int) = k.len := hl
      rw [hc 0 (by omega)]
      (conv => whnf); (repeat' first | ((with_reducible refine Box.mk ?_); conv => whnf) | ((with_reducible refine And.intro (fun _ => ?_) (fun _ => ?_)) <;> conv => whnf) | ((with_reducible show AYld _ _ _ _ _); (refine AYld.of tok mixed ?_); conv => whnf) | ((with_reducible show forceH _ _); (refine (forceH_eq _ _).mpr ?_); conv => whnf) | ((with_reducible show ACall _ _ _ _ _); (refine ACall.of_pure (by assumption) (by rfl) ?_); conv => whnf) | ((with_reducible show Exists _); (refine ⟨_, ACall.of_pure (by assumption) (by rfl) ⟨rfl, rfl⟩, ?_⟩); conv => whnf) | ((with_reducible show ∃ L, drawR L _ = true ∧ _); (refine ⟨[], by kernel_rfl, ?_⟩); conv => whnf) | ((with_reducible show _ ∧ _ ∧ _); (refine ⟨by omega, by omega, ?_⟩); conv => whnf) | fail)
      all_goals rfl
    | cons x l =>
      rw [hL] at q1 hl
      have q2 : ∀ m : Nat, (m : Int) ≤ k.len → PCall P 90 [.int .i64 k.kind, .sl (((strs (x :: l)).take m).drop 0)] (kv (cutK k m)) := fun m hm => by
        rw [strs_take, ← hL]; exact of_take hn hr m hm
      have hlen : ((strs (x :: l)).length : Int) = k.len := by rw [strs_len]; exact hl
      have hal := strs_all (x :: l)
      (conv => whnf); (repeat' first | ((with_reducible refine Box.mk ?_); conv => whnf) | ((with_reducible refine And.intro (fun _ => ?_) (fun _ => ?_)) <;> conv => whnf) | ((with_reducible show AYld _ _ _ _ _); (refine AYld.of tok mixed ?_); conv => whnf) | ((with_reducible show forceH _ _); (refine (forceH_eq _ _).mpr ?_); conv => whnf) | ((with_reducible show ACall _ _ _ _ _); (refine ACall.of_pure (by assumption) (by rfl) ?_); conv => whnf) | ((with_reducible show Exists _); (refine ⟨_, ACall.of_pure (by assumption) (by rfl) ⟨rfl, rfl⟩, ?_⟩); conv => whnf) | ((with_reducible show ∃ L, drawR L _ = true ∧ _); (refine ⟨[], by kernel_rfl, ?_⟩); conv => whnf) | ((with_reducible show _ ∧ _ ∧ _); (refine ⟨by omega, by omega, ?_⟩); conv => whnf) | fail)
      all_goals try (exfalso; omega)
      all_goals (
        refine ⟨hal, ?_⟩
        (conv => whnf); (repeat' first | ((with_reducible refine Box.mk ?_); conv => whnf) | ((with_reducible refine And.intro (fun _ => ?_) (fun _ => ?_)) <;> conv => whnf) | ((with_reducible show AYld _ _ _ _ _); (refine AYld.of tok mixed ?_); conv => whnf) | ((with_reducible show forceH _ _); (refine (forceH_eq _ _).mpr ?_); conv => whnf) | ((with_reducible show ACall _ _ _ _ _); (refine ACall.of_pure (by assumption) (by rfl) ?_); conv => whnf) | ((with_reducible show Exists _); (refine ⟨_, ACall.of_pure (by assumption) (by rfl) ⟨rfl, rfl⟩, ?_⟩); conv => whnf) | ((with_reducible show ∃ L, drawR L _ = true ∧ _); (refine ⟨[], by kernel_rfl, ?_⟩); conv => whnf) | ((with_reducible show _ ∧ _ ∧ _); (refine ⟨by omega, by omega, ?_⟩); conv => whnf) | fail)
        refine ⟨_, ACall.of_pure (q2 _ (by omega)) rfl ⟨rfl, rfl⟩, ?_⟩
        (conv => whnf); (repeat' first | ((with_reducible refine Box.mk ?_); conv => whnf) | ((with_reducible refine And.intro (fun _ => ?_) (fun _ => ?_)) <;> conv => whnf) | ((with_reducible show AYld _ _ _ _ _); (refine AYld.of tok mixed ?_); conv => whnf) | ((with_reducible show forceH _ _); (refine (forceH_eq _ _).mpr ?_); conv => whnf) | ((with_reducible show ACall _ _ _ _ _); (refine ACall.of_pure (by assumption) (by rfl) ?_); conv => whnf) | ((with_reducible show Exists _); (refine ⟨_, ACall.of_pure (by assumption) (by rfl) ⟨rfl, rfl⟩, ?_⟩); conv => whnf) | ((with_reducible show ∃ L, drawR L _ = true ∧ _); (refine ⟨[], by kernel_rfl, ?_⟩); conv => whnf) | ((with_reducible show _ ∧ _ ∧ _); (refine ⟨by omega, by omega, ?_⟩); conv => whnf) | fail)
        first
          | (rw [hc (((0 : Int).toNat : Nat) : Int) (by omega)]; rfl)
          | (rw [hc ((((strs (x :: l)).length : Int).toNat : Nat) : Int) (by omega)]; rfl)
          | (rw [hc ((n.toNat : Nat) : Int) (by omega)]; rfl))
end Go.Proofs.YtgdonjndgjiocaaDoor
end

section
/- dim, the document's answer: Right, Depth, Len, On, Cut. -/
namespace Go.Proofs.YtgdonjndgjiocaaDoor
open Go.Ve

theorem lens_yes {d : Dm} (h : rightD d = true) : lensV d = .sl (ints (lensA (widthK d.kind) d.step ((depthD d).toNat + 1))) := by rw [lensV, h, cond_true]
theorem lens_no {d : Dm} (h : rightD d = false) : lensV d = .nils := by rw [lensV, h, cond_false]
theorem lens_cnt (w s : Int) (n : Nat) : ((ints (lensA w s n)).length : Int) = (n : Int) := by rw [ints_len, lensA_len]
theorem r8Right_ok (d : Dm) : PCall P 66 [dmv d] (.bool (rightD d)) := by
  have q1 := lens_ok d
  cases hr : rightD d
  · rw [lens_no hr] at q1
    refine PCall.of_awp tok mixed fn66 (Nat.le_of_ble_eq_true rfl) ?_
    (conv => whnf); (repeat' first | ((with_reducible refine Box.mk ?_); conv => whnf) | ((with_reducible refine And.intro (fun _ => ?_) (fun _ => ?_)) <;> conv => whnf) | ((with_reducible show AYld _ _ _ _ _); (refine AYld.of tok mixed ?_); conv => whnf) | ((with_reducible show forceH _ _); (refine (forceH_eq _ _).mpr ?_); conv => whnf) | ((with_reducible show ACall _ _ _ _ _); (refine ACall.of_pure (by assumption) (by rfl) ?_); conv => whnf) | ((with_reducible show Exists _); (refine ⟨_, ACall.of_pure (by assumption) (by rfl) ⟨rfl, rfl⟩, ?_⟩); conv => whnf) | ((with_reducible show ∃ L, drawR L _ = true ∧ _); (refine ⟨[], by kernel_rfl, ?_⟩); conv => whnf) | ((with_reducible show _ ∧ _ ∧ _); (refine ⟨by omega, by omega, ?_⟩); conv => whnf) | fail)
    all_goals first
      | rfl
      | (exfalso; omega)
  · rw [lens_yes hr] at q1
    have hl := lens_cnt (widthK d.kind) d.step ((depthD d).toNat + 1)
    refine PCall.of_awp tok mixed fn66 (Nat.le_of_ble_eq_true rfl) ?_
    (conv => whnf); (repeat' first | ((with_reducible refine Box.mk ?_); conv => whnf) | ((with_reducible refine And.intro (fun _ => ?_) (fun _ => ?_)) <;> conv => whnf) | ((with_reducible show AYld _ _ _ _ _); (refine AYld.of tok mixed ?_); conv => whnf) | ((with_reducible show forceH _ _); (refine (forceH_eq _ _).mpr ?_); conv => whnf) | ((with_reducible show ACall _ _ _ _ _); (refine ACall.of_pure (by assumption) (by rfl) ?_); conv => whnf) | ((with_reducible show Exists _); (refine ⟨_, ACall.of_pure (by assumption) (by rfl) ⟨rfl, rfl⟩, ?_⟩); conv => whnf) | ((with_reducible show ∃ L, drawR L _ = true ∧ _); (refine ⟨[], by kernel_rfl, ?_⟩); conv => whnf) | ((with_reducible show _ ∧ _ ∧ _); (refine ⟨by omega, by omega, ?_⟩); conv => whnf) | fail)
    all_goals first
      | rfl
      | (exfalso; omega)
theorem r8Depth_ok (d : Dm) : PCall P 45 [dmv d] (.int .i64 (depthD d)) := by
  have q1 := lens_ok d
  have hd := @depthD_le d
  cases hr : rightD d
  · rw [lens_no hr] at q1
    have e : depthD d = 0 := by rw [depthD, hr, cond_false]
    rw [e]
    refine PCall.of_awp tok mixed fn45 (Nat.le_of_ble_eq_true rfl) ?_
    (conv => whnf); (repeat' first | ((with_reducible refine Box.mk ?_); conv => whnf) | ((with_reducible refine And.intro (fun _ => ?_) (fun _ => ?_)) <;> conv => whnf) | ((with_reducible show AYld _ _ _ _ _); (refine AYld.of tok mixed ?_); conv => whnf) | ((with_reducible show forceH _ _); (refine (forceH_eq _ _).mpr ?_); conv => whnf) | ((with_reducible show ACall _ _ _ _ _); (refine ACall.of_pure (by assumption) (by rfl) ?_); conv => whnf) | ((with_reducible show Exists _); (refine ⟨_, ACall.of_pure (by assumption) (by rfl) ⟨rfl, rfl⟩, ?_⟩); conv => whnf) | ((with_reducible show ∃ L, drawR L _ = true ∧ _); (refine ⟨[], by kernel_rfl, ?_⟩); conv => whnf) | ((with_reducible show _ ∧ _ ∧ _); (refine ⟨by omega, by omega, ?_⟩); conv => whnf) | fail)
    all_goals first
      | rfl
      | (exfalso; omega)
  · rw [lens_yes hr] at q1
    have hl := lens_cnt (widthK d.kind) d.step ((depthD d).toNat + 1)
    refine PCall.of_awp tok mixed fn45 (Nat.le_of_ble_eq_true rfl) ?_
    (conv => whnf); (repeat' first | ((with_reducible refine Box.mk ?_); conv => whnf) | ((with_reducible refine And.intro (fun _ => ?_) (fun _ => ?_)) <;> conv => whnf) | ((with_reducible show AYld _ _ _ _ _); (refine AYld.of tok mixed ?_); conv => whnf) | ((with_reducible show forceH _ _); (refine (forceH_eq _ _).mpr ?_); conv => whnf) | ((with_reducible show ACall _ _ _ _ _); (refine ACall.of_pure (by assumption) (by rfl) ?_); conv => whnf) | ((with_reducible show Exists _); (refine ⟨_, ACall.of_pure (by assumption) (by rfl) ⟨rfl, rfl⟩, ?_⟩); conv => whnf) | ((with_reducible show ∃ L, drawR L _ = true ∧ _); (refine ⟨[], by kernel_rfl, ?_⟩); conv => whnf) | ((with_reducible show _ ∧ _ ∧ _); (refine ⟨by omega, by omega, ?_⟩); conv => whnf) | fail)
    all_goals first
      | (exfalso; omega)
      | (refine res1_eq (congrArg (AV.int .i64) ?_); rw [hl, wrap_i64 (by omega) (by omega)]; omega)
theorem r8Len_ok (d : Dm) (l : Int) : PCall P 79 [dmv d, .int .i64 l] (.int .i64 (lenD d l)) := by
  have q1 := lens_ok d
  have hd := @depthD_le d
  cases hr : rightD d
  · rw [lens_no hr] at q1
    have e : lenD d l = -1 := by rw [lenD, if_neg (fun h => by rw [hr] at h; exact absurd h.1 (by decide))]
    rw [e]
    refine PCall.of_awp tok mixed fn79 (Nat.le_of_ble_eq_true rfl) ?_
    (conv => whnf); (repeat' first | ((with_reducible refine Box.mk ?_); conv => whnf) | ((with_reducible refine And.intro (fun _ => ?_) (fun _ => ?_)) <;> conv => whnf) | ((with_reducible show AYld _ _ _ _ _); (refine AYld.of tok mixed ?_); conv => whnf) | ((with_reducible show forceH _ _); (refine (forceH_eq _ _).mpr ?_); conv => whnf) | ((with_reducible show ACall _ _ _ _ _); (refine ACall.of_pure (by assumption) (by rfl) ?_); conv => whnf) | ((with_reducible show Exists _); (refine ⟨_, ACall.of_pure (by assumption) (by rfl) ⟨rfl, rfl⟩, ?_⟩); conv => whnf) | ((with_reducible show ∃ L, drawR L _ = true ∧ _); (refine ⟨[], by kernel_rfl, ?_⟩); conv => whnf) | ((with_reducible show _ ∧ _ ∧ _); (refine ⟨by omega, by omega, ?_⟩); conv => whnf) | fail)
    all_goals first
      | rfl
      | (exfalso; omega)
  · rw [lens_yes hr] at q1
    have hl := lens_cnt (widthK d.kind) d.step ((depthD d).toNat + 1)
    refine PCall.of_awp tok mixed fn79 (Nat.le_of_ble_eq_true rfl) ?_
    (conv => whnf); (repeat' first | ((with_reducible refine Box.mk ?_); conv => whnf) | ((with_reducible refine And.intro (fun _ => ?_) (fun _ => ?_)) <;> conv => whnf) | ((with_reducible show AYld _ _ _ _ _); (refine AYld.of tok mixed ?_); conv => whnf) | ((with_reducible show forceH _ _); (refine (forceH_eq _ _).mpr ?_); conv => whnf) | ((with_reducible show ACall _ _ _ _ _); (refine ACall.of_pure (by assumption) (by rfl) ?_); conv => whnf) | ((with_reducible show Exists _); (refine ⟨_, ACall.of_pure (by assumption) (by rfl) ⟨rfl, rfl⟩, ?_⟩); conv => whnf) | ((with_reducible show ∃ L, drawR L _ = true ∧ _); (refine ⟨[], by kernel_rfl, ?_⟩); conv => whnf) | ((with_reducible show _ ∧ _ ∧ _); (refine ⟨by omega, by omega, ?_⟩); conv => whnf) | fail)
    · rw [lenD, if_neg (fun h => by omega)]; rfl
    · rw [lenD, if_neg (fun h => by omega)]; rfl
    · rename_i h1 h2
      have hlt : l.toNat < (depthD d).toNat + 1 := by omega
      have hat := lensA_at (w := widthK d.kind) (s := d.step) hlt
      rw [show ((l.toNat : Nat) : Int) = l by omega] at hat
      refine ⟨by omega, _, hat, rfl, ?_⟩
      (conv => whnf); (repeat' first | ((with_reducible refine Box.mk ?_); conv => whnf) | ((with_reducible refine And.intro (fun _ => ?_) (fun _ => ?_)) <;> conv => whnf) | ((with_reducible show AYld _ _ _ _ _); (refine AYld.of tok mixed ?_); conv => whnf) | ((with_reducible show forceH _ _); (refine (forceH_eq _ _).mpr ?_); conv => whnf) | ((with_reducible show ACall _ _ _ _ _); (refine ACall.of_pure (by assumption) (by rfl) ?_); conv => whnf) | ((with_reducible show Exists _); (refine ⟨_, ACall.of_pure (by assumption) (by rfl) ⟨rfl, rfl⟩, ?_⟩); conv => whnf) | ((with_reducible show ∃ L, drawR L _ = true ∧ _); (refine ⟨[], by kernel_rfl, ?_⟩); conv => whnf) | ((with_reducible show _ ∧ _ ∧ _); (refine ⟨by omega, by omega, ?_⟩); conv => whnf) | fail)
      refine res1_eq (congrArg (AV.int .i64) ?_)
      rw [lenD, if_pos ⟨hr, by omega, by omega⟩, lenAt, show ((l.toNat : Nat) : Int) = l by omega]
theorem r8On_ok (d : Dm) (l : Int) (k : Ky) (hp : k.path.length < 4294967281) : PCall P 70 [dmv d, .int .i64 l, kv k] (.bool (onD d l k)) := by
  have q1 := r8Len_ok d l
  have q2 := rRight_ok k hp
  unfold onD
  generalize lenD d l = n at *
  generalize rightK k = r at *
  cases r
  all_goals (
    refine PCall.of_awp tok mixed fn70 (Nat.le_of_ble_eq_true rfl) ?_
    (conv => whnf); (repeat' first | ((with_reducible refine Box.mk ?_); conv => whnf) | ((with_reducible refine And.intro (fun _ => ?_) (fun _ => ?_)) <;> conv => whnf) | ((with_reducible show AYld _ _ _ _ _); (refine AYld.of tok mixed ?_); conv => whnf) | ((with_reducible show forceH _ _); (refine (forceH_eq _ _).mpr ?_); conv => whnf) | ((with_reducible show ACall _ _ _ _ _); (refine ACall.of_pure (by assumption) (by rfl) ?_); conv => whnf) | ((with_reducible show Exists _); (refine ⟨_, ACall.of_pure (by assumption) (by rfl) ⟨rfl, rfl⟩, ?_⟩); conv => whnf) | ((with_reducible show ∃ L, drawR L _ = true ∧ _); (refine ⟨[], by kernel_rfl, ?_⟩); conv => whnf) | ((with_reducible show _ ∧ _ ∧ _); (refine ⟨by omega, by omega, ?_⟩); conv => whnf) | fail)
    all_goals first
      | contradiction
      | rfl
      | exact bool_true (decide_eq_true (by omega))
      | exact bool_false (decide_eq_false fun h => by omega))
theorem r8Cut_ok (d : Dm) (l : Int) (k : Ky) (hn : k.n < 2 ^ 128) (hp : k.path.length < 4294967281) : PCall P 68 [dmv d, .int .i64 l, kv k] (kv (cutD d l k)) := by
  have q1 := r8Len_ok d l
  have q2 := rRight_ok k hp
  have q3 := rCut_ok k (lenD d l) hn hp
  have zk : kv zeroK = .agg [.int .i64 0, .int .i64 0, .int .u64 0, .int .u64 0, .str []] := by
    show AV.agg [_, _, _, _, _] = AV.agg [_, _, _, _, _]
    simp [zeroK]
  have e0 : rightK k = false → cutU k (lenD d l) = zeroK := fun h => by unfold cutU; rw [h, cond_false]
  unfold cutD
  generalize lenD d l = n at *
  generalize cutU k n = c at *
  generalize rightK k = r at *
  cases r
  · have e1 := e0 rfl
    subst e1
    have e2 : (if n < 0 ∨ k.kind ≠ d.kind then zeroK else zeroK) = zeroK := by split <;> rfl
    rw [e2, zk]
    refine PCall.of_awp tok mixed fn68 (Nat.le_of_ble_eq_true rfl) ?_
    (conv => whnf); (repeat' first | ((with_reducible refine Box.mk ?_); conv => whnf) | ((with_reducible refine And.intro (fun _ => ?_) (fun _ => ?_)) <;> conv => whnf) | ((with_reducible show AYld _ _ _ _ _); (refine AYld.of tok mixed ?_); conv => whnf) | ((with_reducible show forceH _ _); (refine (forceH_eq _ _).mpr ?_); conv => whnf) | ((with_reducible show ACall _ _ _ _ _); (refine ACall.of_pure (by assumption) (by rfl) ?_); conv => whnf) | ((with_reducible show Exists _); (refine ⟨_, ACall.of_pure (by assumption) (by rfl) ⟨rfl, rfl⟩, ?_⟩); conv => whnf) | ((with_reducible show ∃ L, drawR L _ = true ∧ _); (refine ⟨[], by kernel_rfl, ?_⟩); conv => whnf) | ((with_reducible show _ ∧ _ ∧ _); (refine ⟨by omega, by omega, ?_⟩); conv => whnf) | fail)
    all_goals first
      | contradiction
      | rfl
  · refine PCall.of_awp tok mixed fn68 (Nat.le_of_ble_eq_true rfl) ?_
    (conv => whnf); (repeat' first | ((with_reducible refine Box.mk ?_); conv => whnf) | ((with_reducible refine And.intro (fun _ => ?_) (fun _ => ?_)) <;> conv => whnf) | ((with_reducible show AYld _ _ _ _ _); (refine AYld.of tok mixed ?_); conv => whnf) | ((with_reducible show forceH _ _); (refine (forceH_eq _ _).mpr ?_); conv => whnf) | ((with_reducible show ACall _ _ _ _ _); (refine ACall.of_pure (by assumption) (by rfl) ?_); conv => whnf) | ((with_reducible show Exists _); (refine ⟨_, ACall.of_pure (by assumption) (by rfl) ⟨rfl, rfl⟩, ?_⟩); conv => whnf) | ((with_reducible show ∃ L, drawR L _ = true ∧ _); (refine ⟨[], by kernel_rfl, ?_⟩); conv => whnf) | ((with_reducible show _ ∧ _ ∧ _); (refine ⟨by omega, by omega, ?_⟩); conv => whnf) | fail)
    all_goals first
      | contradiction
      | (rw [if_pos (.inl (by omega)), zk]; rfl)
      | (rw [if_pos (.inr (by omega)), zk]; rfl)
      | (rw [if_neg (by omega)]; rfl)
end Go.Proofs.YtgdonjndgjiocaaDoor
end

section
/- prefix, plain laws: one dimension's order. -/
namespace Go.Proofs.YtgdonjndgjiocaaDoor
open Go.Ve

theorem onD_iff {d : Dm} {l : Int} {k : Ky} : onD d l k = true ↔ rightK k = true ∧ 0 ≤ lenD d l ∧ k.kind = d.kind ∧ (k.len = lenD d l ∨ (k.kind = 3 ∧ k.len < lenD d l)) := by
  unfold onD; rw [Bool.and_eq_true, decide_eq_true_iff]
theorem len_ok_iff {d : Dm} {l : Int} : 0 ≤ lenD d l ↔ rightD d = true ∧ 0 ≤ l ∧ l ≤ depthD d := by
  unfold lenD
  split
  · rename_i h; exact ⟨fun _ => h, fun _ => by omega⟩
  · rename_i h; exact ⟨fun h' => by omega, fun h' => absurd h' h⟩
theorem lenD_anti {d : Dm} {a b : Int} (ha : 0 ≤ lenD d a) (hb : 0 ≤ lenD d b) (h : b ≤ a) : lenD d a ≤ lenD d b := by
  have h1 := len_ok_iff.1 ha
  have h2 := len_ok_iff.1 hb
  unfold lenD
  rw [if_pos h1, if_pos h2]
  have := Int.mul_le_mul_of_nonneg_right h (show 0 ≤ d.step by have := (rightD_step h1.1).2.1; omega)
  omega
theorem on_zero {d : Dm} {l : Int} : onD d l zeroK = false := by
  cases h : onD d l zeroK with
  | false => rfl
  | true => exact absurd (onD_iff.1 h).1 (by decide)
theorem cutD_eq {d : Dm} {l : Int} {k : Ky} (h : 0 ≤ lenD d l) (hk : k.kind = d.kind) : cutD d l k = cutU k (lenD d l) := by
  unfold cutD; rw [if_neg (by omega)]
theorem cutU_eq {k : Ky} (h : rightK k = true) (n : Int) : cutU k n = cutK k n := by unfold cutU; rw [h, cond_true]
theorem cut_all {k : Ky} (hn : k.n < 2 ^ 128) (h : rightK k = true) {n : Int} (hl : k.len ≤ n) : cutU k n = k := by
  rw [cutU_eq h]
  obtain ⟨c1, c2, c3⟩ := cut_right h n
  have := letters_len h
  refine letters_inj (cut_n hn n) hn c1 h c2 ?_
  rw [c3, List.take_of_length_le (by omega)]
theorem cut_self {d : Dm} {l : Int} {k : Ky} (hn : k.n < 2 ^ 128) (h : onD d l k = true) : cutD d l k = k := by
  obtain ⟨h1, h2, h3, h4⟩ := onD_iff.1 h
  rw [cutD_eq h2 h3]
  exact cut_all hn h1 (by omega)
theorem cut_len {k : Ky} (h : rightK k = true) (n : Int) (h0 : 0 ≤ n) : (cutU k n).len = min n k.len := by
  rw [cutU_eq h]
  obtain ⟨c1, c2, c3⟩ := cut_right h n
  have h1 := letters_len h
  have h2 := letters_len c1
  rw [c3, List.length_take] at h2
  omega
/-- Cut to a greater level, a key stands on that. -/
theorem cut_on {d : Dm} {a b : Int} {k : Ky} (h : onD d b k = true) (ha : 0 ≤ lenD d a) (hab : b ≤ a) : onD d a (cutD d a k) = true := by
  obtain ⟨h1, h2, h3, h4⟩ := onD_iff.1 h
  have hle := lenD_anti ha h2 hab
  have hl := cut_len h1 (lenD d a) ha
  rw [cutD_eq ha h3]
  rw [cutU_eq h1] at hl ⊢
  obtain ⟨c1, c2, c3⟩ := cut_right h1 (lenD d a)
  exact onD_iff.2 ⟨c1, ha, by rw [c2, h3], by rw [c2]; omega⟩
theorem cut_twice {d : Dm} {a b c : Int} {k : Ky} (hn : k.n < 2 ^ 128) (h : onD d c k = true) (ha : 0 ≤ lenD d a) (hb : 0 ≤ lenD d b) (hab : b ≤ a) : cutD d a (cutD d b k) = cutD d a k := by
  obtain ⟨h1, h2, h3, h4⟩ := onD_iff.1 h
  have hle := lenD_anti ha hb hab
  have hk : (cutD d b k).kind = d.kind := by
    rw [cutD_eq hb h3, cutU_eq h1, (cut_right h1 _).2.1, h3]
  rw [cutD_eq ha hk, cutD_eq ha h3, cutD_eq hb h3, cut_cut hn h1]
  split
  · rfl
  · rw [show lenD d b = lenD d a by omega]
/-! ### one dimension: the one over the other -/
/-- A level and a key of a dimension over another. -/
def RD (d : Dm) (a : Int) (k : Ky) (b : Int) (x : Ky) : Prop := onD d a k = true ∧ onD d b x = true ∧ b ≤ a ∧ k = cutD d a x
theorem RD.refl {d : Dm} {a : Int} {k : Ky} (hn : k.n < 2 ^ 128) (h : onD d a k = true) : RD d a k a k := ⟨h, h, Int.le_refl _, (cut_self hn h).symm⟩
theorem RD.same {d : Dm} {a : Int} {k x : Ky} (hx : x.n < 2 ^ 128) (h : RD d a k a x) : k = x := by rw [h.2.2.2, cut_self hx h.2.1]
theorem RD.anti {d : Dm} {a b : Int} {k x : Ky} (hx : x.n < 2 ^ 128) (h1 : RD d a k b x) (h2 : RD d b x a k) : a = b ∧ k = x := by
  have e : a = b := Int.le_antisymm h2.2.2.1 h1.2.2.1
  subst e
  exact ⟨rfl, h1.same hx⟩
theorem RD.trans {d : Dm} {a b c : Int} {k x y : Ky} (hy : y.n < 2 ^ 128) (h1 : RD d a k b x) (h2 : RD d b x c y) : RD d a k c y := by
  have ha := (onD_iff.1 h1.1).2.1
  have hb := (onD_iff.1 h2.1).2.1
  refine ⟨h1.1, h2.2.1, Int.le_trans h2.2.2.1 h1.2.2.1, ?_⟩
  rw [h1.2.2.2, h2.2.2.2, cut_twice hy h2.2.1 ha hb h1.2.2.1]
/-- Two that are over one: the one of the greater level is over the other. -/
theorem RD.chain {d : Dm} {a b c : Int} {k x y : Ky} (hy : y.n < 2 ^ 128) (h1 : RD d a k c y) (h2 : RD d b x c y) (hab : b ≤ a) : RD d a k b x := by
  have ha := (onD_iff.1 h1.1).2.1
  have hb := (onD_iff.1 h2.1).2.1
  refine ⟨h1.1, h2.1, hab, ?_⟩
  rw [h1.2.2.2, h2.2.2.2, cut_twice hy h2.2.1 ha hb hab]
theorem RD.of_cut {d : Dm} {a b : Int} {x : Ky} (h : onD d b x = true) (ha : 0 ≤ lenD d a) (hab : b ≤ a) : RD d a (cutD d a x) b x := ⟨cut_on h ha hab, h, hab, rfl⟩
theorem root_right {d : Dm} (h : rightD d = true) : rightK (rootK d.kind) = true ∧ (rootK d.kind).kind = d.kind ∧ (rootK d.kind).len = 0 ∧ lettersL (rootK d.kind) = [] ∧ (rootK d.kind).n < 2 ^ 128 := by
  obtain ⟨_, h1, h2⟩ := rightD_step h
  have hw : widthK d.kind ≠ 0 := by omega
  have hr : rootK d.kind = ⟨d.kind, 0, 0, []⟩ := by rw [rootK, if_neg hw]
  rw [hr]
  have hk : d.kind = 1 ∨ d.kind = 2 ∨ d.kind = 3 := by
    unfold widthK at hw
    by_cases k1 : d.kind = 1
    · exact .inl k1
    · by_cases k2 : d.kind = 2
      · exact .inr (.inl k2)
      · by_cases k3 : d.kind = 3
        · exact .inr (.inr k3)
        · rw [if_neg k1, if_neg k2, if_neg k3] at hw; exact absurd rfl hw
  refine ⟨?_, rfl, rfl, ?_, Nat.two_pow_pos 128⟩
  · rcases hk with k | k | k <;> rw [k] <;> decide
  · rcases hk with k | k | k <;> rw [k] <;> decide
theorem depth_len {d : Dm} (h : rightD d = true) : lenD d (depthD d) = 0 := by
  have hd := @depthD_le d
  rw [lenD, if_pos ⟨h, hd.1, Int.le_refl _⟩, depthD_eq h]
  obtain ⟨_, h1, h2⟩ := rightD_step h
  have h3 := Int.lt_ediv_add_one_mul_self (widthK d.kind + d.step - 1) (show 0 < d.step by omega)
  rw [Int.add_mul] at h3
  omega
/-- The root is over whatever stands on a level. -/
theorem RD.top {d : Dm} {b : Int} {x : Ky} (hx : x.n < 2 ^ 128) (h : onD d b x = true) : RD d (depthD d) (rootK d.kind) b x := by
  obtain ⟨h1, h2, h3, h4⟩ := onD_iff.1 h
  obtain ⟨g1, g2, g3⟩ := len_ok_iff.1 h2
  obtain ⟨r1, r2, r3, r4, r5⟩ := root_right g1
  have hl := depth_len g1
  refine ⟨onD_iff.2 ⟨r1, by omega, r2, by omega⟩, h, g3, ?_⟩
  rw [cutD_eq (by omega) h3, hl, cutU_eq h1]
  obtain ⟨c1, c2, c3⟩ := cut_right h1 0
  refine letters_inj r5 (cut_n hx 0) r1 c1 (by rw [r2, c2, h3]) ?_
  rw [c3, r4]; rfl
end Go.Proofs.YtgdonjndgjiocaaDoor
end

section
/- prefix, plain laws: prefixes over each other. -/
namespace Go.Proofs.YtgdonjndgjiocaaDoor
open Go.Ve

/-- The second dimension's relation; where there is one dimension alone: both have nothing. -/
def R1 (s : Sp) (a : Int) (k : Ky) (b : Int) (x : Ky) : Prop := if s.n = 1 then a = 0 ∧ k = zeroK ∧ b = 0 ∧ x = zeroK else RD s.d1 a k b x
structure DirOk (R : Int → Ky → Int → Ky → Prop) : Prop where
  l : ∀ {a b : Int} {k x : Ky}, k.n < 2 ^ 128 → R a k b x → R a k a k
  r : ∀ {a b : Int} {k x : Ky}, x.n < 2 ^ 128 → R a k b x → R b x b x
  le : ∀ {a b : Int} {k x : Ky}, R a k b x → b ≤ a
  same : ∀ {a : Int} {k x : Ky}, x.n < 2 ^ 128 → R a k a x → k = x
  trans : ∀ {a b c : Int} {k x y : Ky}, y.n < 2 ^ 128 → R a k b x → R b x c y → R a k c y
  chain : ∀ {a b c : Int} {k x y : Ky}, y.n < 2 ^ 128 → R a k c y → R b x c y → b ≤ a → R a k b x
theorem dirD (d : Dm) : DirOk (RD d) := ⟨fun h1 h => RD.refl h1 h.1, fun h1 h => RD.refl h1 h.2.1, fun h => h.2.2.1, fun h1 h => h.same h1, fun h1 h h' => h.trans h1 h', fun h1 h h' h2 => h.chain h1 h' h2⟩
theorem dir1 (s : Sp) : DirOk (R1 s) := by
  by_cases hn : s.n = 1
  · have e : R1 s = fun a k b x => a = 0 ∧ k = zeroK ∧ b = 0 ∧ x = zeroK := by
      funext a k b x; unfold R1; rw [if_pos hn]
    rw [e]
    exact ⟨fun _ h => ⟨h.1, h.2.1, h.1, h.2.1⟩, fun _ h => ⟨h.2.2.1, h.2.2.2, h.2.2.1, h.2.2.2⟩, fun h => by rw [h.1, h.2.2.1]; exact Int.le_refl _, fun _ h => h.2.1.trans h.2.2.2.symm,
      fun _ h h' => ⟨h.1, h.2.1, h'.2.2.1, h'.2.2.2⟩, fun _ h h' _ => ⟨h.1, h.2.1, h'.1, h'.2.1⟩⟩
  · have e : R1 s = RD s.d1 := by funext a k b x; unfold R1; rw [if_neg hn]
    rw [e]; exact dirD _
theorem rightP_iff {s : Sp} {p : Px} (hp : POk p) : rightP s p = true ↔ soundS s = true ∧ RD s.d0 p.a0 p.k0 p.a0 p.k0 ∧ R1 s p.a1 p.k1 p.a1 p.k1 := by
  unfold rightP R1
  rw [Bool.and_eq_true, Bool.and_eq_true]
  by_cases hn : s.n = 1
  · rw [decide_eq_true hn, cond_true, if_pos hn, decide_eq_true_iff]
    exact ⟨fun ⟨⟨h1, h2⟩, h3, h4⟩ => ⟨h1, RD.refl hp.n0 h2, h3, h4, h3, h4⟩, fun ⟨h1, h2, h3, h4, _⟩ => ⟨⟨h1, h2.1⟩, h3, h4⟩⟩
  · rw [decide_eq_false hn, cond_false, if_neg hn]
    exact ⟨fun ⟨⟨h1, h2⟩, h3⟩ => ⟨h1, RD.refl hp.n0 h2, RD.refl hp.n1 h3⟩, fun ⟨h1, h2, h3⟩ => ⟨⟨h1, h2.1⟩, h3.1⟩⟩
theorem zero_notright (s : Sp) : rightP s zeroP = false := by
  unfold rightP
  rw [show onD s.d0 zeroP.a0 zeroP.k0 = false from on_zero, Bool.and_false, Bool.false_and]
theorem lenD_zero (l : Int) : lenD zeroD l = -1 := by
  unfold lenD; rw [if_neg (fun h => absurd h.1 (by decide))]
theorem sound_one {s : Sp} (h : soundS s = true) (hn : s.n = 1) : s.d1 = zeroD := by
  rcases sound_cases h with h | h
  · exact h.2.2
  · omega
theorem up_eq {s : Sp} {q : Px} {i j : Int} (h : rightP s q = true) (h1 : q.a0 ≤ i) (h2 : q.a1 ≤ j) : upP s q i j = orN s ⟨i, j, cutD s.d0 i q.k0, cutD s.d1 j q.k1⟩ := by
  unfold upP; rw [h, decide_eq_true ⟨h1, h2⟩]; rfl
theorem over_iffP {s : Sp} {p q : Px} (hp : POk p) (hq : POk q) : overP s p q = true ↔ soundS s = true ∧ RD s.d0 p.a0 p.k0 q.a0 q.k0 ∧ R1 s p.a1 p.k1 q.a1 q.k1 := by
  unfold overP
  rw [Bool.and_eq_true, Bool.and_eq_true, rightP_iff hp, rightP_iff hq, decide_eq_true_iff]
  refine ⟨fun ⟨⟨⟨h1, h2, h3⟩, ⟨_, h4, h5⟩⟩, h6, h7, h8⟩ => ?_, fun ⟨h1, h2, h3⟩ => ?_⟩
  · have hr : rightP s p = true := (rightP_iff hp).2 ⟨h1, h2, h3⟩
    rw [up_eq ((rightP_iff hq).2 ⟨h1, h4, h5⟩) h6 h7] at h8
    unfold orN at h8
    cases hr2 : rightP s ⟨p.a0, p.a1, cutD s.d0 p.a0 q.k0, cutD s.d1 p.a1 q.k1⟩
    · rw [hr2, cond_false] at h8
      rw [h8, zero_notright] at hr; cases hr
    · rw [hr2, cond_true] at h8
      have e0 : p.k0 = cutD s.d0 p.a0 q.k0 := congrArg Px.k0 h8
      have e1 : p.k1 = cutD s.d1 p.a1 q.k1 := congrArg Px.k1 h8
      refine ⟨h1, ⟨h2.1, h4.1, h6, e0⟩, ?_⟩
      unfold R1 at h3 h5 ⊢
      by_cases hn : s.n = 1
      · rw [if_pos hn] at h3 h5 ⊢
        exact ⟨h3.1, h3.2.1, h5.1, h5.2.1⟩
      · rw [if_neg hn] at h3 h5 ⊢
        exact ⟨h3.1, h5.1, h7, e1⟩
  · have g1 := (dirD s.d0).l hp.n0 h2
    have g2 := (dirD s.d0).r hq.n0 h2
    have g3 := (dir1 s).l hp.n1 h3
    have g4 := (dir1 s).r hq.n1 h3
    have k1 := (dirD s.d0).le h2
    have k2 := (dir1 s).le h3
    refine ⟨⟨⟨h1, g1, g3⟩, ⟨h1, g2, g4⟩⟩, k1, k2, ?_⟩
    rw [up_eq ((rightP_iff hq).2 ⟨h1, g2, g4⟩) k1 k2]
    have e1 : p.k1 = cutD s.d1 p.a1 q.k1 := by
      unfold R1 at h3
      by_cases hn : s.n = 1
      · rw [if_pos hn] at h3
        rw [sound_one h1 hn, h3.2.1]
        unfold cutD; rw [if_pos (.inl (by rw [lenD_zero]; decide))]
      · rw [if_neg hn] at h3
        exact h3.2.2.2
    have e : (⟨p.a0, p.a1, cutD s.d0 p.a0 q.k0, cutD s.d1 p.a1 q.k1⟩ : Px) = p := px_ext rfl rfl h2.2.2.2.symm e1.symm
    rw [e]
    unfold orN
    rw [(rightP_iff hp).2 ⟨h1, g1, g3⟩, cond_true]
theorem topP_ok (s : Sp) : POk (topP s) := by
  have hz : ∀ kind, (rootK kind).n = 0 ∧ (rootK kind).path = [] := fun kind => by unfold rootK; split <;> exact ⟨rfl, rfl⟩
  unfold topP
  cases soundS s
  · exact ⟨Nat.two_pow_pos 128, Nat.two_pow_pos 128, Nat.zero_le _, Nat.zero_le _⟩
  · refine ⟨?_, ?_, ?_, ?_⟩
    · show (rootK _).n < _; rw [(hz _).1]; exact Nat.two_pow_pos 128
    · show (rootK _).n < _; rw [(hz _).1]; exact Nat.two_pow_pos 128
    · show (rootK _).path.length ≤ _; rw [(hz _).2]; exact Nat.zero_le _
    · show (rootK _).path.length ≤ _; rw [(hz _).2]; exact Nat.zero_le _
theorem over_topP {s : Sp} {p : Px} (hp : POk p) : overP s (topP s) p = rightP s p := by
  rw [Bool.eq_iff_iff, over_iffP (topP_ok s) hp, rightP_iff hp]
  refine ⟨fun ⟨h1, h2, h3⟩ => ⟨h1, (dirD _).r hp.n0 h2, (dir1 s).r hp.n1 h3⟩, fun ⟨h1, h2, h3⟩ => ⟨h1, ?_, ?_⟩⟩
  · unfold topP; rw [h1, cond_true]; exact RD.top hp.n0 h2.1
  · unfold topP; rw [h1, cond_true]
    unfold R1 at h3 ⊢
    by_cases hn : s.n = 1
    · rw [if_pos hn] at h3 ⊢
      rw [sound_one h1 hn]
      exact ⟨show depthD zeroD = 0 by decide, show rootK zeroD.kind = zeroK by decide, h3.1, h3.2.1⟩
    · rw [if_neg hn] at h3 ⊢
      exact RD.top hp.n1 h3.1
theorem over_reflP {s : Sp} {p : Px} (hp : POk p) : overP s p p = rightP s p := by
  rw [Bool.eq_iff_iff, over_iffP hp hp, rightP_iff hp]
theorem over_antiP {s : Sp} {p q : Px} (hp : POk p) (hq : POk q) (h1 : overP s p q = true) (h2 : overP s q p = true) : p = q := by
  obtain ⟨_, a1, a2⟩ := (over_iffP hp hq).1 h1
  obtain ⟨_, b1, b2⟩ := (over_iffP hq hp).1 h2
  have e0 : p.a0 = q.a0 := Int.le_antisymm ((dirD _).le b1) ((dirD _).le a1)
  have e1 : p.a1 = q.a1 := Int.le_antisymm ((dir1 s).le b2) ((dir1 s).le a2)
  rw [e0] at a1
  rw [e1] at a2
  exact px_ext e0 e1 ((dirD _).same hq.n0 a1) ((dir1 s).same hq.n1 a2)
theorem over_transP {s : Sp} {p q x : Px} (hp : POk p) (hq : POk q) (hx : POk x) (h1 : overP s p q = true) (h2 : overP s q x = true) : overP s p x = true := by
  obtain ⟨s1, a1, a2⟩ := (over_iffP hp hq).1 h1
  obtain ⟨_, b1, b2⟩ := (over_iffP hq hx).1 h2
  exact (over_iffP hp hx).2 ⟨s1, (dirD _).trans hx.n0 a1 b1, (dir1 s).trans hx.n1 a2 b2⟩
end Go.Proofs.YtgdonjndgjiocaaDoor
end

section
/- prefix, the document's answer: Sound, Right, Leaf, Top. -/
namespace Go.Proofs.YtgdonjndgjiocaaDoor
open Go.Ve

theorem r9Sound_ok (s : Sp) : PCall P 44 [spv s] (.bool (soundS s)) := by
  have q1 := r8Right_ok s.d0
  have q2 := r8Right_ok s.d1
  have ez : (s.d1.kind = 0 ∧ s.d1.side = 0 ∧ s.d1.step = 0) ↔ s.d1 = zeroD := ⟨fun h => dm_ext h.1 h.2.1 h.2.2, fun h => by rw [h]; exact ⟨rfl, rfl, rfl⟩⟩
  unfold soundS
  generalize rightD s.d0 = r0 at *
  generalize rightD s.d1 = r1 at *
  cases r0 <;> cases r1
  all_goals (
    refine PCall.of_awp tok mixed fn44 (Nat.le_of_ble_eq_true rfl) ?_
    (conv => whnf); (repeat' first | ((with_reducible refine Box.mk ?_); conv => whnf) | ((with_reducible refine And.intro (fun _ => ?_) (fun _ => ?_)) <;> conv => whnf) | ((with_reducible show AYld _ _ _ _ _); (refine AYld.of tok mixed ?_); conv => whnf) | ((with_reducible show forceH _ _); (refine (forceH_eq _ _).mpr ?_); conv => whnf) | ((with_reducible show ACall _ _ _ _ _); (refine ACall.of_pure (by assumption) (by rfl) ?_); conv => whnf) | ((with_reducible show Exists _); (refine ⟨_, ACall.of_pure (by assumption) (by rfl) ⟨rfl, rfl⟩, ?_⟩); conv => whnf) | ((with_reducible show ∃ L, drawR L _ = true ∧ _); (refine ⟨[], by kernel_rfl, ?_⟩); conv => whnf) | ((with_reducible show _ ∧ _ ∧ _); (refine ⟨by omega, by omega, ?_⟩); conv => whnf) | fail)
    all_goals first
      | contradiction
      | exact bool_true (decide_eq_true (.inr ⟨by assumption, rfl, rfl⟩))
      | exact bool_true (decide_eq_true (.inl ⟨by assumption, rfl, ez.1 (by assumption)⟩))
      | (refine bool_false (decide_eq_false ?_)
         rintro (⟨h1, h2, h3⟩ | ⟨h1, h2, h3⟩)
         all_goals first
           | contradiction
           | omega
           | exact absurd (ez.2 h3) (by assumption)))
theorem r9Right_ok (s : Sp) (p : Px) (hp : POk p) : PCall P 51 [spv s, pxv p] (.bool (rightP s p)) := by
  have p0 := hp.p0
  have p1 := hp.p1
  have q1 := r9Sound_ok s
  have q2 := r8On_ok s.d0 p.a0 p.k0 (by omega)
  have q3 := r8On_ok s.d1 p.a1 p.k1 (by omega)
  have ez : (p.k1.kind = 0 ∧ p.k1.len = 0 ∧ ((p.k1.n / H64 : Nat) : Int) = 0 ∧ ((p.k1.n % H64 : Nat) : Int) = 0 ∧ p.k1.path = []) ↔ p.k1 = zeroK := kv_eq (b := zeroK)
  unfold rightP
  generalize onD s.d0 p.a0 p.k0 = o0 at *
  generalize onD s.d1 p.a1 p.k1 = o1 at *
  generalize soundS s = so at *
  cases so <;> cases o0 <;> cases o1
  all_goals (
    refine PCall.of_awp tok mixed fn51 (Nat.le_of_ble_eq_true rfl) ?_
    (conv => whnf); (repeat' first | ((with_reducible refine Box.mk ?_); conv => whnf) | ((with_reducible refine And.intro (fun _ => ?_) (fun _ => ?_)) <;> conv => whnf) | ((with_reducible show AYld _ _ _ _ _); (refine AYld.of tok mixed ?_); conv => whnf) | ((with_reducible show forceH _ _); (refine (forceH_eq _ _).mpr ?_); conv => whnf) | ((with_reducible show ACall _ _ _ _ _); (refine ACall.of_pure (by assumption) (by rfl) ?_); conv => whnf) | ((with_reducible show Exists _); (refine ⟨_, ACall.of_pure (by assumption) (by rfl) ⟨rfl, rfl⟩, ?_⟩); conv => whnf) | ((with_reducible show ∃ L, drawR L _ = true ∧ _); (refine ⟨[], by kernel_rfl, ?_⟩); conv => whnf) | ((with_reducible show _ ∧ _ ∧ _); (refine ⟨by omega, by omega, ?_⟩); conv => whnf) | fail)
    all_goals first
      | contradiction
      | rfl
      | (rw [decide_eq_true (by assumption), cond_true]
         first
           | (show AV.bool true = AV.bool (decide (p.a1 = 0 ∧ p.k1 = zeroK)); exact bool_true (decide_eq_true ⟨by assumption, ez.1 (by assumption)⟩))
           | (show AV.bool false = AV.bool (decide (p.a1 = 0 ∧ p.k1 = zeroK)); exact bool_false (decide_eq_false fun h => absurd (ez.2 h.2) (by assumption)))
           | (show AV.bool false = AV.bool (decide (p.a1 = 0 ∧ p.k1 = zeroK)); exact bool_false (decide_eq_false fun h => absurd h.1 (by assumption))))
      | (rw [decide_eq_false (by assumption), cond_false]; rfl))
theorem top_one {s : Sp} (h : soundS s = true) (hn : s.n = 1) : depthD s.d1 = 0 ∧ rootK s.d1.kind = zeroK := by
  rw [sound_one h hn]; exact ⟨by decide, by decide⟩
end Go.Proofs.YtgdonjndgjiocaaDoor
end

section
/- grid: the nodes as lists; the document's answer for these. -/
namespace Go.Proofs.YtgdonjndgjiocaaDoor
open Go.Ve

/-- The nodes gone through; the heap of the caller by what has come. -/
theorem walk_iterH (s : Sp) (hs : soundS s = true) (id : Nat) (H0 : Hp) (Hs : List (Nat × Nat) → Hp → Hp) (K : Hp → Prop) (h0 : Hs [] H0 = H0)
    (hstep : ∀ pre p, pre ++ [p] <+: nodesN (gA s) (gB s) → AYld P id [.int .i64 (pre.length : Int), .agg (ncs p)] (Hs pre H0) (fun r H' =>
      (r = .bool true ∧ ∃ L, okL H'.length L = true ∧ preL 0 H0.length L = true ∧ gOf L 0 id = some id ∧ heapOf (gOf L 0) H' L = Hs (pre ++ [p]) H0) ∨ (r = .bool false ∧ K H')))
    (hend : K (Hs (nodesN (gA s) (gB s)) H0)) : ACall P 48 [.own id, .cptr (scs s)] H0 (fun _ H' => K H') := by
  refine walk_iter s hs id H0 (fun pre H => H = Hs pre H0) K h0.symm (fun pre p H hp hI => ?_) (fun H hI => by rw [hI]; exact hend)
  rw [hI]
  refine (hstep pre p hp).mono fun r H' hr => ?_
  rcases hr with ⟨h1, L, h2, h3, h4, h5⟩ | hr
  · exact .inl ⟨h1, L, _, h2, h3, h4, h5, rfl⟩
  · exact .inr hr

def nodeH : List (Nat × Nat) → Hp → Hp
  | [], H => H
  | x :: r, H => H.set 1 (.box 42 [.own 3]) ++ [.row 27 2 (ncl (x :: r))]
theorem nodeH_snoc (pre : List (Nat × Nat)) (p : Nat × Nat) (H : Hp) : nodeH (pre ++ [p]) H = H.set 1 (.box 42 [.own 3]) ++ [.row 27 2 (ncl pre ++ [ncs p])] := by
  rw [ncl_snoc]
  cases pre with
  | nil => rfl
  | cons x r => rfl
theorem gNodes_ok (s : Sp) : PCall P 19 [spv s] (nvl (nds s)) := by
  have q1 := gWalk_ok s
  have hN := nds_len s
  cases hs : soundS s
  · rw [nds_no hs]
    refine PCall.of_awp tok mixed fn19 (Nat.le_of_ble_eq_true rfl) ?_
    (conv => whnf); (repeat' first | ((with_reducible refine Box.mk ?_); conv => whnf) | ((with_reducible refine And.intro (fun _ => ?_) (fun _ => ?_)) <;> conv => whnf) | ((with_reducible show AYld _ _ _ _ _); (refine AYld.of tok mixed ?_); conv => whnf) | ((with_reducible show forceH _ _); (refine (forceH_eq _ _).mpr ?_); conv => whnf) | ((with_reducible show ACall _ _ _ _ _); (refine ACall.of_pure (by assumption) (by rfl) ?_); conv => whnf) | ((with_reducible show Exists _); (refine ⟨_, ACall.of_pure (by assumption) (by rfl) ⟨rfl, rfl⟩, ?_⟩); conv => whnf) | ((with_reducible show ∃ L, drawR L _ = true ∧ _); (refine ⟨[], by kernel_rfl, ?_⟩); conv => whnf) | ((with_reducible show _ ∧ _ ∧ _); (refine ⟨by omega, by omega, ?_⟩); conv => whnf) | fail)
    refine arange [(1, .ptr 0 0), (3, .ptr 1 0)] ⟨rfl, rfl, trivial⟩ rfl trivial ?_
    refine walk_none s hs _ _ _ ?_
    (conv => whnf); (repeat' first | ((with_reducible refine Box.mk ?_); conv => whnf) | ((with_reducible refine And.intro (fun _ => ?_) (fun _ => ?_)) <;> conv => whnf) | ((with_reducible show AYld _ _ _ _ _); (refine AYld.of tok mixed ?_); conv => whnf) | ((with_reducible show forceH _ _); (refine (forceH_eq _ _).mpr ?_); conv => whnf) | ((with_reducible show ACall _ _ _ _ _); (refine ACall.of_pure (by assumption) (by rfl) ?_); conv => whnf) | ((with_reducible show Exists _); (refine ⟨_, ACall.of_pure (by assumption) (by rfl) ⟨rfl, rfl⟩, ?_⟩); conv => whnf) | ((with_reducible show ∃ L, drawR L _ = true ∧ _); (refine ⟨[], by kernel_rfl, ?_⟩); conv => whnf) | ((with_reducible show _ ∧ _ ∧ _); (refine ⟨by omega, by omega, ?_⟩); conv => whnf) | fail)
    rfl
  · rw [nds_yes hs] at hN ⊢
    rw [nvl_sl (nodes_ne _ _)]
    refine PCall.of_awp tok mixed fn19 (Nat.le_of_ble_eq_true rfl) ?_
    (conv => whnf); (repeat' first | ((with_reducible refine Box.mk ?_); conv => whnf) | ((with_reducible refine And.intro (fun _ => ?_) (fun _ => ?_)) <;> conv => whnf) | ((with_reducible show AYld _ _ _ _ _); (refine AYld.of tok mixed ?_); conv => whnf) | ((with_reducible show forceH _ _); (refine (forceH_eq _ _).mpr ?_); conv => whnf) | ((with_reducible show ACall _ _ _ _ _); (refine ACall.of_pure (by assumption) (by rfl) ?_); conv => whnf) | ((with_reducible show Exists _); (refine ⟨_, ACall.of_pure (by assumption) (by rfl) ⟨rfl, rfl⟩, ?_⟩); conv => whnf) | ((with_reducible show ∃ L, drawR L _ = true ∧ _); (refine ⟨[], by kernel_rfl, ?_⟩); conv => whnf) | ((with_reducible show _ ∧ _ ∧ _); (refine ⟨by omega, by omega, ?_⟩); conv => whnf) | fail)
    refine arange [(1, .ptr 0 0), (3, .ptr 1 0)] ⟨rfl, rfl, trivial⟩ rfl trivial ?_
    refine walk_iterH s hs _ _ nodeH _ rfl (fun pre p hp => ?_) ?_
    · have hle := hp.length_le
      rw [List.length_append, List.length_singleton] at hle
      have hnl := ncl_len pre
      rw [nodeH_snoc]
      cases pre with
      | nil =>
        (conv => whnf); (repeat' first | ((with_reducible refine Box.mk ?_); conv => whnf) | ((with_reducible refine And.intro (fun _ => ?_) (fun _ => ?_)) <;> conv => whnf) | ((with_reducible show AYld _ _ _ _ _); (refine AYld.of tok mixed ?_); conv => whnf) | ((with_reducible show forceH _ _); (refine (forceH_eq _ _).mpr ?_); conv => whnf) | ((with_reducible show ACall _ _ _ _ _); (refine ACall.of_pure (by assumption) (by rfl) ?_); conv => whnf) | ((with_reducible show Exists _); (refine ⟨_, ACall.of_pure (by assumption) (by rfl) ⟨rfl, rfl⟩, ?_⟩); conv => whnf) | ((with_reducible show ∃ L, drawR L _ = true ∧ _); (refine ⟨[], by kernel_rfl, ?_⟩); conv => whnf) | ((with_reducible show _ ∧ _ ∧ _); (refine ⟨by omega, by omega, ?_⟩); conv => whnf) | fail)
        refine ⟨fun c hc => by rw [List.mem_singleton.1 hc]; exact ⟨rfl, rfl⟩, fun h => (by cases h), fun _ => ⟨Nat.le_of_ble_eq_true rfl, Nat.le_of_ble_eq_true rfl, ?_⟩⟩
        (conv => whnf); (repeat' first | ((with_reducible refine Box.mk ?_); conv => whnf) | ((with_reducible refine And.intro (fun _ => ?_) (fun _ => ?_)) <;> conv => whnf) | ((with_reducible show AYld _ _ _ _ _); (refine AYld.of tok mixed ?_); conv => whnf) | ((with_reducible show forceH _ _); (refine (forceH_eq _ _).mpr ?_); conv => whnf) | ((with_reducible show ACall _ _ _ _ _); (refine ACall.of_pure (by assumption) (by rfl) ?_); conv => whnf) | ((with_reducible show Exists _); (refine ⟨_, ACall.of_pure (by assumption) (by rfl) ⟨rfl, rfl⟩, ?_⟩); conv => whnf) | ((with_reducible show ∃ L, drawR L _ = true ∧ _); (refine ⟨[], by kernel_rfl, ?_⟩); conv => whnf) | ((with_reducible show _ ∧ _ ∧ _); (refine ⟨by omega, by omega, ?_⟩); conv => whnf) | fail)
        exact .inl ⟨rfl, [(0, true), (1, true), (2, true), (5, true)], rfl, rfl, rfl, rfl⟩
      | cons x r =>
        (conv => whnf); (repeat' first | ((with_reducible refine Box.mk ?_); conv => whnf) | ((with_reducible refine And.intro (fun _ => ?_) (fun _ => ?_)) <;> conv => whnf) | ((with_reducible show AYld _ _ _ _ _); (refine AYld.of tok mixed ?_); conv => whnf) | ((with_reducible show forceH _ _); (refine (forceH_eq _ _).mpr ?_); conv => whnf) | ((with_reducible show ACall _ _ _ _ _); (refine ACall.of_pure (by assumption) (by rfl) ?_); conv => whnf) | ((with_reducible show Exists _); (refine ⟨_, ACall.of_pure (by assumption) (by rfl) ⟨rfl, rfl⟩, ?_⟩); conv => whnf) | ((with_reducible show ∃ L, drawR L _ = true ∧ _); (refine ⟨[], by kernel_rfl, ?_⟩); conv => whnf) | ((with_reducible show _ ∧ _ ∧ _); (refine ⟨by omega, by omega, ?_⟩); conv => whnf) | fail)
        refine ⟨fun c hc => by rw [List.mem_singleton.1 hc]; exact ⟨rfl, rfl⟩, by rw [hnl]; show (_ + 1) * 16 ≤ _; omega, by rw [hnl]; show _ + 1 ≤ _; omega, ?_⟩
        (conv => whnf); (repeat' first | ((with_reducible refine Box.mk ?_); conv => whnf) | ((with_reducible refine And.intro (fun _ => ?_) (fun _ => ?_)) <;> conv => whnf) | ((with_reducible show AYld _ _ _ _ _); (refine AYld.of tok mixed ?_); conv => whnf) | ((with_reducible show forceH _ _); (refine (forceH_eq _ _).mpr ?_); conv => whnf) | ((with_reducible show ACall _ _ _ _ _); (refine ACall.of_pure (by assumption) (by rfl) ?_); conv => whnf) | ((with_reducible show Exists _); (refine ⟨_, ACall.of_pure (by assumption) (by rfl) ⟨rfl, rfl⟩, ?_⟩); conv => whnf) | ((with_reducible show ∃ L, drawR L _ = true ∧ _); (refine ⟨[], by kernel_rfl, ?_⟩); conv => whnf) | ((with_reducible show _ ∧ _ ∧ _); (refine ⟨by omega, by omega, ?_⟩); conv => whnf) | fail)
        exact .inl ⟨rfl, [(0, true), (1, true), (2, true), (6, true)], rfl, rfl, rfl, rfl⟩
    · cases hn : nodesN (gA s) (gB s) with
      | nil => exact absurd hn (nodes_ne _ _)
      | cons x r =>
        (conv => whnf); (repeat' first | ((with_reducible refine Box.mk ?_); conv => whnf) | ((with_reducible refine And.intro (fun _ => ?_) (fun _ => ?_)) <;> conv => whnf) | ((with_reducible show AYld _ _ _ _ _); (refine AYld.of tok mixed ?_); conv => whnf) | ((with_reducible show forceH _ _); (refine (forceH_eq _ _).mpr ?_); conv => whnf) | ((with_reducible show ACall _ _ _ _ _); (refine ACall.of_pure (by assumption) (by rfl) ?_); conv => whnf) | ((with_reducible show Exists _); (refine ⟨_, ACall.of_pure (by assumption) (by rfl) ⟨rfl, rfl⟩, ?_⟩); conv => whnf) | ((with_reducible show ∃ L, drawR L _ = true ∧ _); (refine ⟨[], by kernel_rfl, ?_⟩); conv => whnf) | ((with_reducible show _ ∧ _ ∧ _); (refine ⟨by omega, by omega, ?_⟩); conv => whnf) | fail)
        rfl
def nv1 : List (Nat × Nat) → AV
  | [] => .nils
  | _ :: _ => .own 1
def nh1 : List (Nat × Nat) → Hp → Hp
  | [], H => H
  | x :: r, H => H ++ [.row 27 2 (ncl (x :: r))]
theorem gOn_ok (s : Sp) (h : Int) : PCall P 22 [spv s, .int .i64 h] (nvl (bif soundS s && decide (0 ≤ h ∧ h ≤ ((gA s + gB s : Nat) : Int)) then rowN (gA s) (gB s) h.toNat else [])) := by
  have q1 := sound_ok s
  have q2 := tall_ok s
  cases hs : soundS s
  · rw [hs] at q1
    refine PCall.of_awp tok mixed fn22 (Nat.le_of_ble_eq_true rfl) ?_
    (conv => whnf); (repeat' first | ((with_reducible refine Box.mk ?_); conv => whnf) | ((with_reducible refine And.intro (fun _ => ?_) (fun _ => ?_)) <;> conv => whnf) | ((with_reducible show AYld _ _ _ _ _); (refine AYld.of tok mixed ?_); conv => whnf) | ((with_reducible show forceH _ _); (refine (forceH_eq _ _).mpr ?_); conv => whnf) | ((with_reducible show ACall _ _ _ _ _); (refine ACall.of_pure (by assumption) (by rfl) ?_); conv => whnf) | ((with_reducible show Exists _); (refine ⟨_, ACall.of_pure (by assumption) (by rfl) ⟨rfl, rfl⟩, ?_⟩); conv => whnf) | ((with_reducible show ∃ L, drawR L _ = true ∧ _); (refine ⟨[], by kernel_rfl, ?_⟩); conv => whnf) | ((with_reducible show _ ∧ _ ∧ _); (refine ⟨by omega, by omega, ?_⟩); conv => whnf) | fail)
    all_goals first
      | contradiction
      | rfl
  · rw [hs] at q1
    obtain ⟨g1, g2⟩ := g_le s
    by_cases hh : 0 ≤ h ∧ h ≤ ((gA s + gB s : Nat) : Int)
    · obtain ⟨k, rfl⟩ : ∃ k : Nat, h = k := ⟨h.toNat, by omega⟩
      rw [decide_eq_true hh, Bool.true_and, cond_true, Int.toNat_natCast]
      have q3 := span_ok s k (by omega)
      generalize gA s = a at *
      generalize gB s = b at *
      have hcd : cntN a b k = min k a + 1 - (k - b) := rfl
      have hcl := cntN_le a b k
      have htk := fun (t : Nat) ht => rowN_take (a := a) (b := b) (h := k) (t := t) ht
      have hrl := rowN_len a b k
      have htl : ∀ t, t ≤ cntN a b k → ((rowN a b k).take t).length = t := fun t ht => by rw [List.length_take, hrl]; omega
      have hall : (rowN a b k).take (cntN a b k) = rowN a b k := by rw [← hrl, List.take_length]
      refine PCall.of_awp tok mixed fn22 (Nat.le_of_ble_eq_true rfl) ?_
      (conv => whnf); (repeat' first | ((with_reducible refine Box.mk ?_); conv => whnf) | ((with_reducible refine And.intro (fun _ => ?_) (fun _ => ?_)) <;> conv => whnf) | ((with_reducible show AYld _ _ _ _ _); (refine AYld.of tok mixed ?_); conv => whnf) | ((with_reducible show forceH _ _); (refine (forceH_eq _ _).mpr ?_); conv => whnf) | ((with_reducible show ACall _ _ _ _ _); (refine ACall.of_pure (by assumption) (by rfl) ?_); conv => whnf) | ((with_reducible show Exists _); (refine ⟨_, ACall.of_pure (by assumption) (by rfl) ⟨rfl, rfl⟩, ?_⟩); conv => whnf) | ((with_reducible show ∃ L, drawR L _ = true ∧ _); (refine ⟨[], by kernel_rfl, ?_⟩); conv => whnf) | ((with_reducible show _ ∧ _ ∧ _); (refine ⟨by omega, by omega, ?_⟩); conv => whnf) | fail)
      all_goals try (exfalso; omega)
      refine aloopH (fun x : Nat × List (Nat × Nat) => x.1 ≤ cntN a b k ∧ x.2 = (rowN a b k).take x.1) (fun x => [(1, .int .i64 k), (5, nv1 x.2), (7, .int .i64 ((min k a : Nat) : Int)), (8, .int .i64 ((k - b + x.1 : Nat) : Int))]) (fun x => nh1 x.2) (fun x => cntN a b k - x.1) (0, [])
        ⟨Nat.zero_le _, rfl⟩ (weak_to ⟨rfl, rfl, rfl, rfl, trivial⟩ rfl) ?_
      rintro ⟨t, l⟩ ⟨ht, hl⟩
      have ht : t ≤ cntN a b k := ht
      have hl : l = (rowN a b k).take t := hl
      have hll : l.length = t := by rw [hl]; exact htl t ht
      have hnl := ncl_len l
      have e3 : t < cntN a b k → IntKind.i64.wrap ((k : Int) - ((k - b + t : Nat) : Int)) = ((k - (k - b + t) : Nat) : Int) := fun h => by rw [wrap_i64 (by omega) (by omega)]; omega
      have e4 : IntKind.i64.wrap (((k - b + t : Nat) : Int) + 1) = ((k - b + (t + 1) : Nat) : Int) := by rw [wrap_i64 (by omega) (by omega)]; omega
      cases l with
      | nil =>
        (conv => whnf); (repeat' first | ((with_reducible refine Box.mk ?_); conv => whnf) | ((with_reducible refine And.intro (fun _ => ?_) (fun _ => ?_)) <;> conv => whnf) | ((with_reducible show AYld _ _ _ _ _); (refine AYld.of tok mixed ?_); conv => whnf) | ((with_reducible show forceH _ _); (refine (forceH_eq _ _).mpr ?_); conv => whnf) | ((with_reducible show ACall _ _ _ _ _); (refine ACall.of_pure (by assumption) (by rfl) ?_); conv => whnf) | ((with_reducible show Exists _); (refine ⟨_, ACall.of_pure (by assumption) (by rfl) ⟨rfl, rfl⟩, ?_⟩); conv => whnf) | ((with_reducible show ∃ L, drawR L _ = true ∧ _); (refine ⟨[], by kernel_rfl, ?_⟩); conv => whnf) | ((with_reducible show _ ∧ _ ∧ _); (refine ⟨by omega, by omega, ?_⟩); conv => whnf) | fail)
        · rename_i hle
          have hlt : t < cntN a b k := by omega
          rw [e3 hlt]
          refine ⟨fun c hc => by rw [List.mem_singleton.1 hc]; exact ⟨rfl, rfl⟩, fun h => (by cases h), fun _ => ⟨Nat.le_of_ble_eq_true rfl, Nat.le_of_ble_eq_true rfl, ?_⟩⟩
          (conv => whnf); (repeat' first | ((with_reducible refine Box.mk ?_); conv => whnf) | ((with_reducible refine And.intro (fun _ => ?_) (fun _ => ?_)) <;> conv => whnf) | ((with_reducible show AYld _ _ _ _ _); (refine AYld.of tok mixed ?_); conv => whnf) | ((with_reducible show forceH _ _); (refine (forceH_eq _ _).mpr ?_); conv => whnf) | ((with_reducible show ACall _ _ _ _ _); (refine ACall.of_pure (by assumption) (by rfl) ?_); conv => whnf) | ((with_reducible show Exists _); (refine ⟨_, ACall.of_pure (by assumption) (by rfl) ⟨rfl, rfl⟩, ?_⟩); conv => whnf) | ((with_reducible show ∃ L, drawR L _ = true ∧ _); (refine ⟨[], by kernel_rfl, ?_⟩); conv => whnf) | ((with_reducible show _ ∧ _ ∧ _); (refine ⟨by omega, by omega, ?_⟩); conv => whnf) | fail)
          refine ⟨(t + 1, [(k - b + t, k - (k - b + t))]), ⟨hlt, ?_⟩, by show cntN a b k - (t + 1) < cntN a b k - t; omega, weak_ren_to [(0, true), (2, true)] rfl rfl rfl ⟨rfl, rfl, rfl, congrArg (AV.int .i64) e4, trivial⟩⟩
          show _ = (rowN a b k).take (t + 1)
          rw [htk t hlt, ← hl]; rfl
        · rename_i hle
          have : t = cntN a b k := by omega
          rw [← hall, ← this, ← hl]; rfl
      | cons x r =>
        (conv => whnf); (repeat' first | ((with_reducible refine Box.mk ?_); conv => whnf) | ((with_reducible refine And.intro (fun _ => ?_) (fun _ => ?_)) <;> conv => whnf) | ((with_reducible show AYld _ _ _ _ _); (refine AYld.of tok mixed ?_); conv => whnf) | ((with_reducible show forceH _ _); (refine (forceH_eq _ _).mpr ?_); conv => whnf) | ((with_reducible show ACall _ _ _ _ _); (refine ACall.of_pure (by assumption) (by rfl) ?_); conv => whnf) | ((with_reducible show Exists _); (refine ⟨_, ACall.of_pure (by assumption) (by rfl) ⟨rfl, rfl⟩, ?_⟩); conv => whnf) | ((with_reducible show ∃ L, drawR L _ = true ∧ _); (refine ⟨[], by kernel_rfl, ?_⟩); conv => whnf) | ((with_reducible show _ ∧ _ ∧ _); (refine ⟨by omega, by omega, ?_⟩); conv => whnf) | fail)
        · rename_i hle
          have hlt : t < cntN a b k := by omega
          rw [e3 hlt]
          refine ⟨fun c hc => by rw [List.mem_singleton.1 hc]; exact ⟨rfl, rfl⟩, by rw [hnl]; show (_ + 1) * 16 ≤ _; omega, by rw [hnl]; show _ + 1 ≤ _; omega, ?_⟩
          (conv => whnf); (repeat' first | ((with_reducible refine Box.mk ?_); conv => whnf) | ((with_reducible refine And.intro (fun _ => ?_) (fun _ => ?_)) <;> conv => whnf) | ((with_reducible show AYld _ _ _ _ _); (refine AYld.of tok mixed ?_); conv => whnf) | ((with_reducible show forceH _ _); (refine (forceH_eq _ _).mpr ?_); conv => whnf) | ((with_reducible show ACall _ _ _ _ _); (refine ACall.of_pure (by assumption) (by rfl) ?_); conv => whnf) | ((with_reducible show Exists _); (refine ⟨_, ACall.of_pure (by assumption) (by rfl) ⟨rfl, rfl⟩, ?_⟩); conv => whnf) | ((with_reducible show ∃ L, drawR L _ = true ∧ _); (refine ⟨[], by kernel_rfl, ?_⟩); conv => whnf) | ((with_reducible show _ ∧ _ ∧ _); (refine ⟨by omega, by omega, ?_⟩); conv => whnf) | fail)
          refine ⟨(t + 1, x :: r ++ [(k - b + t, k - (k - b + t))]), ⟨hlt, ?_⟩, by show cntN a b k - (t + 1) < cntN a b k - t; omega, weak_ren_to [(0, true), (3, true)] rfl rfl ?_ ⟨rfl, rfl, rfl, congrArg (AV.int .i64) e4, trivial⟩⟩
          · show _ = (rowN a b k).take (t + 1)
            rw [htk t hlt, ← hl]
          · show [_, Ob.row _ _ (ncl (x :: r) ++ [ncs (k - b + t, k - (k - b + t))])] = [_, Ob.row _ _ (ncl (x :: r ++ [(k - b + t, k - (k - b + t))]))]
            rw [ncl_snoc]
            rfl
        · rename_i hle
          have : t = cntN a b k := by omega
          rw [← hall, ← this, ← hl]; rfl
    · rw [decide_eq_false hh, Bool.and_false, cond_false]
      generalize gA s = a at *
      generalize gB s = b at *
      refine PCall.of_awp tok mixed fn22 (Nat.le_of_ble_eq_true rfl) ?_
      (conv => whnf); (repeat' first | ((with_reducible refine Box.mk ?_); conv => whnf) | ((with_reducible refine And.intro (fun _ => ?_) (fun _ => ?_)) <;> conv => whnf) | ((with_reducible show AYld _ _ _ _ _); (refine AYld.of tok mixed ?_); conv => whnf) | ((with_reducible show forceH _ _); (refine (forceH_eq _ _).mpr ?_); conv => whnf) | ((with_reducible show ACall _ _ _ _ _); (refine ACall.of_pure (by assumption) (by rfl) ?_); conv => whnf) | ((with_reducible show Exists _); (refine ⟨_, ACall.of_pure (by assumption) (by rfl) ⟨rfl, rfl⟩, ?_⟩); conv => whnf) | ((with_reducible show ∃ L, drawR L _ = true ∧ _); (refine ⟨[], by kernel_rfl, ?_⟩); conv => whnf) | ((with_reducible show _ ∧ _ ∧ _); (refine ⟨by omega, by omega, ?_⟩); conv => whnf) | fail)
      all_goals first
        | rfl
        | (exfalso; omega)
/-- The document's nodes. -/
theorem rNodes_ok (s : Sp) : PCall P 17 [spv s] (nvl (nds s)) := by
  have q1 := r9Sound_ok s
  have q2 := r8Depth_ok s.d0
  have q3 := r8Depth_ok s.d1
  cases hs : soundS s
  · rw [hs] at q1
    rw [nds_no hs]
    refine PCall.of_awp tok mixed fn17 (Nat.le_of_ble_eq_true rfl) ?_
    (conv => whnf); (repeat' first | ((with_reducible refine Box.mk ?_); conv => whnf) | ((with_reducible refine And.intro (fun _ => ?_) (fun _ => ?_)) <;> conv => whnf) | ((with_reducible show AYld _ _ _ _ _); (refine AYld.of tok mixed ?_); conv => whnf) | ((with_reducible show forceH _ _); (refine (forceH_eq _ _).mpr ?_); conv => whnf) | ((with_reducible show ACall _ _ _ _ _); (refine ACall.of_pure (by assumption) (by rfl) ?_); conv => whnf) | ((with_reducible show Exists _); (refine ⟨_, ACall.of_pure (by assumption) (by rfl) ⟨rfl, rfl⟩, ?_⟩); conv => whnf) | ((with_reducible show ∃ L, drawR L _ = true ∧ _); (refine ⟨[], by kernel_rfl, ?_⟩); conv => whnf) | ((with_reducible show _ ∧ _ ∧ _); (refine ⟨by omega, by omega, ?_⟩); conv => whnf) | fail)
    all_goals first
      | contradiction
      | rfl
  · rw [hs] at q1
    rw [nds_yes hs]
    obtain ⟨g1, g2⟩ := g_le s
    have hN := nodesN_len g1 g2
    have ea : depthD s.d0 = (gA s : Int) := by
      have h0 := @depthD_le s.d0
      unfold gA; rw [hs, cond_true]; omega
    have eb : depthD s.d1 = (gB s : Int) := by
      have h0 := @depthD_le s.d1
      unfold gB; rw [hs, cond_true]; omega
    rw [ea] at q2
    rw [eb] at q3
    have hne := nodes_ne (gA s) (gB s)
    generalize gA s = a at *
    generalize gB s = b at *
    have e1 : IntKind.i64.wrap ((a : Int) + (b : Int)) = ((a + b : Nat) : Int) := by rw [wrap_i64 (by omega) (by omega)]; omega
    refine PCall.of_awp tok mixed fn17 (Nat.le_of_ble_eq_true rfl) ?_
    (conv => whnf); (repeat' first | ((with_reducible refine Box.mk ?_); conv => whnf) | ((with_reducible refine And.intro (fun _ => ?_) (fun _ => ?_)) <;> conv => whnf) | ((with_reducible show AYld _ _ _ _ _); (refine AYld.of tok mixed ?_); conv => whnf) | ((with_reducible show forceH _ _); (refine (forceH_eq _ _).mpr ?_); conv => whnf) | ((with_reducible show ACall _ _ _ _ _); (refine ACall.of_pure (by assumption) (by rfl) ?_); conv => whnf) | ((with_reducible show Exists _); (refine ⟨_, ACall.of_pure (by assumption) (by rfl) ⟨rfl, rfl⟩, ?_⟩); conv => whnf) | ((with_reducible show ∃ L, drawR L _ = true ∧ _); (refine ⟨[], by kernel_rfl, ?_⟩); conv => whnf) | ((with_reducible show _ ∧ _ ∧ _); (refine ⟨by omega, by omega, ?_⟩); conv => whnf) | fail)
    all_goals try contradiction
    refine aloopH (fun x : Nat × List (Nat × Nat) => x.1 ≤ a + b + 1 ∧ x.2 = uptoN a b x.1) (fun x => [(1, .ptr 0 0), (3, nv1 x.2), (4, .int .i64 a), (5, .int .i64 b), (6, .int .i64 (x.1 : Int))]) (fun x => nh1 x.2) (fun x => a + b + 1 - x.1) (0, [])
      ⟨Nat.zero_le _, rfl⟩ (weak_to ⟨rfl, rfl, rfl, rfl, rfl, trivial⟩ rfl) ?_
    rintro ⟨h, l0⟩ ⟨hh, hl0⟩
    have hh : h ≤ a + b + 1 := hh
    have hl0 : l0 = uptoN a b h := hl0
    have hlen0 : (uptoN a b h).length ≤ 33153 := by
      have := (uptoN_pre (a := a) (b := b) hh).length_le
      unfold nodesN at hN; omega
    (conv => whnf); (repeat' first | ((with_reducible refine Box.mk ?_); conv => whnf) | ((with_reducible refine And.intro (fun _ => ?_) (fun _ => ?_)) <;> conv => whnf) | ((with_reducible show AYld _ _ _ _ _); (refine AYld.of tok mixed ?_); conv => whnf) | ((with_reducible show forceH _ _); (refine (forceH_eq _ _).mpr ?_); conv => whnf) | ((with_reducible show ACall _ _ _ _ _); (refine ACall.of_pure (by assumption) (by rfl) ?_); conv => whnf) | ((with_reducible show Exists _); (refine ⟨_, ACall.of_pure (by assumption) (by rfl) ⟨rfl, rfl⟩, ?_⟩); conv => whnf) | ((with_reducible show ∃ L, drawR L _ = true ∧ _); (refine ⟨[], by kernel_rfl, ?_⟩); conv => whnf) | ((with_reducible show _ ∧ _ ∧ _); (refine ⟨by omega, by omega, ?_⟩); conv => whnf) | fail)
    · rename_i hle
      rw [e1] at hle
      have hlt : h < a + b + 1 := by omega
      refine aloop (fun y : Nat × List (Nat × Nat) => y.1 ≤ a + 1 ∧ y.2 = uptoN a b h ++ (rowN a b h).take (min y.1 (min h a + 1) - (h - b)))
        (fun y => ⟨envL [(1, .ptr 0 0), (3, nv1 y.2), (4, .int .i64 a), (5, .int .i64 b), (6, .int .i64 (h : Int)), (7, .int .i64 (y.1 : Int))], nh1 y.2 [.box 26 (scs s)]⟩) (fun y => a + 1 - y.1) (0, l0)
        ⟨Nat.zero_le _, by show l0 = _; rw [show min 0 (min h a + 1) - (h - b) = 0 by omega, List.take_zero, List.append_nil]; exact hl0⟩ (weak_to ⟨rfl, rfl, rfl, rfl, rfl, rfl, trivial⟩ rfl) ?_
      rintro ⟨i, l⟩ ⟨hi, hl⟩
      have hi : i ≤ a + 1 := hi
      have hl : l = uptoN a b h ++ (rowN a b h).take (min i (min h a + 1) - (h - b)) := hl
      have hll : l.length ≤ 33153 + 129 := by
        rw [hl, List.length_append, List.length_take]; omega
      have hnl := ncl_len l
      have e2 : IntKind.i64.wrap ((h : Int) - (i : Int)) = (h : Int) - i := wrap_i64 (by omega) (by omega)
      have e3 : IntKind.i64.wrap ((i : Int) + 1) = ((i + 1 : Nat) : Int) := by rw [wrap_i64 (by omega) (by omega)]; omega
      have hskip : ¬ (h - b ≤ i ∧ i ≤ h) → i ≤ a → l = uptoN a b h ++ (rowN a b h).take (min (i + 1) (min h a + 1) - (h - b)) := fun h1 h2 => by
        rw [hl]; congr 2; omega
      have hadd : (h - b ≤ i ∧ i ≤ h) → i ≤ a → l ++ [(i, h - i)] = uptoN a b h ++ (rowN a b h).take (min (i + 1) (min h a + 1) - (h - b)) := fun h1 h2 => by
        have hcd : cntN a b h = min h a + 1 - (h - b) := rfl
        have := rowN_take (a := a) (b := b) (h := h) (t := i - (h - b)) (by omega)
        rw [hl, List.append_assoc, show min i (min h a + 1) - (h - b) = i - (h - b) by omega, show min (i + 1) (min h a + 1) - (h - b) = i - (h - b) + 1 by omega, this, show h - b + (i - (h - b)) = i by omega]
      have hfull : a < i → l = uptoN a b (h + 1) := fun h1 => by
        rw [hl, show min i (min h a + 1) - (h - b) = cntN a b h by unfold cntN; omega, ← rowN_len, List.take_length, uptoN_succ]
      have e4 : h - b ≤ i ∧ i ≤ h → IntKind.i64.wrap ((h : Int) - (i : Int)) = ((h - i : Nat) : Int) := fun h => by rw [e2]; omega
      have e5 : (h : Int) - i = IntKind.i64.wrap ((h : Int) - (i : Int)) := e2.symm
      (conv => whnf); (repeat' first | ((with_reducible refine Box.mk ?_); conv => whnf) | ((with_reducible refine And.intro (fun _ => ?_) (fun _ => ?_)) <;> conv => whnf) | ((with_reducible show AYld _ _ _ _ _); (refine AYld.of tok mixed ?_); conv => whnf) | ((with_reducible show forceH _ _); (refine (forceH_eq _ _).mpr ?_); conv => whnf) | ((with_reducible show ACall _ _ _ _ _); (refine ACall.of_pure (by assumption) (by rfl) ?_); conv => whnf) | ((with_reducible show Exists _); (refine ⟨_, ACall.of_pure (by assumption) (by rfl) ⟨rfl, rfl⟩, ?_⟩); conv => whnf) | ((with_reducible show ∃ L, drawR L _ = true ∧ _); (refine ⟨[], by kernel_rfl, ?_⟩); conv => whnf) | ((with_reducible show _ ∧ _ ∧ _); (refine ⟨by omega, by omega, ?_⟩); conv => whnf) | fail)
      · rename_i h1 h2 h3
        have h1 : (i : Int) ≤ a := h1
        have h2 : 0 ≤ IntKind.i64.wrap ((h : Int) - (i : Int)) := h2
        have h3 : IntKind.i64.wrap ((h : Int) - (i : Int)) ≤ b := h3
        have hr : h - b ≤ i ∧ i ≤ h := by omega
        have had := hadd hr (by omega)
        have e4' := e4 hr
        cases l with
        | nil =>
          (conv => whnf); (repeat' first | ((with_reducible refine Box.mk ?_); conv => whnf) | ((with_reducible refine And.intro (fun _ => ?_) (fun _ => ?_)) <;> conv => whnf) | ((with_reducible show AYld _ _ _ _ _); (refine AYld.of tok mixed ?_); conv => whnf) | ((with_reducible show forceH _ _); (refine (forceH_eq _ _).mpr ?_); conv => whnf) | ((with_reducible show ACall _ _ _ _ _); (refine ACall.of_pure (by assumption) (by rfl) ?_); conv => whnf) | ((with_reducible show Exists _); (refine ⟨_, ACall.of_pure (by assumption) (by rfl) ⟨rfl, rfl⟩, ?_⟩); conv => whnf) | ((with_reducible show ∃ L, drawR L _ = true ∧ _); (refine ⟨[], by kernel_rfl, ?_⟩); conv => whnf) | ((with_reducible show _ ∧ _ ∧ _); (refine ⟨by omega, by omega, ?_⟩); conv => whnf) | fail)
          refine ⟨fun c hc => by rw [List.mem_singleton.1 hc]; exact ⟨rfl, rfl⟩, fun h => (by cases h), fun _ => ⟨Nat.le_of_ble_eq_true rfl, Nat.le_of_ble_eq_true rfl, ?_⟩⟩
          (conv => whnf); (repeat' first | ((with_reducible refine Box.mk ?_); conv => whnf) | ((with_reducible refine And.intro (fun _ => ?_) (fun _ => ?_)) <;> conv => whnf) | ((with_reducible show AYld _ _ _ _ _); (refine AYld.of tok mixed ?_); conv => whnf) | ((with_reducible show forceH _ _); (refine (forceH_eq _ _).mpr ?_); conv => whnf) | ((with_reducible show ACall _ _ _ _ _); (refine ACall.of_pure (by assumption) (by rfl) ?_); conv => whnf) | ((with_reducible show Exists _); (refine ⟨_, ACall.of_pure (by assumption) (by rfl) ⟨rfl, rfl⟩, ?_⟩); conv => whnf) | ((with_reducible show ∃ L, drawR L _ = true ∧ _); (refine ⟨[], by kernel_rfl, ?_⟩); conv => whnf) | ((with_reducible show _ ∧ _ ∧ _); (refine ⟨by omega, by omega, ?_⟩); conv => whnf) | fail)
          refine ⟨(i + 1, [(i, h - i)]), ⟨by show i + 1 ≤ a + 1; omega, had⟩, by show a + 1 - (i + 1) < a + 1 - i; omega, weak_ren_to [(0, true), (2, true)] rfl rfl ?_ ⟨rfl, rfl, rfl, rfl, rfl, congrArg (AV.int .i64) e3, trivial⟩⟩
          show [_, Ob.row _ _ [[_, AV.int _ (IntKind.i64.wrap ((h : Int) - (i : Int)))]]] = [_, Ob.row _ _ (ncl [(i, h - i)])]
          rw [e4']; rfl
        | cons x r =>
          (conv => whnf); (repeat' first | ((with_reducible refine Box.mk ?_); conv => whnf) | ((with_reducible refine And.intro (fun _ => ?_) (fun _ => ?_)) <;> conv => whnf) | ((with_reducible show AYld _ _ _ _ _); (refine AYld.of tok mixed ?_); conv => whnf) | ((with_reducible show forceH _ _); (refine (forceH_eq _ _).mpr ?_); conv => whnf) | ((with_reducible show ACall _ _ _ _ _); (refine ACall.of_pure (by assumption) (by rfl) ?_); conv => whnf) | ((with_reducible show Exists _); (refine ⟨_, ACall.of_pure (by assumption) (by rfl) ⟨rfl, rfl⟩, ?_⟩); conv => whnf) | ((with_reducible show ∃ L, drawR L _ = true ∧ _); (refine ⟨[], by kernel_rfl, ?_⟩); conv => whnf) | ((with_reducible show _ ∧ _ ∧ _); (refine ⟨by omega, by omega, ?_⟩); conv => whnf) | fail)
          refine ⟨fun c hc => by rw [List.mem_singleton.1 hc]; exact ⟨rfl, rfl⟩, by rw [hnl]; show (_ + 1) * 16 ≤ _; omega, by rw [hnl]; show _ + 1 ≤ _; omega, ?_⟩
          (conv => whnf); (repeat' first | ((with_reducible refine Box.mk ?_); conv => whnf) | ((with_reducible refine And.intro (fun _ => ?_) (fun _ => ?_)) <;> conv => whnf) | ((with_reducible show AYld _ _ _ _ _); (refine AYld.of tok mixed ?_); conv => whnf) | ((with_reducible show forceH _ _); (refine (forceH_eq _ _).mpr ?_); conv => whnf) | ((with_reducible show ACall _ _ _ _ _); (refine ACall.of_pure (by assumption) (by rfl) ?_); conv => whnf) | ((with_reducible show Exists _); (refine ⟨_, ACall.of_pure (by assumption) (by rfl) ⟨rfl, rfl⟩, ?_⟩); conv => whnf) | ((with_reducible show ∃ L, drawR L _ = true ∧ _); (refine ⟨[], by kernel_rfl, ?_⟩); conv => whnf) | ((with_reducible show _ ∧ _ ∧ _); (refine ⟨by omega, by omega, ?_⟩); conv => whnf) | fail)
          refine ⟨(i + 1, x :: r ++ [(i, h - i)]), ⟨by show i + 1 ≤ a + 1; omega, had⟩, by show a + 1 - (i + 1) < a + 1 - i; omega, weak_ren_to [(0, true), (3, true)] rfl rfl ?_ ⟨rfl, rfl, rfl, rfl, rfl, congrArg (AV.int .i64) e3, trivial⟩⟩
          show [_, Ob.row _ _ (ncl (x :: r) ++ [[_, AV.int _ (IntKind.i64.wrap ((h : Int) - (i : Int)))]])] = [_, Ob.row _ _ (ncl (x :: r ++ [(i, h - i)]))]
          rw [e4', ← ncl_snoc]; rfl
      · rename_i h1 h2 h3
        have h1 : (i : Int) ≤ a := h1
        have h2 : 0 ≤ IntKind.i64.wrap ((h : Int) - (i : Int)) := h2
        have h3 : ¬ IntKind.i64.wrap ((h : Int) - (i : Int)) ≤ b := h3
        exact ⟨(i + 1, l), ⟨by show i + 1 ≤ a + 1; omega, hskip (by omega) (by omega)⟩, by show a + 1 - (i + 1) < a + 1 - i; omega, weak_to ⟨rfl, rfl, rfl, rfl, rfl, congrArg (AV.int .i64) e3, trivial⟩ rfl⟩
      · rename_i h1 h2
        have h1 : (i : Int) ≤ a := h1
        have h2 : ¬ 0 ≤ IntKind.i64.wrap ((h : Int) - (i : Int)) := h2
        exact ⟨(i + 1, l), ⟨by show i + 1 ≤ a + 1; omega, hskip (by omega) (by omega)⟩, by show a + 1 - (i + 1) < a + 1 - i; omega, weak_to ⟨rfl, rfl, rfl, rfl, rfl, congrArg (AV.int .i64) e3, trivial⟩ rfl⟩
      · rename_i h1
        have h1 : ¬ (i : Int) ≤ a := h1
        exact ⟨(h + 1, l), ⟨by show h + 1 ≤ a + b + 1; omega, hfull (by omega)⟩, by show a + b + 1 - (h + 1) < a + b + 1 - h; omega, weak_to ⟨rfl, rfl, rfl, rfl, congrArg (AV.int .i64) (by show IntKind.i64.wrap ((h : Int) + 1) = ((h + 1 : Nat) : Int); rw [wrap_i64 (by omega) (by omega)]; omega), trivial⟩ rfl⟩
    · rename_i hle
      rw [e1] at hle
      have : h = a + b + 1 := by omega
      subst this
      have hl0 : l0 = nodesN a b := hl0
      rw [← hl0] at hne ⊢
      cases l0 with
      | nil => exact absurd rfl hne
      | cons x r =>
        (conv => whnf); (repeat' first | ((with_reducible refine Box.mk ?_); conv => whnf) | ((with_reducible refine And.intro (fun _ => ?_) (fun _ => ?_)) <;> conv => whnf) | ((with_reducible show AYld _ _ _ _ _); (refine AYld.of tok mixed ?_); conv => whnf) | ((with_reducible show forceH _ _); (refine (forceH_eq _ _).mpr ?_); conv => whnf) | ((with_reducible show ACall _ _ _ _ _); (refine ACall.of_pure (by assumption) (by rfl) ?_); conv => whnf) | ((with_reducible show Exists _); (refine ⟨_, ACall.of_pure (by assumption) (by rfl) ⟨rfl, rfl⟩, ?_⟩); conv => whnf) | ((with_reducible show ∃ L, drawR L _ = true ∧ _); (refine ⟨[], by kernel_rfl, ?_⟩); conv => whnf) | ((with_reducible show _ ∧ _ ∧ _); (refine ⟨by omega, by omega, ?_⟩); conv => whnf) | fail)
        rfl
end Go.Proofs.YtgdonjndgjiocaaDoor
end

section
/- grid: places; the document's answers for heights and places; equal lists. -/
namespace Go.Proofs.YtgdonjndgjiocaaDoor
open Go.Ve

theorem ncs_eq {p q : Nat × Nat} : (((p.1 : Nat) : Int) = ((q.1 : Nat) : Int) ∧ ((p.2 : Nat) : Int) = ((q.2 : Nat) : Int)) ↔ p = q := by
  obtain ⟨a, b⟩ := p
  obtain ⟨c, d⟩ := q
  simp only [Prod.mk.injEq]
  omega
/-- The same list on both sides. -/
theorem gsame_ok (l : List (Nat × Nat)) (hl : l.length ≤ 33153) : PCall P 18 [.sl (ncl l), .sl (ncl l)] (.bool true) := by
  have hnl := ncl_len l
  refine PCall.of_awp tok mixed fn18 (Nat.le_of_ble_eq_true rfl) ?_
  (conv => whnf); (repeat' first | ((with_reducible refine Box.mk ?_); conv => whnf) | ((with_reducible refine And.intro (fun _ => ?_) (fun _ => ?_)) <;> conv => whnf) | ((with_reducible show AYld _ _ _ _ _); (refine AYld.of tok mixed ?_); conv => whnf) | ((with_reducible show forceH _ _); (refine (forceH_eq _ _).mpr ?_); conv => whnf) | ((with_reducible show ACall _ _ _ _ _); (refine ACall.of_pure (by assumption) (by rfl) ?_); conv => whnf) | ((with_reducible show Exists _); (refine ⟨_, ACall.of_pure (by assumption) (by rfl) ⟨rfl, rfl⟩, ?_⟩); conv => whnf) | ((with_reducible show ∃ L, drawR L _ = true ∧ _); (refine ⟨[], by kernel_rfl, ?_⟩); conv => whnf) | ((with_reducible show _ ∧ _ ∧ _); (refine ⟨by omega, by omega, ?_⟩); conv => whnf) | fail)
  all_goals try contradiction
  refine aloopH (fun i : Nat => i ≤ l.length) (fun i : Nat => [(0, .sl (ncl l)), (1, .sl (ncl l)), (5, .int .i64 i)]) (fun _ H => H) (fun i => l.length - i) 0 (Nat.zero_le _) (weak_to ⟨rfl, rfl, rfl, trivial⟩ rfl) ?_
  intro i hi
  (conv => whnf); (repeat' first | ((with_reducible refine Box.mk ?_); conv => whnf) | ((with_reducible refine And.intro (fun _ => ?_) (fun _ => ?_)) <;> conv => whnf) | ((with_reducible show AYld _ _ _ _ _); (refine AYld.of tok mixed ?_); conv => whnf) | ((with_reducible show forceH _ _); (refine (forceH_eq _ _).mpr ?_); conv => whnf) | ((with_reducible show ACall _ _ _ _ _); (refine ACall.of_pure (by assumption) (by rfl) ?_); conv => whnf) | ((with_reducible show Exists _); (refine ⟨_, ACall.of_pure (by assumption) (by rfl) ⟨rfl, rfl⟩, ?_⟩); conv => whnf) | ((with_reducible show ∃ L, drawR L _ = true ∧ _); (refine ⟨[], by kernel_rfl, ?_⟩); conv => whnf) | ((with_reducible show _ ∧ _ ∧ _); (refine ⟨by omega, by omega, ?_⟩); conv => whnf) | fail)
  · rename_i h
    have hil : i < l.length := by omega
    have hg : (ncl l)[(i : Int).toNat]? = some (ncs l[i]) := by rw [ncl_get, Int.toNat_natCast, List.getElem?_eq_getElem hil]; rfl
    refine ⟨by omega, _, hg, rfl, ?_⟩
    (conv => whnf); (repeat' first | ((with_reducible refine Box.mk ?_); conv => whnf) | ((with_reducible refine And.intro (fun _ => ?_) (fun _ => ?_)) <;> conv => whnf) | ((with_reducible show AYld _ _ _ _ _); (refine AYld.of tok mixed ?_); conv => whnf) | ((with_reducible show forceH _ _); (refine (forceH_eq _ _).mpr ?_); conv => whnf) | ((with_reducible show ACall _ _ _ _ _); (refine ACall.of_pure (by assumption) (by rfl) ?_); conv => whnf) | ((with_reducible show Exists _); (refine ⟨_, ACall.of_pure (by assumption) (by rfl) ⟨rfl, rfl⟩, ?_⟩); conv => whnf) | ((with_reducible show ∃ L, drawR L _ = true ∧ _); (refine ⟨[], by kernel_rfl, ?_⟩); conv => whnf) | ((with_reducible show _ ∧ _ ∧ _); (refine ⟨by omega, by omega, ?_⟩); conv => whnf) | fail)
    refine ⟨by omega, _, hg, rfl, ?_⟩
    (conv => whnf); (repeat' first | ((with_reducible refine Box.mk ?_); conv => whnf) | ((with_reducible refine And.intro (fun _ => ?_) (fun _ => ?_)) <;> conv => whnf) | ((with_reducible show AYld _ _ _ _ _); (refine AYld.of tok mixed ?_); conv => whnf) | ((with_reducible show forceH _ _); (refine (forceH_eq _ _).mpr ?_); conv => whnf) | ((with_reducible show ACall _ _ _ _ _); (refine ACall.of_pure (by assumption) (by rfl) ?_); conv => whnf) | ((with_reducible show Exists _); (refine ⟨_, ACall.of_pure (by assumption) (by rfl) ⟨rfl, rfl⟩, ?_⟩); conv => whnf) | ((with_reducible show ∃ L, drawR L _ = true ∧ _); (refine ⟨[], by kernel_rfl, ?_⟩); conv => whnf) | ((with_reducible show _ ∧ _ ∧ _); (refine ⟨by omega, by omega, ?_⟩); conv => whnf) | fail)
    · exact ⟨i + 1, hil, by omega, weak_to ⟨rfl, rfl, wrap_nat (m := 1) (by omega), trivial⟩ rfl⟩
    · rename_i hbad; exact absurd (⟨rfl, rfl⟩ : _ ∧ _) hbad
  · rfl
theorem gsame_nil : PCall P 18 [.nils, .nils] (.bool true) := by
  refine PCall.of_awp tok mixed fn18 (Nat.le_of_ble_eq_true rfl) ?_
  (conv => whnf); (repeat' first | ((with_reducible refine Box.mk ?_); conv => whnf) | ((with_reducible refine And.intro (fun _ => ?_) (fun _ => ?_)) <;> conv => whnf) | ((with_reducible show AYld _ _ _ _ _); (refine AYld.of tok mixed ?_); conv => whnf) | ((with_reducible show forceH _ _); (refine (forceH_eq _ _).mpr ?_); conv => whnf) | ((with_reducible show ACall _ _ _ _ _); (refine ACall.of_pure (by assumption) (by rfl) ?_); conv => whnf) | ((with_reducible show Exists _); (refine ⟨_, ACall.of_pure (by assumption) (by rfl) ⟨rfl, rfl⟩, ?_⟩); conv => whnf) | ((with_reducible show ∃ L, drawR L _ = true ∧ _); (refine ⟨[], by kernel_rfl, ?_⟩); conv => whnf) | ((with_reducible show _ ∧ _ ∧ _); (refine ⟨by omega, by omega, ?_⟩); conv => whnf) | fail)
  all_goals try contradiction
  refine aloopH (fun _ => True) (fun _ : Unit => [(0, .nils), (1, .nils), (5, .int .i64 0)]) (fun _ H => H) (fun _ => 0) () trivial (weak_to ⟨rfl, rfl, rfl, trivial⟩ rfl) ?_
  intro _ _
  (conv => whnf); (repeat' first | ((with_reducible refine Box.mk ?_); conv => whnf) | ((with_reducible refine And.intro (fun _ => ?_) (fun _ => ?_)) <;> conv => whnf) | ((with_reducible show AYld _ _ _ _ _); (refine AYld.of tok mixed ?_); conv => whnf) | ((with_reducible show forceH _ _); (refine (forceH_eq _ _).mpr ?_); conv => whnf) | ((with_reducible show ACall _ _ _ _ _); (refine ACall.of_pure (by assumption) (by rfl) ?_); conv => whnf) | ((with_reducible show Exists _); (refine ⟨_, ACall.of_pure (by assumption) (by rfl) ⟨rfl, rfl⟩, ?_⟩); conv => whnf) | ((with_reducible show ∃ L, drawR L _ = true ∧ _); (refine ⟨[], by kernel_rfl, ?_⟩); conv => whnf) | ((with_reducible show _ ∧ _ ∧ _); (refine ⟨by omega, by omega, ?_⟩); conv => whnf) | fail)
  all_goals first
    | rfl
    | (exfalso; omega)
theorem gsame_nvl (l : List (Nat × Nat)) (hl : l.length ≤ 33153) : PCall P 18 [nvl l, nvl l] (.bool true) := by
  cases l with
  | nil => exact gsame_nil
  | cons x r => exact gsame_ok (x :: r) hl
theorem rTall_ok (s : Sp) : PCall P 21 [spv s] (.int .i64 ((gA s + gB s : Nat) : Int)) := by
  have q1 := rNodes_ok s
  have hN := nds_len s
  cases hs : soundS s
  · rw [nds_no hs] at q1
    obtain ⟨g1, g2⟩ := g_zero hs
    rw [g1, g2]
    refine PCall.of_awp tok mixed fn21 (Nat.le_of_ble_eq_true rfl) ?_
    (conv => whnf); (repeat' first | ((with_reducible refine Box.mk ?_); conv => whnf) | ((with_reducible refine And.intro (fun _ => ?_) (fun _ => ?_)) <;> conv => whnf) | ((with_reducible show AYld _ _ _ _ _); (refine AYld.of tok mixed ?_); conv => whnf) | ((with_reducible show forceH _ _); (refine (forceH_eq _ _).mpr ?_); conv => whnf) | ((with_reducible show ACall _ _ _ _ _); (refine ACall.of_pure (by assumption) (by rfl) ?_); conv => whnf) | ((with_reducible show Exists _); (refine ⟨_, ACall.of_pure (by assumption) (by rfl) ⟨rfl, rfl⟩, ?_⟩); conv => whnf) | ((with_reducible show ∃ L, drawR L _ = true ∧ _); (refine ⟨[], by kernel_rfl, ?_⟩); conv => whnf) | ((with_reducible show _ ∧ _ ∧ _); (refine ⟨by omega, by omega, ?_⟩); conv => whnf) | fail)
    all_goals first
      | contradiction
      | rfl
      | (rename_i hbad; exact absurd rfl hbad)
  · rw [nds_yes hs] at q1 hN
    obtain ⟨g1, g2⟩ := g_le s
    have hne := nodes_ne (gA s) (gB s)
    have hla := nodes_last (gA s) (gB s)
    have q1' := pEq q1 (nvl_sl hne)
    clear q1
    generalize gA s = a at *
    generalize gB s = b at *
    generalize nodesN a b = l at *
    have hnl := ncl_len l
    have hlp : 0 < l.length := List.length_pos_iff.2 hne
    have e1 : IntKind.i64.wrap (((ncl l).length : Int) - 1) = ((l.length - 1 : Nat) : Int) := by rw [wrap_i64 (by omega) (by omega)]; omega
    have hg : (ncl l)[((l.length - 1 : Nat) : Int).toNat]? = some (ncs (a, b)) := by rw [ncl_get, Int.toNat_natCast, hla]; rfl
    refine PCall.of_awp tok mixed fn21 (Nat.le_of_ble_eq_true rfl) ?_
    (conv => whnf); (repeat' first | ((with_reducible refine Box.mk ?_); conv => whnf) | ((with_reducible refine And.intro (fun _ => ?_) (fun _ => ?_)) <;> conv => whnf) | ((with_reducible show AYld _ _ _ _ _); (refine AYld.of tok mixed ?_); conv => whnf) | ((with_reducible show forceH _ _); (refine (forceH_eq _ _).mpr ?_); conv => whnf) | ((with_reducible show ACall _ _ _ _ _); (refine ACall.of_pure (by assumption) (by rfl) ?_); conv => whnf) | ((with_reducible show Exists _); (refine ⟨_, ACall.of_pure (by assumption) (by rfl) ⟨rfl, rfl⟩, ?_⟩); conv => whnf) | ((with_reducible show ∃ L, drawR L _ = true ∧ _); (refine ⟨[], by kernel_rfl, ?_⟩); conv => whnf) | ((with_reducible show _ ∧ _ ∧ _); (refine ⟨by omega, by omega, ?_⟩); conv => whnf) | fail)
    all_goals try (exfalso; omega)
    rw [e1]
    refine ⟨by omega, _, hg, rfl, ?_⟩
    (conv => whnf); (repeat' first | ((with_reducible refine Box.mk ?_); conv => whnf) | ((with_reducible refine And.intro (fun _ => ?_) (fun _ => ?_)) <;> conv => whnf) | ((with_reducible show AYld _ _ _ _ _); (refine AYld.of tok mixed ?_); conv => whnf) | ((with_reducible show forceH _ _); (refine (forceH_eq _ _).mpr ?_); conv => whnf) | ((with_reducible show ACall _ _ _ _ _); (refine ACall.of_pure (by assumption) (by rfl) ?_); conv => whnf) | ((with_reducible show Exists _); (refine ⟨_, ACall.of_pure (by assumption) (by rfl) ⟨rfl, rfl⟩, ?_⟩); conv => whnf) | ((with_reducible show ∃ L, drawR L _ = true ∧ _); (refine ⟨[], by kernel_rfl, ?_⟩); conv => whnf) | ((with_reducible show _ ∧ _ ∧ _); (refine ⟨by omega, by omega, ?_⟩); conv => whnf) | fail)
    rw [e1]
    refine ⟨by omega, _, hg, rfl, ?_⟩
    (conv => whnf); (repeat' first | ((with_reducible refine Box.mk ?_); conv => whnf) | ((with_reducible refine And.intro (fun _ => ?_) (fun _ => ?_)) <;> conv => whnf) | ((with_reducible show AYld _ _ _ _ _); (refine AYld.of tok mixed ?_); conv => whnf) | ((with_reducible show forceH _ _); (refine (forceH_eq _ _).mpr ?_); conv => whnf) | ((with_reducible show ACall _ _ _ _ _); (refine ACall.of_pure (by assumption) (by rfl) ?_); conv => whnf) | ((with_reducible show Exists _); (refine ⟨_, ACall.of_pure (by assumption) (by rfl) ⟨rfl, rfl⟩, ?_⟩); conv => whnf) | ((with_reducible show ∃ L, drawR L _ = true ∧ _); (refine ⟨[], by kernel_rfl, ?_⟩); conv => whnf) | ((with_reducible show _ ∧ _ ∧ _); (refine ⟨by omega, by omega, ?_⟩); conv => whnf) | fail)
    exact res1_eq (wrap_nat (by omega))
theorem rOn_ok (s : Sp) (h : Int) : PCall P 23 [spv s, .int .i64 h] (nvl ((nds s).filter fun p => decide (((p.1 + p.2 : Nat) : Int) = h))) := by
  have q1 := rNodes_ok s
  have hN := nds_len s
  obtain ⟨g1, g2⟩ := g_le s
  have hsum : ∀ p ∈ nds s, p.1 + p.2 ≤ 256 := fun p hp => by
    cases hs : soundS s
    · rw [nds_no hs] at hp; cases hp
    · rw [nds_yes hs] at hp
      obtain ⟨k, hk⟩ := List.getElem?_of_mem hp
      obtain ⟨h1, h2, _⟩ := node_get hk
      omega
  clear g1 g2
  generalize nds s = l at *
  have hnl := ncl_len l
  refine PCall.of_awp tok mixed fn23 (Nat.le_of_ble_eq_true rfl) ?_
  cases l with
  | nil =>
    (conv => whnf); (repeat' first | ((with_reducible refine Box.mk ?_); conv => whnf) | ((with_reducible refine And.intro (fun _ => ?_) (fun _ => ?_)) <;> conv => whnf) | ((with_reducible show AYld _ _ _ _ _); (refine AYld.of tok mixed ?_); conv => whnf) | ((with_reducible show forceH _ _); (refine (forceH_eq _ _).mpr ?_); conv => whnf) | ((with_reducible show ACall _ _ _ _ _); (refine ACall.of_pure (by assumption) (by rfl) ?_); conv => whnf) | ((with_reducible show Exists _); (refine ⟨_, ACall.of_pure (by assumption) (by rfl) ⟨rfl, rfl⟩, ?_⟩); conv => whnf) | ((with_reducible show ∃ L, drawR L _ = true ∧ _); (refine ⟨[], by kernel_rfl, ?_⟩); conv => whnf) | ((with_reducible show _ ∧ _ ∧ _); (refine ⟨by omega, by omega, ?_⟩); conv => whnf) | fail)
    refine aloopH (fun _ => True) (fun _ : Unit => [(1, .int .i64 h), (5, .nils), (6, .nils), (7, .int .i64 0)]) (fun _ H => H) (fun _ => 0) () trivial (weak_to ⟨rfl, rfl, rfl, rfl, trivial⟩ rfl) ?_
    intro _ _
    (conv => whnf); (repeat' first | ((with_reducible refine Box.mk ?_); conv => whnf) | ((with_reducible refine And.intro (fun _ => ?_) (fun _ => ?_)) <;> conv => whnf) | ((with_reducible show AYld _ _ _ _ _); (refine AYld.of tok mixed ?_); conv => whnf) | ((with_reducible show forceH _ _); (refine (forceH_eq _ _).mpr ?_); conv => whnf) | ((with_reducible show ACall _ _ _ _ _); (refine ACall.of_pure (by assumption) (by rfl) ?_); conv => whnf) | ((with_reducible show Exists _); (refine ⟨_, ACall.of_pure (by assumption) (by rfl) ⟨rfl, rfl⟩, ?_⟩); conv => whnf) | ((with_reducible show ∃ L, drawR L _ = true ∧ _); (refine ⟨[], by kernel_rfl, ?_⟩); conv => whnf) | ((with_reducible show _ ∧ _ ∧ _); (refine ⟨by omega, by omega, ?_⟩); conv => whnf) | fail)
    all_goals first
      | rfl
      | (exfalso; omega)
  | cons x0 r0 =>
    have q1' := pEq q1 (nvl_sl (by simp))
    clear q1
    generalize x0 :: r0 = l at *
    (conv => whnf); (repeat' first | ((with_reducible refine Box.mk ?_); conv => whnf) | ((with_reducible refine And.intro (fun _ => ?_) (fun _ => ?_)) <;> conv => whnf) | ((with_reducible show AYld _ _ _ _ _); (refine AYld.of tok mixed ?_); conv => whnf) | ((with_reducible show forceH _ _); (refine (forceH_eq _ _).mpr ?_); conv => whnf) | ((with_reducible show ACall _ _ _ _ _); (refine ACall.of_pure (by assumption) (by rfl) ?_); conv => whnf) | ((with_reducible show Exists _); (refine ⟨_, ACall.of_pure (by assumption) (by rfl) ⟨rfl, rfl⟩, ?_⟩); conv => whnf) | ((with_reducible show ∃ L, drawR L _ = true ∧ _); (refine ⟨[], by kernel_rfl, ?_⟩); conv => whnf) | ((with_reducible show _ ∧ _ ∧ _); (refine ⟨by omega, by omega, ?_⟩); conv => whnf) | fail)
    refine aloopH (fun x : Nat × List (Nat × Nat) => x.1 ≤ l.length ∧ x.2 = (l.take x.1).filter fun p => decide (((p.1 + p.2 : Nat) : Int) = h)) (fun x => [(1, .int .i64 h), (5, nv1 x.2), (6, .sl (ncl l)), (7, .int .i64 (x.1 : Int))]) (fun x => nh1 x.2) (fun x => l.length - x.1) (0, [])
      ⟨Nat.zero_le _, rfl⟩ (weak_to ⟨rfl, rfl, rfl, rfl, trivial⟩ rfl) ?_
    rintro ⟨i, m⟩ ⟨hi, hm⟩
    have hi : i ≤ l.length := hi
    have hm : m = (l.take i).filter fun p => decide (((p.1 + p.2 : Nat) : Int) = h) := hm
    have hml : m.length ≤ 33153 := by
      have := List.length_filter_le (fun p : Nat × Nat => decide (((p.1 + p.2 : Nat) : Int) = h)) (l.take i)
      rw [List.length_take, ← hm] at this; omega
    have hnm := ncl_len m
    have e1 : IntKind.i64.wrap ((i : Int) + 1) = ((i + 1 : Nat) : Int) := by rw [wrap_i64 (by omega) (by omega)]; omega
    (conv => whnf); (repeat' first | ((with_reducible refine Box.mk ?_); conv => whnf) | ((with_reducible refine And.intro (fun _ => ?_) (fun _ => ?_)) <;> conv => whnf) | ((with_reducible show AYld _ _ _ _ _); (refine AYld.of tok mixed ?_); conv => whnf) | ((with_reducible show forceH _ _); (refine (forceH_eq _ _).mpr ?_); conv => whnf) | ((with_reducible show ACall _ _ _ _ _); (refine ACall.of_pure (by assumption) (by rfl) ?_); conv => whnf) | ((with_reducible show Exists _); (refine ⟨_, ACall.of_pure (by assumption) (by rfl) ⟨rfl, rfl⟩, ?_⟩); conv => whnf) | ((with_reducible show ∃ L, drawR L _ = true ∧ _); (refine ⟨[], by kernel_rfl, ?_⟩); conv => whnf) | ((with_reducible show _ ∧ _ ∧ _); (refine ⟨by omega, by omega, ?_⟩); conv => whnf) | fail)
    · rename_i hlt
      have hlt : (i : Int) < ((ncl l).length : Int) := hlt
      have hil : i < l.length := by omega
      have hg : (ncl l)[(i : Int).toNat]? = some (ncs l[i]) := by rw [ncl_get, Int.toNat_natCast, List.getElem?_eq_getElem hil]; rfl
      have hps := hsum l[i] (List.getElem_mem hil)
      have htk : l.take (i + 1) = l.take i ++ [l[i]] := by rw [List.take_add_one, List.getElem?_eq_getElem hil]; rfl
      generalize l[i] = p at *
      have e2 : IntKind.i64.wrap ((p.1 : Int) + (p.2 : Int)) = ((p.1 + p.2 : Nat) : Int) := by rw [wrap_i64 (by omega) (by omega)]; omega
      refine ⟨by show (0 : Int) ≤ (i : Int); omega, _, hg, rfl, ?_⟩
      (conv => whnf); (repeat' first | ((with_reducible refine Box.mk ?_); conv => whnf) | ((with_reducible refine And.intro (fun _ => ?_) (fun _ => ?_)) <;> conv => whnf) | ((with_reducible show AYld _ _ _ _ _); (refine AYld.of tok mixed ?_); conv => whnf) | ((with_reducible show forceH _ _); (refine (forceH_eq _ _).mpr ?_); conv => whnf) | ((with_reducible show ACall _ _ _ _ _); (refine ACall.of_pure (by assumption) (by rfl) ?_); conv => whnf) | ((with_reducible show Exists _); (refine ⟨_, ACall.of_pure (by assumption) (by rfl) ⟨rfl, rfl⟩, ?_⟩); conv => whnf) | ((with_reducible show ∃ L, drawR L _ = true ∧ _); (refine ⟨[], by kernel_rfl, ?_⟩); conv => whnf) | ((with_reducible show _ ∧ _ ∧ _); (refine ⟨by omega, by omega, ?_⟩); conv => whnf) | fail)
      refine ⟨by show (0 : Int) ≤ (i : Int); omega, _, hg, rfl, ?_⟩
      (conv => whnf); (repeat' first | ((with_reducible refine Box.mk ?_); conv => whnf) | ((with_reducible refine And.intro (fun _ => ?_) (fun _ => ?_)) <;> conv => whnf) | ((with_reducible show AYld _ _ _ _ _); (refine AYld.of tok mixed ?_); conv => whnf) | ((with_reducible show forceH _ _); (refine (forceH_eq _ _).mpr ?_); conv => whnf) | ((with_reducible show ACall _ _ _ _ _); (refine ACall.of_pure (by assumption) (by rfl) ?_); conv => whnf) | ((with_reducible show Exists _); (refine ⟨_, ACall.of_pure (by assumption) (by rfl) ⟨rfl, rfl⟩, ?_⟩); conv => whnf) | ((with_reducible show ∃ L, drawR L _ = true ∧ _); (refine ⟨[], by kernel_rfl, ?_⟩); conv => whnf) | ((with_reducible show _ ∧ _ ∧ _); (refine ⟨by omega, by omega, ?_⟩); conv => whnf) | fail)
      · rename_i he
        have he : IntKind.i64.wrap ((p.1 : Int) + (p.2 : Int)) = h := he
        rw [e2] at he
        have hf : (l.take (i + 1)).filter (fun p => decide (((p.1 + p.2 : Nat) : Int) = h)) = m ++ [p] := by
          rw [htk, List.filter_append, ← hm]
          congr 1
          simp only [List.filter_cons, List.filter_nil, decide_eq_true he, if_true]
        cases m with
        | nil =>
          (conv => whnf); (repeat' first | ((with_reducible refine Box.mk ?_); conv => whnf) | ((with_reducible refine And.intro (fun _ => ?_) (fun _ => ?_)) <;> conv => whnf) | ((with_reducible show AYld _ _ _ _ _); (refine AYld.of tok mixed ?_); conv => whnf) | ((with_reducible show forceH _ _); (refine (forceH_eq _ _).mpr ?_); conv => whnf) | ((with_reducible show ACall _ _ _ _ _); (refine ACall.of_pure (by assumption) (by rfl) ?_); conv => whnf) | ((with_reducible show Exists _); (refine ⟨_, ACall.of_pure (by assumption) (by rfl) ⟨rfl, rfl⟩, ?_⟩); conv => whnf) | ((with_reducible show ∃ L, drawR L _ = true ∧ _); (refine ⟨[], by kernel_rfl, ?_⟩); conv => whnf) | ((with_reducible show _ ∧ _ ∧ _); (refine ⟨by omega, by omega, ?_⟩); conv => whnf) | fail)
          refine ⟨by show (0 : Int) ≤ (i : Int); omega, _, hg, rfl, ?_⟩
          (conv => whnf); (repeat' first | ((with_reducible refine Box.mk ?_); conv => whnf) | ((with_reducible refine And.intro (fun _ => ?_) (fun _ => ?_)) <;> conv => whnf) | ((with_reducible show AYld _ _ _ _ _); (refine AYld.of tok mixed ?_); conv => whnf) | ((with_reducible show forceH _ _); (refine (forceH_eq _ _).mpr ?_); conv => whnf) | ((with_reducible show ACall _ _ _ _ _); (refine ACall.of_pure (by assumption) (by rfl) ?_); conv => whnf) | ((with_reducible show Exists _); (refine ⟨_, ACall.of_pure (by assumption) (by rfl) ⟨rfl, rfl⟩, ?_⟩); conv => whnf) | ((with_reducible show ∃ L, drawR L _ = true ∧ _); (refine ⟨[], by kernel_rfl, ?_⟩); conv => whnf) | ((with_reducible show _ ∧ _ ∧ _); (refine ⟨by omega, by omega, ?_⟩); conv => whnf) | fail)
          refine ⟨fun c hc => by rw [List.mem_singleton.1 hc]; exact ⟨rfl, rfl⟩, fun h => (by cases h), fun _ => ⟨Nat.le_of_ble_eq_true rfl, Nat.le_of_ble_eq_true rfl, ?_⟩⟩
          (conv => whnf); (repeat' first | ((with_reducible refine Box.mk ?_); conv => whnf) | ((with_reducible refine And.intro (fun _ => ?_) (fun _ => ?_)) <;> conv => whnf) | ((with_reducible show AYld _ _ _ _ _); (refine AYld.of tok mixed ?_); conv => whnf) | ((with_reducible show forceH _ _); (refine (forceH_eq _ _).mpr ?_); conv => whnf) | ((with_reducible show ACall _ _ _ _ _); (refine ACall.of_pure (by assumption) (by rfl) ?_); conv => whnf) | ((with_reducible show Exists _); (refine ⟨_, ACall.of_pure (by assumption) (by rfl) ⟨rfl, rfl⟩, ?_⟩); conv => whnf) | ((with_reducible show ∃ L, drawR L _ = true ∧ _); (refine ⟨[], by kernel_rfl, ?_⟩); conv => whnf) | ((with_reducible show _ ∧ _ ∧ _); (refine ⟨by omega, by omega, ?_⟩); conv => whnf) | fail)
          exact ⟨(i + 1, [p]), ⟨hil, hf.symm⟩, by show l.length - (i + 1) < l.length - i; omega, weak_ren_to [(0, true), (2, true)] rfl rfl rfl ⟨rfl, rfl, rfl, congrArg (AV.int .i64) e1, trivial⟩⟩
        | cons x r =>
          (conv => whnf); (repeat' first | ((with_reducible refine Box.mk ?_); conv => whnf) | ((with_reducible refine And.intro (fun _ => ?_) (fun _ => ?_)) <;> conv => whnf) | ((with_reducible show AYld _ _ _ _ _); (refine AYld.of tok mixed ?_); conv => whnf) | ((with_reducible show forceH _ _); (refine (forceH_eq _ _).mpr ?_); conv => whnf) | ((with_reducible show ACall _ _ _ _ _); (refine ACall.of_pure (by assumption) (by rfl) ?_); conv => whnf) | ((with_reducible show Exists _); (refine ⟨_, ACall.of_pure (by assumption) (by rfl) ⟨rfl, rfl⟩, ?_⟩); conv => whnf) | ((with_reducible show ∃ L, drawR L _ = true ∧ _); (refine ⟨[], by kernel_rfl, ?_⟩); conv => whnf) | ((with_reducible show _ ∧ _ ∧ _); (refine ⟨by omega, by omega, ?_⟩); conv => whnf) | fail)
          refine ⟨by show (0 : Int) ≤ (i : Int); omega, _, hg, rfl, ?_⟩
          (conv => whnf); (repeat' first | ((with_reducible refine Box.mk ?_); conv => whnf) | ((with_reducible refine And.intro (fun _ => ?_) (fun _ => ?_)) <;> conv => whnf) | ((with_reducible show AYld _ _ _ _ _); (refine AYld.of tok mixed ?_); conv => whnf) | ((with_reducible show forceH _ _); (refine (forceH_eq _ _).mpr ?_); conv => whnf) | ((with_reducible show ACall _ _ _ _ _); (refine ACall.of_pure (by assumption) (by rfl) ?_); conv => whnf) | ((with_reducible show Exists _); (refine ⟨_, ACall.of_pure (by assumption) (by rfl) ⟨rfl, rfl⟩, ?_⟩); conv => whnf) | ((with_reducible show ∃ L, drawR L _ = true ∧ _); (refine ⟨[], by kernel_rfl, ?_⟩); conv => whnf) | ((with_reducible show _ ∧ _ ∧ _); (refine ⟨by omega, by omega, ?_⟩); conv => whnf) | fail)
          refine ⟨fun c hc => by rw [List.mem_singleton.1 hc]; exact ⟨rfl, rfl⟩, by rw [hnm]; show (_ + 1) * 16 ≤ _; omega, by rw [hnm]; show _ + 1 ≤ _; omega, ?_⟩
          (conv => whnf); (repeat' first | ((with_reducible refine Box.mk ?_); conv => whnf) | ((with_reducible refine And.intro (fun _ => ?_) (fun _ => ?_)) <;> conv => whnf) | ((with_reducible show AYld _ _ _ _ _); (refine AYld.of tok mixed ?_); conv => whnf) | ((with_reducible show forceH _ _); (refine (forceH_eq _ _).mpr ?_); conv => whnf) | ((with_reducible show ACall _ _ _ _ _); (refine ACall.of_pure (by assumption) (by rfl) ?_); conv => whnf) | ((with_reducible show Exists _); (refine ⟨_, ACall.of_pure (by assumption) (by rfl) ⟨rfl, rfl⟩, ?_⟩); conv => whnf) | ((with_reducible show ∃ L, drawR L _ = true ∧ _); (refine ⟨[], by kernel_rfl, ?_⟩); conv => whnf) | ((with_reducible show _ ∧ _ ∧ _); (refine ⟨by omega, by omega, ?_⟩); conv => whnf) | fail)
          refine ⟨(i + 1, x :: r ++ [p]), ⟨hil, hf.symm⟩, by show l.length - (i + 1) < l.length - i; omega, weak_ren_to [(0, true), (3, true)] rfl rfl ?_ ⟨rfl, rfl, rfl, congrArg (AV.int .i64) e1, trivial⟩⟩
          show [_, Ob.row _ _ (ncl (x :: r) ++ [ncs p])] = [_, Ob.row _ _ (ncl (x :: r ++ [p]))]
          rw [ncl_snoc]; rfl
      · rename_i he
        have he : ¬ IntKind.i64.wrap ((p.1 : Int) + (p.2 : Int)) = h := he
        rw [e2] at he
        have hf : (l.take (i + 1)).filter (fun p => decide (((p.1 + p.2 : Nat) : Int) = h)) = m := by
          rw [htk, List.filter_append, ← hm]
          simp only [List.filter_cons, List.filter_nil, decide_eq_false he]
          simp
        exact ⟨(i + 1, m), ⟨hil, hf.symm⟩, by show l.length - (i + 1) < l.length - i; omega, weak_to ⟨rfl, rfl, rfl, congrArg (AV.int .i64) e1, trivial⟩ rfl⟩
    · rename_i hlt
      have hlt : ¬ (i : Int) < ((ncl l).length : Int) := hlt
      have : l.take i = l := List.take_of_length_le (by omega)
      rw [this] at hm
      rw [← hm]
      cases m with
      | nil =>
        (conv => whnf); (repeat' first | ((with_reducible refine Box.mk ?_); conv => whnf) | ((with_reducible refine And.intro (fun _ => ?_) (fun _ => ?_)) <;> conv => whnf) | ((with_reducible show AYld _ _ _ _ _); (refine AYld.of tok mixed ?_); conv => whnf) | ((with_reducible show forceH _ _); (refine (forceH_eq _ _).mpr ?_); conv => whnf) | ((with_reducible show ACall _ _ _ _ _); (refine ACall.of_pure (by assumption) (by rfl) ?_); conv => whnf) | ((with_reducible show Exists _); (refine ⟨_, ACall.of_pure (by assumption) (by rfl) ⟨rfl, rfl⟩, ?_⟩); conv => whnf) | ((with_reducible show ∃ L, drawR L _ = true ∧ _); (refine ⟨[], by kernel_rfl, ?_⟩); conv => whnf) | ((with_reducible show _ ∧ _ ∧ _); (refine ⟨by omega, by omega, ?_⟩); conv => whnf) | fail)
        rfl
      | cons x r =>
        (conv => whnf); (repeat' first | ((with_reducible refine Box.mk ?_); conv => whnf) | ((with_reducible refine And.intro (fun _ => ?_) (fun _ => ?_)) <;> conv => whnf) | ((with_reducible show AYld _ _ _ _ _); (refine AYld.of tok mixed ?_); conv => whnf) | ((with_reducible show forceH _ _); (refine (forceH_eq _ _).mpr ?_); conv => whnf) | ((with_reducible show ACall _ _ _ _ _); (refine ACall.of_pure (by assumption) (by rfl) ?_); conv => whnf) | ((with_reducible show Exists _); (refine ⟨_, ACall.of_pure (by assumption) (by rfl) ⟨rfl, rfl⟩, ?_⟩); conv => whnf) | ((with_reducible show ∃ L, drawR L _ = true ∧ _); (refine ⟨[], by kernel_rfl, ?_⟩); conv => whnf) | ((with_reducible show _ ∧ _ ∧ _); (refine ⟨by omega, by omega, ?_⟩); conv => whnf) | fail)
        rfl
theorem gPlace_ok (s : Sp) (i j : Int) : PCall P 24 [spv s, .agg [.int .i64 i, .int .i64 j]] (.int .i64 (plS s i j)) := by
  have q1 := isNode_ok s i j
  obtain ⟨g1, g2⟩ := g_le s
  by_cases hc : soundS s = true ∧ 0 ≤ i ∧ i ≤ gA s ∧ 0 ≤ j ∧ j ≤ gB s
  · rw [hc.1, decide_eq_true hc.2, Bool.true_and] at q1
    have hp : plS s i j = (placeN (gA s) (gB s) (i.toNat, j.toNat) : Int) := by rw [plS, if_pos hc]
    rw [hp]
    obtain ⟨hs, h1, h2, h3, h4⟩ := hc
    have q2 := fun h hh => span_ok s h hh
    obtain ⟨m, rfl⟩ : ∃ m : Nat, i = m := ⟨i.toNat, by omega⟩
    obtain ⟨n, rfl⟩ : ∃ n : Nat, j = n := ⟨j.toNat, by omega⟩
    rw [Int.toNat_natCast, Int.toNat_natCast]
    generalize gA s = a at *
    generalize gB s = b at *
    have e1 : IntKind.i64.wrap ((m : Int) + (n : Int)) = ((m + n : Nat) : Int) := by rw [wrap_i64 (by omega) (by omega)]; omega
    have q3 : PCall P 46 [spv s, .int .i64 (IntKind.i64.wrap ((m : Int) + (n : Int)))] (.tup [.int .i64 ((m + n - b : Nat) : Int), .int .i64 ((min (m + n) a : Nat) : Int)]) := by rw [e1]; exact q2 (m + n) (by omega)
    refine PCall.of_awp tok mixed fn24 (Nat.le_of_ble_eq_true rfl) ?_
    (conv => whnf); (repeat' first | ((with_reducible refine Box.mk ?_); conv => whnf) | ((with_reducible refine And.intro (fun _ => ?_) (fun _ => ?_)) <;> conv => whnf) | ((with_reducible show AYld _ _ _ _ _); (refine AYld.of tok mixed ?_); conv => whnf) | ((with_reducible show forceH _ _); (refine (forceH_eq _ _).mpr ?_); conv => whnf) | ((with_reducible show ACall _ _ _ _ _); (refine ACall.of_pure (by assumption) (by rfl) ?_); conv => whnf) | ((with_reducible show Exists _); (refine ⟨_, ACall.of_pure (by assumption) (by rfl) ⟨rfl, rfl⟩, ?_⟩); conv => whnf) | ((with_reducible show ∃ L, drawR L _ = true ∧ _); (refine ⟨[], by kernel_rfl, ?_⟩); conv => whnf) | ((with_reducible show _ ∧ _ ∧ _); (refine ⟨by omega, by omega, ?_⟩); conv => whnf) | fail)
    all_goals try contradiction
    refine aloopH (fun h : Nat => h ≤ m + n) (fun h : Nat => [(2, .ptr 0 0), (3, .ptr 1 0), (5, .int .i64 (IntKind.i64.wrap ((m : Int) + (n : Int)))), (6, .int .i64 ((uptoN a b h).length : Int)), (21, .int .i64 (IntKind.i64.wrap ((m : Int) + (n : Int)))), (22, .int .i64 h)]) (fun _ H => H) (fun h => m + n - h) 0 (Nat.zero_le _)
      (weak_to ⟨rfl, rfl, rfl, rfl, rfl, rfl, trivial⟩ rfl) ?_
    intro h hh
    have hul := uptoN_len a b h
    have hul2 : h * (a + 1) ≤ 256 * 129 := Nat.mul_le_mul (by omega) (by omega)
    have q4 := q2 h (by omega)
    (conv => whnf); (repeat' first | ((with_reducible refine Box.mk ?_); conv => whnf) | ((with_reducible refine And.intro (fun _ => ?_) (fun _ => ?_)) <;> conv => whnf) | ((with_reducible show AYld _ _ _ _ _); (refine AYld.of tok mixed ?_); conv => whnf) | ((with_reducible show forceH _ _); (refine (forceH_eq _ _).mpr ?_); conv => whnf) | ((with_reducible show ACall _ _ _ _ _); (refine ACall.of_pure (by assumption) (by rfl) ?_); conv => whnf) | ((with_reducible show Exists _); (refine ⟨_, ACall.of_pure (by assumption) (by rfl) ⟨rfl, rfl⟩, ?_⟩); conv => whnf) | ((with_reducible show ∃ L, drawR L _ = true ∧ _); (refine ⟨[], by kernel_rfl, ?_⟩); conv => whnf) | ((with_reducible show _ ∧ _ ∧ _); (refine ⟨by omega, by omega, ?_⟩); conv => whnf) | fail)
    · rename_i hlt
      rw [e1] at hlt
      have hcd : cntN a b h = min h a + 1 - (h - b) := rfl
      refine ⟨h + 1, by omega, by omega, weak_to ⟨rfl, rfl, rfl, congrArg (AV.int .i64) ?_, rfl, congrArg (AV.int .i64) (by rw [wrap_i64 (by omega) (by omega)]; omega), trivial⟩ rfl⟩
      rw [uptoN_succ, List.length_append, rowN_len]
      rw [wrap_i64 (n := ((min h a : Nat) : Int) - ((h - b : Nat) : Int)) (by omega) (by omega), wrap_i64 (n := ((min h a : Nat) : Int) - ((h - b : Nat) : Int) + 1) (by omega) (by omega), wrap_i64 (by omega) (by omega)]
      omega
    · rename_i hlt
      rw [e1] at hlt
      have : h = m + n := by omega
      subst this
      refine res1_eq (congrArg (AV.int .i64) ?_)
      show _ = (((uptoN a b (m + n)).length + (m - (m + n - b)) : Nat) : Int)
      rw [wrap_i64 (n := ((uptoN a b (m + n)).length : Int) + (m : Int)) (by omega) (by omega), wrap_i64 (by omega) (by omega)]
      omega
  · have hq : (soundS s && decide (0 ≤ i ∧ i ≤ gA s ∧ 0 ≤ j ∧ j ≤ gB s)) = false := by
      cases hb : soundS s && decide (0 ≤ i ∧ i ≤ gA s ∧ 0 ≤ j ∧ j ≤ gB s) with
      | false => rfl
      | true =>
        rw [Bool.and_eq_true, decide_eq_true_iff] at hb
        exact absurd ⟨hb.1, hb.2⟩ hc
    rw [hq] at q1
    have hp : plS s i j = -1 := by rw [plS, if_neg hc]
    rw [hp]
    refine PCall.of_awp tok mixed fn24 (Nat.le_of_ble_eq_true rfl) ?_
    (conv => whnf); (repeat' first | ((with_reducible refine Box.mk ?_); conv => whnf) | ((with_reducible refine And.intro (fun _ => ?_) (fun _ => ?_)) <;> conv => whnf) | ((with_reducible show AYld _ _ _ _ _); (refine AYld.of tok mixed ?_); conv => whnf) | ((with_reducible show forceH _ _); (refine (forceH_eq _ _).mpr ?_); conv => whnf) | ((with_reducible show ACall _ _ _ _ _); (refine ACall.of_pure (by assumption) (by rfl) ?_); conv => whnf) | ((with_reducible show Exists _); (refine ⟨_, ACall.of_pure (by assumption) (by rfl) ⟨rfl, rfl⟩, ?_⟩); conv => whnf) | ((with_reducible show ∃ L, drawR L _ = true ∧ _); (refine ⟨[], by kernel_rfl, ?_⟩); conv => whnf) | ((with_reducible show _ ∧ _ ∧ _); (refine ⟨by omega, by omega, ?_⟩); conv => whnf) | fail)
    all_goals first
      | contradiction
      | rfl
theorem rPlace_ok (s : Sp) (i j : Int) : PCall P 25 [spv s, .agg [.int .i64 i, .int .i64 j]] (.int .i64 (plS s i j)) := by
  have q1 := rNodes_ok s
  have hN := nds_len s
  have hget := fun (k : Nat) (p : Nat × Nat) (h : (nds s)[k]? = some p) => plS_get h
  have hat := @plS_at s i j
  have hneg : plS s i j < 0 → plS s i j = -1 := fun h => by
    unfold plS at h ⊢
    split
    · rename_i hc; rw [if_pos hc] at h; omega
    · rfl
  generalize hpl : plS s i j = v at *
  have hv : ∀ (k : Nat) (p : Nat × Nat), (nds s)[k]? = some p → ((p.1 : Int) = i ∧ (p.2 : Int) = j) → v = k := fun k p h h2 => by rw [← hpl, ← h2.1, ← h2.2]; exact hget k p h
  clear hget hpl
  generalize nds s = l at *
  have hnl := ncl_len l
  refine PCall.of_awp tok mixed fn25 (Nat.le_of_ble_eq_true rfl) ?_
  have hend : (∀ (k : Nat) (p : Nat × Nat), l[k]? = some p → ¬ ((p.1 : Int) = i ∧ (p.2 : Int) = j)) → v = -1 := fun h => by
    by_cases hv0 : 0 ≤ v
    · obtain ⟨p, h1, h2, h3⟩ := hat hv0
      exact absurd ⟨h1.symm, h2.symm⟩ (h _ p h3)
    · exact hneg (by omega)
  cases l with
  | nil =>
    (conv => whnf); (repeat' first | ((with_reducible refine Box.mk ?_); conv => whnf) | ((with_reducible refine And.intro (fun _ => ?_) (fun _ => ?_)) <;> conv => whnf) | ((with_reducible show AYld _ _ _ _ _); (refine AYld.of tok mixed ?_); conv => whnf) | ((with_reducible show forceH _ _); (refine (forceH_eq _ _).mpr ?_); conv => whnf) | ((with_reducible show ACall _ _ _ _ _); (refine ACall.of_pure (by assumption) (by rfl) ?_); conv => whnf) | ((with_reducible show Exists _); (refine ⟨_, ACall.of_pure (by assumption) (by rfl) ⟨rfl, rfl⟩, ?_⟩); conv => whnf) | ((with_reducible show ∃ L, drawR L _ = true ∧ _); (refine ⟨[], by kernel_rfl, ?_⟩); conv => whnf) | ((with_reducible show _ ∧ _ ∧ _); (refine ⟨by omega, by omega, ?_⟩); conv => whnf) | fail)
    refine aloopH (fun _ => True) (fun _ : Unit => [(3, .ptr 1 0), (5, .nils), (6, .int .i64 0)]) (fun _ H => H) (fun _ => 0) () trivial (weak_to ⟨rfl, rfl, rfl, trivial⟩ rfl) ?_
    intro _ _
    (conv => whnf); (repeat' first | ((with_reducible refine Box.mk ?_); conv => whnf) | ((with_reducible refine And.intro (fun _ => ?_) (fun _ => ?_)) <;> conv => whnf) | ((with_reducible show AYld _ _ _ _ _); (refine AYld.of tok mixed ?_); conv => whnf) | ((with_reducible show forceH _ _); (refine (forceH_eq _ _).mpr ?_); conv => whnf) | ((with_reducible show ACall _ _ _ _ _); (refine ACall.of_pure (by assumption) (by rfl) ?_); conv => whnf) | ((with_reducible show Exists _); (refine ⟨_, ACall.of_pure (by assumption) (by rfl) ⟨rfl, rfl⟩, ?_⟩); conv => whnf) | ((with_reducible show ∃ L, drawR L _ = true ∧ _); (refine ⟨[], by kernel_rfl, ?_⟩); conv => whnf) | ((with_reducible show _ ∧ _ ∧ _); (refine ⟨by omega, by omega, ?_⟩); conv => whnf) | fail)
    all_goals first
      | (exfalso; omega)
      | (rw [hend (fun k p h => by simp at h)]; rfl)
  | cons x0 r0 =>
    have q1' := pEq q1 (nvl_sl (by simp))
    clear q1
    generalize x0 :: r0 = l at *
    (conv => whnf); (repeat' first | ((with_reducible refine Box.mk ?_); conv => whnf) | ((with_reducible refine And.intro (fun _ => ?_) (fun _ => ?_)) <;> conv => whnf) | ((with_reducible show AYld _ _ _ _ _); (refine AYld.of tok mixed ?_); conv => whnf) | ((with_reducible show forceH _ _); (refine (forceH_eq _ _).mpr ?_); conv => whnf) | ((with_reducible show ACall _ _ _ _ _); (refine ACall.of_pure (by assumption) (by rfl) ?_); conv => whnf) | ((with_reducible show Exists _); (refine ⟨_, ACall.of_pure (by assumption) (by rfl) ⟨rfl, rfl⟩, ?_⟩); conv => whnf) | ((with_reducible show ∃ L, drawR L _ = true ∧ _); (refine ⟨[], by kernel_rfl, ?_⟩); conv => whnf) | ((with_reducible show _ ∧ _ ∧ _); (refine ⟨by omega, by omega, ?_⟩); conv => whnf) | fail)
    refine aloopH (fun k : Nat => k ≤ l.length ∧ ∀ (q : Nat) (p : Nat × Nat), q < k → l[q]? = some p → ¬ ((p.1 : Int) = i ∧ (p.2 : Int) = j)) (fun k : Nat => [(3, .ptr 1 0), (5, .sl (ncl l)), (6, .int .i64 k)]) (fun _ H => H) (fun k => l.length - k) 0 ⟨Nat.zero_le _, fun q p hq => by omega⟩ (weak_to ⟨rfl, rfl, rfl, trivial⟩ rfl) ?_
    rintro k ⟨hk, hno⟩
    (conv => whnf); (repeat' first | ((with_reducible refine Box.mk ?_); conv => whnf) | ((with_reducible refine And.intro (fun _ => ?_) (fun _ => ?_)) <;> conv => whnf) | ((with_reducible show AYld _ _ _ _ _); (refine AYld.of tok mixed ?_); conv => whnf) | ((with_reducible show forceH _ _); (refine (forceH_eq _ _).mpr ?_); conv => whnf) | ((with_reducible show ACall _ _ _ _ _); (refine ACall.of_pure (by assumption) (by rfl) ?_); conv => whnf) | ((with_reducible show Exists _); (refine ⟨_, ACall.of_pure (by assumption) (by rfl) ⟨rfl, rfl⟩, ?_⟩); conv => whnf) | ((with_reducible show ∃ L, drawR L _ = true ∧ _); (refine ⟨[], by kernel_rfl, ?_⟩); conv => whnf) | ((with_reducible show _ ∧ _ ∧ _); (refine ⟨by omega, by omega, ?_⟩); conv => whnf) | fail)
    · rename_i hlt
      have hkl : k < l.length := by omega
      have hg0 : l[k]? = some l[k] := List.getElem?_eq_getElem hkl
      have hg : (ncl l)[(k : Int).toNat]? = some (ncs l[k]) := by rw [ncl_get, Int.toNat_natCast, hg0]; rfl
      generalize l[k] = p at *
      refine ⟨by omega, _, hg, rfl, ?_⟩
      (conv => whnf); (repeat' first | ((with_reducible refine Box.mk ?_); conv => whnf) | ((with_reducible refine And.intro (fun _ => ?_) (fun _ => ?_)) <;> conv => whnf) | ((with_reducible show AYld _ _ _ _ _); (refine AYld.of tok mixed ?_); conv => whnf) | ((with_reducible show forceH _ _); (refine (forceH_eq _ _).mpr ?_); conv => whnf) | ((with_reducible show ACall _ _ _ _ _); (refine ACall.of_pure (by assumption) (by rfl) ?_); conv => whnf) | ((with_reducible show Exists _); (refine ⟨_, ACall.of_pure (by assumption) (by rfl) ⟨rfl, rfl⟩, ?_⟩); conv => whnf) | ((with_reducible show ∃ L, drawR L _ = true ∧ _); (refine ⟨[], by kernel_rfl, ?_⟩); conv => whnf) | ((with_reducible show _ ∧ _ ∧ _); (refine ⟨by omega, by omega, ?_⟩); conv => whnf) | fail)
      · rename_i he
        exact res1_eq (congrArg (AV.int .i64) (hv k p hg0 he).symm)
      · rename_i he
        refine ⟨k + 1, ⟨hkl, fun q p' hq hp' => ?_⟩, by omega, weak_to ⟨rfl, rfl, wrap_nat (m := 1) (by omega), trivial⟩ rfl⟩
        rcases Nat.lt_succ_iff_lt_or_eq.1 hq with h | rfl
        · exact hno q p' h hp'
        · rw [hg0] at hp'; cases hp'; exact he
    · rename_i hlt
      have : k = l.length := by omega
      refine res1_eq (congrArg (AV.int .i64) (hend fun q p hq => hno q p ?_ hq).symm)
      rw [this]; exact (List.getElem?_eq_some_iff.1 hq).1
end Go.Proofs.YtgdonjndgjiocaaDoor
end

section
/- key: the statements on where keys meet and how they are ordered. -/
namespace Go.Proofs.YtgdonjndgjiocaaDoor
open Go.Ve

theorem meetK_len (a b : Ky) : (meetK a b).path.length ≤ 1048576 := by
  unfold meetK
  cases h : meetB a b
  · exact Nat.zero_le _
  · unfold meetB at h
    rw [Bool.and_eq_true, Bool.and_eq_true] at h
    have := cutU_len a (min (alikeK a b : Int) b.len)
    unfold cutU at this
    rw [h.1.1] at this
    exact this
/-! ### the document's order -/
theorem less_cb : ∀ (a b : Bs), Op.bytesLess a b = true ↔ Lib.compareBytes a b = -1
  | [], [] => by decide
  | [], _ :: _ => by simp [Op.bytesLess, Lib.compareBytes]
  | _ :: _, [] => by simp [Op.bytesLess, Lib.compareBytes]
  | c :: a, d :: b => by
    rw [Op.bytesLess, Lib.compareBytes, Bool.or_eq_true, Bool.and_eq_true, less_cb a b, decide_eq_true_iff, beq_iff_eq]
    by_cases h1 : c < d
    · simp [h1]
    · by_cases h2 : d < c
      · rw [if_neg h1, if_pos h2]
        refine ⟨fun h => ?_, fun h => by omega⟩
        rcases h with h | ⟨h, _⟩
        · exact absurd h h1
        · subst h; exact absurd h2 h1
      · rw [if_neg h1, if_neg h2]
        have e : c = d := UInt8.le_antisymm (UInt8.not_lt.1 h2) (UInt8.not_lt.1 h1)
        exact ⟨fun h => (h.resolve_left h1).2, fun h => .inr ⟨e, h⟩⟩
theorem cb_range : ∀ (a b : Bs), Lib.compareBytes a b = -1 ∨ (Lib.compareBytes a b = 0 ∧ a = b) ∨ Lib.compareBytes a b = 1
  | [], [] => .inr (.inl ⟨rfl, rfl⟩)
  | [], _ :: _ => .inl rfl
  | _ :: _, [] => .inr (.inr rfl)
  | c :: a, d :: b => by
    rw [Lib.compareBytes]
    by_cases h1 : c < d
    · rw [if_pos h1]; exact .inl rfl
    · by_cases h2 : d < c
      · rw [if_neg h1, if_pos h2]; exact .inr (.inr rfl)
      · rw [if_neg h1, if_neg h2]
        have e : c = d := UInt8.le_antisymm (UInt8.not_lt.1 h2) (UInt8.not_lt.1 h1)
        rcases cb_range a b with h | ⟨h, h'⟩ | h
        · exact .inl h
        · exact .inr (.inl ⟨h, by rw [e, h']⟩)
        · exact .inr (.inr h)
theorem cmpI_range (a b : Int) : (cmpI a b = -1 ∧ a < b) ∨ (cmpI a b = 0 ∧ a = b) ∨ (cmpI a b = 1 ∧ b < a) := by
  unfold cmpI
  by_cases h1 : a < b
  · rw [if_pos h1]; exact .inl ⟨rfl, h1⟩
  · by_cases h2 : b < a
    · rw [if_neg h1, if_pos h2]; exact .inr (.inr ⟨rfl, h2⟩)
    · rw [if_neg h1, if_neg h2]; exact .inr (.inl ⟨rfl, by omega⟩)
/-- The order, in the words of the document's answer. -/
theorem cmpK_cases (a b : Ky) : cmpK a b = if a = b then 0 else
    if a.kind < b.kind ∨ (a.kind = b.kind ∧ (((a.n / H64 : Nat) : Int) < ((b.n / H64 : Nat) : Int) ∨ (((a.n / H64 : Nat) : Int) = ((b.n / H64 : Nat) : Int) ∧ (((a.n % H64 : Nat) : Int) < ((b.n % H64 : Nat) : Int) ∨ (((a.n % H64 : Nat) : Int) = ((b.n % H64 : Nat) : Int) ∧ (Op.bytesLess a.path b.path = true ∨ (a.path = b.path ∧ a.len < b.len))))))) then -1 else 1 := by
  by_cases he : a = b
  · rw [if_pos he, he, cmpK_self]
  · rw [if_neg he]
    have hn := wcmp_cases a.n b.n
    have h1 := @half_lt a.n b.n
    have h2 := @half_lt b.n a.n
    have hs := less_cb a.path b.path
    have hne : ¬ (a.kind = b.kind ∧ a.n = b.n ∧ a.path = b.path ∧ a.len = b.len) := fun ⟨e1, e2, e3, e4⟩ => he (ky_ext e1 e4 e2 e3)
    unfold cmpK
    rcases cmpI_range a.kind b.kind with ⟨k1, k2⟩ | ⟨k1, k2⟩ | ⟨k1, k2⟩
    · rw [k1, orI, if_neg (by decide), if_pos (.inl k2)]
    · rw [k1, orI, if_pos rfl]
      rcases hn with ⟨n1, n2⟩ | ⟨n1, n2⟩ | ⟨n1, n2⟩
      · rw [n2, orI, if_neg (by decide), if_pos]
        rcases h1.1 n1 with h | ⟨h, h'⟩
        · exact .inr ⟨k2, .inl (by omega)⟩
        · exact .inr ⟨k2, .inr ⟨by omega, .inl (by omega)⟩⟩
      · rw [n2, orI, if_pos rfl]
        rcases cb_range a.path b.path with p1 | ⟨p1, p2⟩ | p1
        · rw [p1, orI, if_neg (by decide), if_pos]
          exact .inr ⟨k2, .inr ⟨by rw [n1], .inr ⟨by rw [n1], .inl (hs.2 p1)⟩⟩⟩
        · rw [p1, orI, if_pos rfl]
          rcases cmpI_range a.len b.len with ⟨l1, l2⟩ | ⟨l1, l2⟩ | ⟨l1, l2⟩
          · rw [l1, orI, if_neg (by decide), if_pos]
            exact .inr ⟨k2, .inr ⟨by rw [n1], .inr ⟨by rw [n1], .inr ⟨p2, l2⟩⟩⟩⟩
          · exact absurd ⟨k2, n1, p2, l2⟩ hne
          · rw [l1, orI, if_neg (by decide), if_neg]
            rintro (h | ⟨_, h | ⟨_, h | ⟨_, h | ⟨_, h⟩⟩⟩⟩)
            · omega
            · rw [n1] at h; omega
            · rw [n1] at h; omega
            · rw [hs, p1] at h; omega
            · omega
        · rw [p1, orI, if_neg (by decide), if_neg]
          rintro (h | ⟨_, h | ⟨_, h | ⟨_, h | ⟨h, _⟩⟩⟩⟩)
          · omega
          · rw [n1] at h; omega
          · rw [n1] at h; omega
          · rw [hs, p1] at h; omega
          · rw [h, cb_self] at p1; omega
      · rw [n2, orI, if_neg (by decide), if_neg]
        have h3 := h2.1 n1
        rintro (h | ⟨_, h | ⟨h, h' | ⟨h', _⟩⟩⟩) <;> omega
    · rw [k1, orI, if_neg (by decide), if_neg]
      rintro (h | ⟨h, _⟩) <;> omega
end Go.Proofs.YtgdonjndgjiocaaDoor
end

section
/- prefix, plain laws: the one on a node, the crossing, the order. -/
namespace Go.Proofs.YtgdonjndgjiocaaDoor
open Go.Ve

theorem over_up {s : Sp} {p q : Px} : overP s q p = (rightP s q && rightP s p && decide (upP s p q.a0 q.a1 = q)) := by
  unfold overP
  cases hq : rightP s q
  · rfl
  · cases hp : rightP s p
    · rfl
    · rw [Bool.and_self, Bool.true_and, Bool.true_and, Bool.eq_iff_iff, decide_eq_true_iff, decide_eq_true_iff]
      refine ⟨fun h => h.2.2.symm, fun h => ?_⟩
      by_cases hc : p.a0 ≤ q.a0 ∧ p.a1 ≤ q.a1
      · exact ⟨hc.1, hc.2, h.symm⟩
      · have : upP s p q.a0 q.a1 = zeroP := by unfold upP; rw [decide_eq_false hc, Bool.and_false, cond_false]
        rw [this] at h
        rw [← h, zero_notright] at hq; cases hq
theorem right_top {s : Sp} {p : Px} (h : rightP s p = true) : p.a0 ≤ (topP s).a0 ∧ p.a1 ≤ (topP s).a1 := by
  unfold rightP at h
  rw [Bool.and_eq_true, Bool.and_eq_true] at h
  obtain ⟨⟨h1, h2⟩, h3⟩ := h
  unfold topP
  rw [h1, cond_true]
  refine ⟨(len_ok_iff.1 (onD_iff.1 h2).2.1).2.2, ?_⟩
  by_cases hn : s.n = 1
  · rw [decide_eq_true hn, cond_true] at h3
    rw [sound_one h1 hn, (of_decide_eq_true h3).1]
    show (0 : Int) ≤ depthD zeroD
    decide
  · rw [decide_eq_false hn, cond_false] at h3
    exact (len_ok_iff.1 (onD_iff.1 h3).2.1).2.2
theorem up_none {s : Sp} {p : Px} {i j : Int} (h : ¬ (rightP s p = true ∧ p.a0 ≤ i ∧ p.a1 ≤ j ∧ i ≤ (topP s).a0 ∧ j ≤ (topP s).a1)) : upP s p i j = zeroP := by
  by_cases hc : rightP s p = true ∧ p.a0 ≤ i ∧ p.a1 ≤ j
  · rw [up_eq hc.1 hc.2.1 hc.2.2]
    unfold orN
    cases hr : rightP s ⟨i, j, cutD s.d0 i p.k0, cutD s.d1 j p.k1⟩
    · rw [cond_false]
    · have := right_top hr
      exact absurd ⟨hc.1, hc.2.1, hc.2.2, this.1, this.2⟩ h
  · unfold upP
    have : (rightP s p && decide (p.a0 ≤ i ∧ p.a1 ≤ j)) = false := by
      cases hr : rightP s p
      · rfl
      · rw [Bool.true_and]; exact decide_eq_false fun h' => hc ⟨hr, h'⟩
    rw [this, cond_false]
theorem up_some {s : Sp} {p : Px} {i j : Int} (hp : POk p) (h : rightP s p = true ∧ p.a0 ≤ i ∧ p.a1 ≤ j ∧ i ≤ (topP s).a0 ∧ j ≤ (topP s).a1) :
    (upP s p i j).a0 = i ∧ (upP s p i j).a1 = j ∧ overP s (upP s p i j) p = true := by
  obtain ⟨hr, h1, h2, h3, h4⟩ := h
  obtain ⟨g1, g2, g3⟩ := (rightP_iff hp).1 hr
  have hb := right_bounds hr
  have hc := hp.cut s.d0 s.d1 i j
  have hO : overP s ⟨i, j, cutD s.d0 i p.k0, cutD s.d1 j p.k1⟩ p = true := by
    unfold topP at h3 h4
    rw [g1, cond_true] at h3 h4
    have h3 : i ≤ depthD s.d0 := h3
    have h4 : j ≤ depthD s.d1 := h4
    refine (over_iffP hc hp).2 ⟨g1, RD.of_cut g2.1 ?_ h1, ?_⟩
    · exact len_ok_iff.2 ⟨(len_ok_iff.1 (onD_iff.1 g2.1).2.1).1, (show (0 : Int) ≤ i by omega), h3⟩
    · unfold R1 at g3 ⊢
      by_cases hn : s.n = 1
      · rw [if_pos hn] at g3 ⊢
        have hz := sound_one g1 hn
        rw [hz] at h4
        have hd : depthD zeroD = 0 := by decide
        rw [hd] at h4
        refine ⟨by show j = 0; omega, ?_, g3.1, g3.2.1⟩
        show cutD s.d1 j p.k1 = zeroK
        rw [hz]; unfold cutD; rw [if_pos (.inl (by rw [lenD_zero]; decide))]
      · rw [if_neg hn] at g3 ⊢
        exact RD.of_cut g3.1 (len_ok_iff.2 ⟨(len_ok_iff.1 (onD_iff.1 g3.1).2.1).1, (show (0 : Int) ≤ j by omega), h4⟩) h2
  have hR : rightP s ⟨i, j, cutD s.d0 i p.k0, cutD s.d1 j p.k1⟩ = true := by
    have := hO; unfold overP at this; rw [Bool.and_eq_true, Bool.and_eq_true] at this; exact this.1.1
  have e : upP s p i j = ⟨i, j, cutD s.d0 i p.k0, cutD s.d1 j p.k1⟩ := by rw [up_eq hr h1 h2, orN, hR, cond_true]
  rw [e]; exact ⟨rfl, rfl, hO⟩

/-! ### the crossing -/
section
variable {R : Int → Ky → Int → Ky → Prop} {a b c : Int} {k x y : Ky}
def pkA (a b : Int) : Int := if b < a then b else a
def pkK (a : Int) (k : Ky) (b : Int) (x : Ky) : Ky := if b < a then x else k
theorem pk_sym (hR : DirOk R) (hk : k.n < 2 ^ 128) (h2 : R b x (pkA a b) (pkK a k b x)) : pkA a b = pkA b a ∧ pkK a k b x = pkK b x a k := by
  unfold pkA pkK at *
  by_cases g1 : b < a
  · rw [if_pos g1, if_pos g1, if_neg (by omega), if_neg (by omega)]; exact ⟨rfl, rfl⟩
  · rw [if_neg g1, if_neg g1] at *
    by_cases g2 : a < b
    · rw [if_pos g2, if_pos g2]; exact ⟨rfl, rfl⟩
    · have e : a = b := by omega
      subst e
      rw [if_neg g2, if_neg g2]
      exact ⟨rfl, (hR.same hk h2).symm⟩
theorem pk_both (hR : DirOk R) (hy : y.n < 2 ^ 128) (hk : k.n < 2 ^ 128) (hx : x.n < 2 ^ 128) (h1 : R a k c y) (h2 : R b x c y) : R a k (pkA a b) (pkK a k b x) ∧ R b x (pkA a b) (pkK a k b x) ∧ R (pkA a b) (pkK a k b x) c y := by
  unfold pkA pkK
  by_cases g1 : b < a
  · rw [if_pos g1, if_pos g1]
    exact ⟨hR.chain hy h1 h2 (by omega), hR.l hx h2, h2⟩
  · rw [if_neg g1, if_neg g1]
    exact ⟨hR.l hk h1, hR.chain hy h2 h1 (by omega), h1⟩
end
theorem crossX_eq {s : Sp} {p q : Px} (hp : rightP s p = true) (hq : rightP s q = true) : crossX s p q = ⟨pkA p.a0 q.a0, pkA p.a1 q.a1, pkK p.a0 p.k0 q.a0 q.k0, pkK p.a1 p.k1 q.a1 q.k1⟩ := by
  have hs : soundS s = true := by unfold rightP at hp; rw [Bool.and_eq_true, Bool.and_eq_true] at hp; exact hp.1.1
  unfold crossX
  have c0 : ∀ {α : Type} (x y : α), (bif decide (q.a0 < p.a0) then x else y) = if q.a0 < p.a0 then x else y := fun x y => by
    by_cases h : q.a0 < p.a0
    · rw [decide_eq_true h, cond_true, if_pos h]
    · rw [decide_eq_false h, cond_false, if_neg h]
  have c1 : ∀ {α : Type} (x y : α), (bif decide (q.a1 < p.a1) then x else y) = if q.a1 < p.a1 then x else y := fun x y => by
    by_cases h : q.a1 < p.a1
    · rw [decide_eq_true h, cond_true, if_pos h]
    · rw [decide_eq_false h, cond_false, if_neg h]
  rcases sound_n hs with hn | hn
  · rw [hn]
    show xAt _ _ p q 1 = _
    unfold rightP at hp hq
    rw [decide_eq_true hn, cond_true, Bool.and_eq_true] at hp hq
    have e1 := of_decide_eq_true hp.2
    have e2 := of_decide_eq_true hq.2
    show (⟨bif decide (q.a0 < p.a0) then q.a0 else p.a0, p.a1, bif decide (q.a0 < p.a0) then q.k0 else p.k0, p.k1⟩ : Px) = _
    rw [c0, c0]
    unfold pkA pkK
    rw [if_neg (show ¬ q.a1 < p.a1 by omega), if_neg (show ¬ q.a1 < p.a1 by omega)]
  · rw [hn]
    show xAt _ _ p q 2 = _
    show (⟨bif decide (q.a0 < p.a0) then q.a0 else p.a0, bif decide (q.a1 < p.a1) then q.a1 else p.a1, bif decide (q.a0 < p.a0) then q.k0 else p.k0, bif decide (q.a1 < p.a1) then q.k1 else p.k1⟩ : Px) = _
    rw [c0, c0, c1, c1]; rfl
theorem pick_ok {p q : Px} (hp : POk p) (hq : POk q) : POk ⟨pkA p.a0 q.a0, pkA p.a1 q.a1, pkK p.a0 p.k0 q.a0 q.k0, pkK p.a1 p.k1 q.a1 q.k1⟩ := by
  refine ⟨?_, ?_, ?_, ?_⟩
  · show (pkK _ _ _ _).n < _; unfold pkK; split <;> first | exact hq.n0 | exact hp.n0
  · show (pkK _ _ _ _).n < _; unfold pkK; split <;> first | exact hq.n1 | exact hp.n1
  · show (pkK _ _ _ _).path.length ≤ _; unfold pkK; split <;> first | exact hq.p0 | exact hp.p0
  · show (pkK _ _ _ _).path.length ≤ _; unfold pkK; split <;> first | exact hq.p1 | exact hp.p1
theorem cross_some {s : Sp} {p q : Px} (hp : POk p) (hq : POk q) (h : crossB s p q = true) : crossB s q p = true ∧ crossP s p q = crossP s q p ∧ overP s p (crossP s p q) = true ∧ overP s q (crossP s p q) = true := by
  have h' := h
  unfold crossB at h'
  rw [Bool.and_eq_true, Bool.and_eq_true, Bool.and_eq_true] at h'
  obtain ⟨⟨⟨rp, rq⟩, o1⟩, o2⟩ := h'
  have e := crossX_eq rp rq
  have e' := crossX_eq rq rp
  rw [e] at o1 o2
  obtain ⟨_, b0, b1⟩ := (over_iffP hq (pick_ok hp hq)).1 o2
  obtain ⟨m0, m1⟩ := pk_sym (dirD _) hp.n0 b0
  obtain ⟨n0, n1⟩ := pk_sym (dir1 s) hp.n1 b1
  have ex : crossX s q p = crossX s p q := by rw [e, e', m0, m1, n0, n1]
  have hB : crossB s q p = true := by unfold crossB; rw [rp, rq, ex, e, o1, o2]; rfl
  refine ⟨hB, ?_, ?_, ?_⟩
  · unfold crossP; rw [h, hB, cond_true, cond_true, ex]
  · unfold crossP; rw [h, cond_true, e]; exact o1
  · unfold crossP; rw [h, cond_true, e]; exact o2
theorem cross_comm {s : Sp} {p q : Px} (hp : POk p) (hq : POk q) : crossB s p q = crossB s q p ∧ crossP s p q = crossP s q p := by
  cases h : crossB s p q
  · cases h2 : crossB s q p
    · exact ⟨rfl, by unfold crossP; rw [h, h2, cond_false, cond_false]⟩
    · rw [(cross_some hq hp h2).1] at h; cases h
  · obtain ⟨h1, h2, _⟩ := cross_some hp hq h
    exact ⟨h1.symm, h2⟩
theorem cross_both {s : Sp} {p q x : Px} (hp : POk p) (hq : POk q) (hx : POk x) (h1 : overP s p x = true) (h2 : overP s q x = true) : crossB s p q = true ∧ overP s (crossP s p q) x = true := by
  obtain ⟨s1, a0, a1⟩ := (over_iffP hp hx).1 h1
  obtain ⟨_, b0, b1⟩ := (over_iffP hq hx).1 h2
  obtain ⟨c0, d0, e0⟩ := pk_both (dirD _) hx.n0 hp.n0 hq.n0 a0 b0
  obtain ⟨c1, d1, e1⟩ := pk_both (dir1 s) hx.n1 hp.n1 hq.n1 a1 b1
  have rp : rightP s p = true := (rightP_iff hp).2 ⟨s1, (dirD _).l hp.n0 a0, (dir1 s).l hp.n1 a1⟩
  have rq : rightP s q = true := (rightP_iff hq).2 ⟨s1, (dirD _).l hq.n0 b0, (dir1 s).l hq.n1 b1⟩
  have e := crossX_eq rp rq
  have hB : crossB s p q = true := by
    unfold crossB
    rw [rp, rq, e, (over_iffP hp (pick_ok hp hq)).2 ⟨s1, c0, c1⟩, (over_iffP hq (pick_ok hp hq)).2 ⟨s1, d0, d1⟩]; rfl
  refine ⟨hB, ?_⟩
  unfold crossP
  rw [hB, cond_true, e]
  exact (over_iffP (pick_ok hp hq) hx).2 ⟨s1, e0, e1⟩
theorem crossP_ok {s : Sp} {p q : Px} (hp : POk p) (hq : POk q) : POk (crossP s p q) := by
  unfold crossP
  cases crossB s p q
  · exact ⟨Nat.two_pow_pos 128, Nat.two_pow_pos 128, Nat.zero_le _, Nat.zero_le _⟩
  · exact xAt_ok hp hq _
/-- Whatever both are over, the crossing is over, and the other way round. -/
theorem cross_over {s : Sp} {p q x : Px} (hp : POk p) (hq : POk q) (hx : POk x) (h : crossB s p q = true) : (overP s p x && overP s q x) = overP s (crossP s p q) x := by
  obtain ⟨_, _, h1, h2⟩ := cross_some hp hq h
  have hc := @crossP_ok s p q hp hq
  rw [Bool.eq_iff_iff, Bool.and_eq_true]
  exact ⟨fun g => (cross_both hp hq hx g.1 g.2).2, fun g => ⟨over_transP hp hc hx h1 g, over_transP hq hc hx h2 g⟩⟩
end Go.Proofs.YtgdonjndgjiocaaDoor
end

section
/- key: the keys over a key, gone through. -/
namespace Go.Proofs.YtgdonjndgjiocaaDoor
open Go.Ve

def kcl (l : List Ky) : List (List AV) := l.map kcs
def kvl (l : List Ky) : AV := match l with
  | [] => .nils
  | x :: r => .sl (kcl (x :: r))
theorem kcl_snoc (l : List Ky) (x : Ky) : kcl l ++ [kcs x] = kcl (l ++ [x]) := by simp [kcl]
theorem kcl_len (l : List Ky) : (kcl l).length = l.length := by simp [kcl]
theorem kcl_get (l : List Ky) (i : Nat) : (kcl l)[i]? = (l[i]?).map kcs := by simp [kcl]
theorem kvl_sl {l : List Ky} (h : l ≠ []) : kvl l = .sl (kcl l) := by cases l with
  | nil => exact absurd rfl h
  | cons x r => rfl
/-- The keys over a key, the longest first. -/
def upsK (k : Ky) : List Ky := bif rightK k then (List.range (k.len.toNat + 1)).map fun i => cutK k (k.len - (i : Nat)) else []
theorem upsK_len {k : Ky} (h : rightK k = true) : (upsK k).length = k.len.toNat + 1 := by rw [upsK, h, cond_true]; simp
theorem upsK_take {k : Ky} (h : rightK k = true) {i : Nat} (hi : i ≤ k.len.toNat) : (upsK k).take (i + 1) = (upsK k).take i ++ [cutK k (k.len - (i : Nat))] := by
  rw [List.take_add_one]
  congr 1
  rw [upsK, h, cond_true]
  simp [show i < k.len.toNat + 1 by omega]
theorem right_len {k : Ky} (h : rightK k = true) : 0 ≤ k.len ∧ k.len ≤ 128 := by
  by_cases h3 : k.kind = 3
  · obtain ⟨_, a2, _⟩ := right_path h h3
    have := (labs_len k.path).1
    omega
  · obtain ⟨_, a2, _⟩ := right_addr h h3
    have := widthK_le k.kind
    omega
def upsH (k : Ky) : Nat → Hp → Hp
  | 0, H => H
  | i + 1, H => H.set 2 (.box 73 [.own 4]) ++ [.row 30 5 (kcl ((upsK k).take (i + 1)))]
end Go.Proofs.YtgdonjndgjiocaaDoor
end

section
/- grid: those over a prefix, and its parents (plain). -/
namespace Go.Proofs.YtgdonjndgjiocaaDoor
open Go.Ve

def pcl (l : List Px) : List (List AV) := l.map pcs
def pvl (l : List Px) : AV := match l with
  | [] => .nils
  | x :: r => .sl (pcl (x :: r))
theorem pcl_snoc (l : List Px) (x : Px) : pcl l ++ [pcs x] = pcl (l ++ [x]) := by simp [pcl]
theorem pcl_len (l : List Px) : (pcl l).length = l.length := by simp [pcl]
theorem pcl_get (l : List Px) (i : Nat) : (pcl l)[i]? = (l[i]?).map pcs := by simp [pcl]
theorem pvl_sl {l : List Px} (h : l ≠ []) : pvl l = .sl (pcl l) := by cases l with
  | nil => exact absurd rfl h
  | cons x r => rfl
theorem pcl_all (l : List Px) : allLen 12 (pcl l) := by
  intro c hc
  simp only [pcl, List.mem_map] at hc
  obtain ⟨x, _, rfl⟩ := hc
  rfl

/-- A row that is filled from its beginning on. -/
def fillR (n i : Nat) (f : Nat → List AV) (z : List AV) : List (List AV) := (List.range n).map fun j => if j < i then f j else z
theorem fillR_zero (n : Nat) (f : Nat → List AV) (z : List AV) : fillR n 0 f z = List.replicate n z := by
  unfold fillR
  simp only [Nat.not_lt_zero, if_false]
  rw [List.map_const', List.length_range]
theorem fillR_len (n i : Nat) (f : Nat → List AV) (z : List AV) : (fillR n i f z).length = n := by simp [fillR]
theorem fillR_get {n i : Nat} {f : Nat → List AV} {z : List AV} (h : i < n) : (fillR n i f z)[i]? = some z := by simp [fillR, h]
theorem fillR_set {n i : Nat} {f : Nat → List AV} {z : List AV} : (fillR n i f z).set i (f i) = fillR n (i + 1) f z := by
  apply List.ext_getElem?
  intro j
  rw [List.getElem?_set]
  by_cases hj : i = j
  · subst hj
    rw [fillR_len, if_pos rfl]
    by_cases hi : i < n
    · rw [if_pos hi]
      simp [fillR, List.getElem?_range hi]
    · rw [if_neg hi, List.getElem?_eq_none (by rw [fillR_len]; omega)]
  · rw [if_neg hj]
    by_cases hn : j < n
    · simp only [fillR, List.getElem?_map, List.getElem?_range hn, Option.map_some]
      congr 1
      by_cases h1 : j < i
      · rw [if_pos h1, if_pos (by omega)]
      · rw [if_neg h1, if_neg (by omega)]
    · rw [List.getElem?_eq_none (by rw [fillR_len]; omega), List.getElem?_eq_none (by rw [fillR_len]; omega)]
theorem fillR_all (n : Nat) (f : Nat → List AV) (z : List AV) : fillR n n f z = (List.range n).map f := by
  unfold fillR
  apply List.map_congr_left
  intro j hj
  rw [if_pos (List.mem_range.1 hj)]

/-- A key on each level. -/
def kov (d : Dm) (k : Ky) : List Ky := (List.range ((depthD d).toNat + 1)).map fun i => cutD d (i : Nat) k
theorem kov_get {d : Dm} {k : Ky} {i : Nat} (h : (i : Int) ≤ depthD d) : (kcl (kov d k))[i]? = some (kcs (cutD d (i : Nat) k)) := by
  have := @depthD_le d
  rw [kcl_get, kov, List.getElem?_map, List.getElem?_range (by omega)]
  rfl
theorem kov_fill (d : Dm) (k : Ky) : kcl (kov d k) = (List.range ((depthD d).toNat + 1)).map fun i => kcs (cutD d (i : Nat) k) := by
  rw [kov, kcl, List.map_map]; rfl

def upAt (s : Sp) (p : Px) (q : Nat × Nat) : Px := ⟨q.1, q.2, cutD s.d0 q.1 p.k0, cutD s.d1 q.2 p.k1⟩
def overN (p : Px) (q : Nat × Nat) : Bool := decide (p.a0 ≤ q.1 ∧ p.a1 ≤ q.2)
def accA (s : Sp) (p : Px) (l : List (Nat × Nat)) : List Px := (l.filter (overN p)).map (upAt s p)
def allP (s : Sp) (p : Px) : List Px := bif rightP s p then accA s p (nds s) else []
theorem accA_snoc_yes {s : Sp} {p : Px} {l : List (Nat × Nat)} {q : Nat × Nat} (h : overN p q = true) : accA s p (l ++ [q]) = accA s p l ++ [upAt s p q] := by
  simp [accA, List.filter_append, h]
theorem accA_snoc_no {s : Sp} {p : Px} {l : List (Nat × Nat)} {q : Nat × Nat} (h : overN p q = false) : accA s p (l ++ [q]) = accA s p l := by
  simp [accA, List.filter_append, h]
theorem accA_len (s : Sp) (p : Px) (l : List (Nat × Nat)) : (accA s p l).length ≤ l.length := by
  unfold accA; rw [List.length_map]; exact List.length_filter_le _ _
theorem upAt_ok {s : Sp} {p : Px} (hp : POk p) (q : Nat × Nat) : POk (upAt s p q) := hp.cut _ _ _ _
theorem right_sound {s : Sp} {p : Px} (h : rightP s p = true) : soundS s = true := by
  unfold rightP at h
  rw [Bool.and_eq_true, Bool.and_eq_true] at h
  exact h.1.1
/-- On a node that is not below its own, the one over it. -/
theorem upAt_yes {s : Sp} {p : Px} (hp : POk p) (hr : rightP s p = true) {q : Nat × Nat} (hq : q ∈ nds s) (h : overN p q = true) :
    upP s p q.1 q.2 = upAt s p q ∧ overP s (upAt s p q) p = true := by
  have hs := right_sound hr
  rw [nds_yes hs] at hq
  obtain ⟨k, hk⟩ := List.getElem?_of_mem hq
  obtain ⟨h1, h2, _⟩ := node_get hk
  have h := of_decide_eq_true h
  obtain ⟨t0, t1⟩ := top_g s
  have hu := up_some hp (i := q.1) (j := q.2) ⟨hr, h.1, h.2, by rw [t0]; omega, by rw [t1]; omega⟩
  have e : upP s p q.1 q.2 = upAt s p q := by
    have h3 := up_eq hr h.1 h.2
    rw [h3] at hu ⊢
    unfold orN at hu ⊢
    cases hb : rightP s ⟨(q.1 : Int), (q.2 : Int), cutD s.d0 q.1 p.k0, cutD s.d1 q.2 p.k1⟩
    · rw [hb, cond_false] at hu
      have := hu.2.2
      rw [over_up, zero_notright] at this; cases this
    · rw [cond_true]; rfl
  exact ⟨e, e ▸ hu.2.2⟩
theorem over_right {s : Sp} {p q : Px} (h : overP s q p = true) : rightP s q = true ∧ rightP s p = true := by
  rw [over_up, Bool.and_eq_true, Bool.and_eq_true] at h
  exact h.1
theorem upAt_no {s : Sp} {p : Px} {q : Nat × Nat} (h : ¬ (rightP s p = true ∧ overN p q = true)) : rightP s (upP s p q.1 q.2) = false := by
  have : upP s p q.1 q.2 = zeroP := up_none fun hc => h ⟨hc.1, decide_eq_true ⟨hc.2.1, hc.2.2.1⟩⟩
  rw [this, zero_notright]
theorem allP_mem {s : Sp} {p x : Px} (hp : POk p) : x ∈ allP s p ↔ overP s x p = true := by
  constructor
  · intro h
    unfold allP at h
    cases hr : rightP s p
    · rw [hr, cond_false] at h; cases h
    · rw [hr, cond_true, accA, List.mem_map] at h
      obtain ⟨q, hq, rfl⟩ := h
      obtain ⟨h1, h2⟩ := List.mem_filter.1 hq
      exact (upAt_yes hp hr h1 h2).2
  · intro h
    obtain ⟨hx, hr⟩ := over_right h
    have hs := right_sound hr
    obtain ⟨t0, t1⟩ := top_g s
    have htx := right_top hx
    have hbx := right_bounds hx
    have h0 := h
    rw [over_up, Bool.and_eq_true, Bool.and_eq_true] at h
    have hu := of_decide_eq_true h.2
    have hle : p.a0 ≤ x.a0 ∧ p.a1 ≤ x.a1 := by
      unfold overP at h0
      rw [Bool.and_eq_true] at h0
      have := of_decide_eq_true h0.2
      exact ⟨this.1, this.2.1⟩
    have hmem : ((x.a0.toNat, x.a1.toNat) : Nat × Nat) ∈ nds s := by
      rw [nds_yes hs]
      exact List.mem_of_getElem? (place_get (by show x.a0.toNat ≤ _; omega) (by show x.a1.toNat ≤ _; omega))
    have hov : overN p (x.a0.toNat, x.a1.toNat) = true := decide_eq_true (by show p.a0 ≤ (x.a0.toNat : Int) ∧ p.a1 ≤ (x.a1.toNat : Int); omega)
    have e := (upAt_yes hp hr hmem hov).1
    have e2 : upAt s p (x.a0.toNat, x.a1.toNat) = x := by
      rw [← e]
      show upP s p (x.a0.toNat : Int) (x.a1.toNat : Int) = x
      rw [show (x.a0.toNat : Int) = x.a0 by omega, show (x.a1.toNat : Int) = x.a1 by omega]
      exact hu
    unfold allP
    rw [hr, cond_true, accA, List.mem_map]
    exact ⟨_, List.mem_filter.2 ⟨hmem, hov⟩, e2⟩
theorem allP_len (s : Sp) (p : Px) : (allP s p).length ≤ 33153 := by
  unfold allP
  cases rightP s p
  · exact Nat.zero_le _
  · rw [cond_true]; exact Nat.le_trans (accA_len _ _ _) (nds_len s)
theorem allP_ok {s : Sp} {p : Px} (hp : POk p) : ∀ x ∈ allP s p, POk x := by
  intro x hx
  unfold allP at hx
  cases hr : rightP s p
  · rw [hr, cond_false] at hx; cases hx
  · rw [hr, cond_true, accA, List.mem_map] at hx
    obtain ⟨q, _, rfl⟩ := hx
    exact upAt_ok hp q
theorem allP_ne {s : Sp} {p : Px} (hp : POk p) : allP s p ≠ [] ↔ rightP s p = true := by
  constructor
  · intro h
    cases hr : rightP s p with
    | true => rfl
    | false => unfold allP at h; rw [hr, cond_false] at h; exact absurd rfl h
  · intro h e
    have := (allP_mem (x := p) hp).2 (by rw [over_reflP hp]; exact h)
    rw [e] at this; cases this
/-- In the order of the nodes. -/
theorem allP_ord {s : Sp} {p : Px} {i : Nat} {x y : Px} (hx : (allP s p)[i]? = some x) (hy : (allP s p)[i + 1]? = some y) : plS s x.a0 x.a1 < plS s y.a0 y.a1 := by
  unfold allP at hx hy
  cases hr : rightP s p
  · rw [hr, cond_false] at hx; simp at hx
  · rw [hr, cond_true, accA, List.getElem?_map, Option.map_eq_some_iff] at hx hy
    obtain ⟨u, hu, rfl⟩ := hx
    obtain ⟨v, hv, rfl⟩ := hy
    -- places rise along the nodes
    have hpw : (nds s).Pairwise fun u v => plS s u.1 u.2 < plS s v.1 v.2 := by
      rw [List.pairwise_iff_getElem]
      intro i j hi hj hij
      rw [plS_get (List.getElem?_eq_getElem hi), plS_get (List.getElem?_eq_getElem hj)]
      omega
    have hpw2 := hpw.filter (overN p)
    rw [List.pairwise_iff_getElem] at hpw2
    obtain ⟨h1, e1⟩ := List.getElem?_eq_some_iff.1 hu
    obtain ⟨h2, e2⟩ := List.getElem?_eq_some_iff.1 hv
    have := hpw2 i (i + 1) h1 h2 (by omega)
    rw [e1, e2] at this
    exact this
end Go.Proofs.YtgdonjndgjiocaaDoor
end

section
/- prefix, the document's answer: Over, Up; and the statements that they serve. -/
namespace Go.Proofs.YtgdonjndgjiocaaDoor
open Go.Ve

theorem up_over {s : Sp} {p : Px} (i j : Int) : upP s p i j = bif overP s ⟨i, j, cutD s.d0 i p.k0, cutD s.d1 j p.k1⟩ p then ⟨i, j, cutD s.d0 i p.k0, cutD s.d1 j p.k1⟩ else zeroP := by
  cases h : overP s ⟨i, j, cutD s.d0 i p.k0, cutD s.d1 j p.k1⟩ p
  · rw [cond_false]
    by_cases hc : rightP s p = true ∧ p.a0 ≤ i ∧ p.a1 ≤ j
    · rw [up_eq hc.1 hc.2.1 hc.2.2]
      unfold orN
      cases hr : rightP s ⟨i, j, cutD s.d0 i p.k0, cutD s.d1 j p.k1⟩
      · rfl
      · exfalso
        have : overP s ⟨i, j, cutD s.d0 i p.k0, cutD s.d1 j p.k1⟩ p = true := by
          unfold overP
          rw [hr, hc.1, Bool.and_self, Bool.true_and]
          refine decide_eq_true ⟨hc.2.1, hc.2.2, ?_⟩
          show _ = upP s p i j
          rw [up_eq hc.1 hc.2.1 hc.2.2, orN, hr, cond_true]
        rw [h] at this; cases this
    · unfold upP
      have : (rightP s p && decide (p.a0 ≤ i ∧ p.a1 ≤ j)) = false := by
        cases hr : rightP s p
        · rfl
        · rw [Bool.true_and]; exact decide_eq_false fun h' => hc ⟨hr, h'⟩
      rw [this, cond_false]
  · rw [cond_true]
    have h' := h
    unfold overP at h'
    rw [Bool.and_eq_true, Bool.and_eq_true] at h'
    exact (of_decide_eq_true h'.2).2.2.symm
theorem over_dims {s : Sp} {p q : Px} (hp : POk p) (hq : POk q) (rp : rightP s p = true) (rq : rightP s q = true) :
    overP s p q = true ↔ (q.a0 ≤ p.a0 ∧ p.k0 = cutD s.d0 p.a0 q.k0) ∧ (s.n = 2 → q.a1 ≤ p.a1 ∧ p.k1 = cutD s.d1 p.a1 q.k1) := by
  rw [over_iffP hp hq]
  obtain ⟨s1, p0, p1⟩ := (rightP_iff hp).1 rp
  obtain ⟨_, q0, q1⟩ := (rightP_iff hq).1 rq
  refine ⟨fun ⟨_, h0, h1⟩ => ⟨⟨h0.2.2.1, h0.2.2.2⟩, fun hn => ?_⟩, fun ⟨h0, h1⟩ => ⟨s1, ⟨p0.1, q0.1, h0.1, h0.2⟩, ?_⟩⟩
  · unfold R1 at h1
    rw [if_neg (by omega)] at h1
    exact ⟨h1.2.2.1, h1.2.2.2⟩
  · unfold R1 at p1 q1 ⊢
    by_cases hn : s.n = 1
    · rw [if_pos hn] at p1 q1 ⊢
      exact ⟨p1.1, p1.2.1, q1.1, q1.2.1⟩
    · rw [if_neg hn] at p1 q1 ⊢
      have h2 := h1 (by have := sound_n s1; omega)
      exact ⟨p1.1, q1.1, h2.1, h2.2⟩
theorem r9Over_ok (s : Sp) (p q : Px) (hp : POk p) (hq : POk q) : PCall P 69 [spv s, pxv p, pxv q] (.bool (overP s p q)) := by
  have p0 := hp.p0
  have p1 := hp.p1
  have w0 := hq.p0
  have w1 := hq.p1
  have q1 := r9Right_ok s p hp
  have q2 := r9Right_ok s q hq
  have q3 := r8Cut_ok s.d0 p.a0 q.k0 hq.n0 (by omega)
  have q4 := r8Cut_ok s.d1 p.a1 q.k1 hq.n1 (by omega)
  cases rp : rightP s p
  · have e : overP s p q = false := by unfold overP; rw [rp]; rfl
    rw [e]
    rw [rp] at q1
    generalize rightP s q = rq at *
    cases rq
    all_goals (
      refine PCall.of_awp tok mixed fn69 (Nat.le_of_ble_eq_true rfl) ?_
      (conv => whnf); (repeat' first | ((with_reducible refine Box.mk ?_); conv => whnf) | ((with_reducible refine And.intro (fun _ => ?_) (fun _ => ?_)) <;> conv => whnf) | ((with_reducible show AYld _ _ _ _ _); (refine AYld.of tok mixed ?_); conv => whnf) | ((with_reducible show forceH _ _); (refine (forceH_eq _ _).mpr ?_); conv => whnf) | ((with_reducible show ACall _ _ _ _ _); (refine ACall.of_pure (by assumption) (by rfl) ?_); conv => whnf) | ((with_reducible show Exists _); (refine ⟨_, ACall.of_pure (by assumption) (by rfl) ⟨rfl, rfl⟩, ?_⟩); conv => whnf) | ((with_reducible show _ ∧ _ ∧ _); (refine ⟨by omega, by omega, ?_⟩); conv => whnf) | fail)
      all_goals first
        | contradiction
        | rfl)
  · cases rq : rightP s q
    · have e : overP s p q = false := by unfold overP; rw [rp, rq]; rfl
      rw [e]
      rw [rp] at q1
      rw [rq] at q2
      refine PCall.of_awp tok mixed fn69 (Nat.le_of_ble_eq_true rfl) ?_
      (conv => whnf); (repeat' first | ((with_reducible refine Box.mk ?_); conv => whnf) | ((with_reducible refine And.intro (fun _ => ?_) (fun _ => ?_)) <;> conv => whnf) | ((with_reducible show AYld _ _ _ _ _); (refine AYld.of tok mixed ?_); conv => whnf) | ((with_reducible show forceH _ _); (refine (forceH_eq _ _).mpr ?_); conv => whnf) | ((with_reducible show ACall _ _ _ _ _); (refine ACall.of_pure (by assumption) (by rfl) ?_); conv => whnf) | ((with_reducible show Exists _); (refine ⟨_, ACall.of_pure (by assumption) (by rfl) ⟨rfl, rfl⟩, ?_⟩); conv => whnf) | ((with_reducible show _ ∧ _ ∧ _); (refine ⟨by omega, by omega, ?_⟩); conv => whnf) | fail)
      all_goals first
        | contradiction
        | rfl
    · have hn : s.n = 1 ∨ s.n = 2 := sound_n ((rightP_iff hp).1 rp).1
      have ho := over_dims hp hq rp rq
      have no : ¬ ((q.a0 ≤ p.a0 ∧ p.k0 = cutD s.d0 p.a0 q.k0) ∧ (s.n = 2 → q.a1 ≤ p.a1 ∧ p.k1 = cutD s.d1 p.a1 q.k1)) → AV.bool false = AV.bool (overP s p q) := fun h => by
        cases h2 : overP s p q with
        | false => rfl
        | true => exact absurd (ho.1 h2) h
      have yes : ((q.a0 ≤ p.a0 ∧ p.k0 = cutD s.d0 p.a0 q.k0) ∧ (s.n = 2 → q.a1 ≤ p.a1 ∧ p.k1 = cutD s.d1 p.a1 q.k1)) → AV.bool true = AV.bool (overP s p q) := fun h => by rw [ho.2 h]
      rw [rp] at q1
      rw [rq] at q2
      clear ho
      generalize cutD s.d0 p.a0 q.k0 = x at *
      generalize cutD s.d1 p.a1 q.k1 = y at *
      refine PCall.of_awp tok mixed fn69 (Nat.le_of_ble_eq_true rfl) ?_
      (conv => whnf); (repeat' first | ((with_reducible refine Box.mk ?_); conv => whnf) | ((with_reducible refine And.intro (fun _ => ?_) (fun _ => ?_)) <;> conv => whnf) | ((with_reducible show AYld _ _ _ _ _); (refine AYld.of tok mixed ?_); conv => whnf) | ((with_reducible show forceH _ _); (refine (forceH_eq _ _).mpr ?_); conv => whnf) | ((with_reducible show ACall _ _ _ _ _); (refine ACall.of_pure (by assumption) (by rfl) ?_); conv => whnf) | ((with_reducible show Exists _); (refine ⟨_, ACall.of_pure (by assumption) (by rfl) ⟨rfl, rfl⟩, ?_⟩); conv => whnf) | ((with_reducible show ∃ L, drawR L _ = true ∧ _); (refine ⟨[], by kernel_rfl, ?_⟩); conv => whnf) | ((with_reducible show _ ∧ _ ∧ _); (refine ⟨by omega, by omega, ?_⟩); conv => whnf) | fail)
      all_goals try contradiction
      refine aloop (fun c : Nat => (c : Int) ≤ s.n ∧ (0 < c → q.a0 ≤ p.a0 ∧ p.k0 = x) ∧ (1 < c → q.a1 ≤ p.a1 ∧ p.k1 = y)) (fun c : Nat => ⟨envL [(3, .ptr 0 0), (4, .ptr 1 0), (5, .ptr 2 0), (6, .bool false), (7, .int .i64 c)], [.box 26 (scs s), .box 33 (pcs p), .box 33 (pcs q)]⟩)
        (fun c => 2 - c) 0 ⟨by omega, fun h => by omega, fun h => by omega⟩ (weak_to ⟨rfl, rfl, rfl, rfl, rfl, trivial⟩ rfl) ?_
      rintro c ⟨hc, g0, g1⟩
      have hc2 : c = 0 ∨ c = 1 ∨ c = 2 := by omega
      rcases hc2 with rfl | rfl | rfl
      · (conv => whnf); (repeat' first | ((with_reducible refine Box.mk ?_); conv => whnf) | ((with_reducible refine And.intro (fun _ => ?_) (fun _ => ?_)) <;> conv => whnf) | ((with_reducible show AYld _ _ _ _ _); (refine AYld.of tok mixed ?_); conv => whnf) | ((with_reducible show forceH _ _); (refine (forceH_eq _ _).mpr ?_); conv => whnf) | ((with_reducible show ACall _ _ _ _ _); (refine ACall.of_pure (by assumption) (by rfl) ?_); conv => whnf) | ((with_reducible show Exists _); (refine ⟨_, ACall.of_pure (by assumption) (by rfl) ⟨rfl, rfl⟩, ?_⟩); conv => whnf) | ((with_reducible show ∃ L, drawR L _ = true ∧ _); (refine ⟨[], by kernel_rfl, ?_⟩); conv => whnf) | ((with_reducible show _ ∧ _ ∧ _); (refine ⟨by omega, by omega, ?_⟩); conv => whnf) | fail)
        all_goals try contradiction
        all_goals try (exfalso; omega)
        all_goals first
          | exact no fun h => by omega
          | exact no fun h => absurd (kv_eq.2 h.1.2) (by assumption)
          | exact ⟨1, ⟨by omega, fun _ => ⟨by omega, kv_eq.1 (by assumption)⟩, fun h => by omega⟩, by decide, weak_to ⟨rfl, rfl, rfl, rfl, rfl, trivial⟩ rfl⟩
      · have k0 := g0 (by omega)
        (conv => whnf); (repeat' first | ((with_reducible refine Box.mk ?_); conv => whnf) | ((with_reducible refine And.intro (fun _ => ?_) (fun _ => ?_)) <;> conv => whnf) | ((with_reducible show AYld _ _ _ _ _); (refine AYld.of tok mixed ?_); conv => whnf) | ((with_reducible show forceH _ _); (refine (forceH_eq _ _).mpr ?_); conv => whnf) | ((with_reducible show ACall _ _ _ _ _); (refine ACall.of_pure (by assumption) (by rfl) ?_); conv => whnf) | ((with_reducible show Exists _); (refine ⟨_, ACall.of_pure (by assumption) (by rfl) ⟨rfl, rfl⟩, ?_⟩); conv => whnf) | ((with_reducible show ∃ L, drawR L _ = true ∧ _); (refine ⟨[], by kernel_rfl, ?_⟩); conv => whnf) | ((with_reducible show _ ∧ _ ∧ _); (refine ⟨by omega, by omega, ?_⟩); conv => whnf) | fail)
        all_goals try contradiction
        all_goals first
          | exact no fun h => by have := h.2 (by omega); omega
          | exact no fun h => absurd (kv_eq.2 (h.2 (by omega)).2) (by assumption)
          | exact ⟨2, ⟨by omega, fun _ => k0, fun _ => ⟨by omega, kv_eq.1 (by assumption)⟩⟩, by decide, weak_to ⟨rfl, rfl, rfl, rfl, rfl, trivial⟩ rfl⟩
          | exact yes ⟨k0, fun h => by omega⟩
      · have k0 := g0 (by omega)
        have k1 := g1 (by omega)
        (conv => whnf); (repeat' first | ((with_reducible refine Box.mk ?_); conv => whnf) | ((with_reducible refine And.intro (fun _ => ?_) (fun _ => ?_)) <;> conv => whnf) | ((with_reducible show AYld _ _ _ _ _); (refine AYld.of tok mixed ?_); conv => whnf) | ((with_reducible show forceH _ _); (refine (forceH_eq _ _).mpr ?_); conv => whnf) | ((with_reducible show ACall _ _ _ _ _); (refine ACall.of_pure (by assumption) (by rfl) ?_); conv => whnf) | ((with_reducible show Exists _); (refine ⟨_, ACall.of_pure (by assumption) (by rfl) ⟨rfl, rfl⟩, ?_⟩); conv => whnf) | ((with_reducible show ∃ L, drawR L _ = true ∧ _); (refine ⟨[], by kernel_rfl, ?_⟩); conv => whnf) | ((with_reducible show _ ∧ _ ∧ _); (refine ⟨by omega, by omega, ?_⟩); conv => whnf) | fail)
        all_goals try contradiction
        all_goals try (exfalso; omega)
        all_goals exact yes ⟨k0, fun _ => k1⟩
end Go.Proofs.YtgdonjndgjiocaaDoor
end

section
/- prefix, the document's answer: Up. -/
namespace Go.Proofs.YtgdonjndgjiocaaDoor
open Go.Ve

theorem r9Up_ok (s : Sp) (p : Px) (i j : Int) (hp : POk p) : PCall P 50 [spv s, pxv p, .agg [.int .i64 i, .int .i64 j]] (pxv (upP s p i j)) := by
  have p0 := hp.p0
  have p1 := hp.p1
  have q2 := r8Cut_ok s.d0 i p.k0 hp.n0 (by omega)
  have q3 := r8Cut_ok s.d1 j p.k1 hp.n1 (by omega)
  have q4 := r9Over_ok s _ p (hp.cut s.d0 s.d1 i j) hp
  rw [up_over]
  generalize cutD s.d0 i p.k0 = x at *
  generalize cutD s.d1 j p.k1 = y at *
  generalize overP s ⟨i, j, x, y⟩ p = o at *
  refine PCall.of_awp tok mixed fn50 (Nat.le_of_ble_eq_true rfl) ?_
  (conv => whnf); (repeat' first | ((with_reducible refine Box.mk ?_); conv => whnf) | ((with_reducible refine And.intro (fun _ => ?_) (fun _ => ?_)) <;> conv => whnf) | ((with_reducible show AYld _ _ _ _ _); (refine AYld.of tok mixed ?_); conv => whnf) | ((with_reducible show forceH _ _); (refine (forceH_eq _ _).mpr ?_); conv => whnf) | ((with_reducible show ACall _ _ _ _ _); (refine ACall.of_pure (by assumption) (by rfl) ?_); conv => whnf) | ((with_reducible show Exists _); (refine ⟨_, ACall.of_pure (by assumption) (by rfl) ⟨rfl, rfl⟩, ?_⟩); conv => whnf) | ((with_reducible show ∃ L, drawR L _ = true ∧ _); (refine ⟨[], by kernel_rfl, ?_⟩); conv => whnf) | ((with_reducible show _ ∧ _ ∧ _); (refine ⟨by omega, by omega, ?_⟩); conv => whnf) | fail)
  refine aloop (fun c => c ≤ 2) (fun c : Nat => ⟨envL [(3, .ptr 0 0), (4, .ptr 1 0), (5, .ptr 2 0), (6, .ptr 3 0), (7, .ptr 4 0), (8, .int .i64 c)], upH s p i j x y c⟩)
    (fun c => 2 - c) 0 (by omega) (weak_to ⟨rfl, rfl, rfl, rfl, rfl, rfl, trivial⟩ rfl) ?_
  intro c hc
  have hc : c = 0 ∨ c = 1 ∨ c = 2 := by omega
  rcases hc with rfl | rfl | rfl
  · (conv => whnf); (repeat' first | ((with_reducible refine Box.mk ?_); conv => whnf) | ((with_reducible refine And.intro (fun _ => ?_) (fun _ => ?_)) <;> conv => whnf) | ((with_reducible show AYld _ _ _ _ _); (refine AYld.of tok mixed ?_); conv => whnf) | ((with_reducible show forceH _ _); (refine (forceH_eq _ _).mpr ?_); conv => whnf) | ((with_reducible show ACall _ _ _ _ _); (refine ACall.of_pure (by assumption) (by rfl) ?_); conv => whnf) | ((with_reducible show Exists _); (refine ⟨_, ACall.of_pure (by assumption) (by rfl) ⟨rfl, rfl⟩, ?_⟩); conv => whnf) | ((with_reducible show ∃ L, drawR L _ = true ∧ _); (refine ⟨[], by kernel_rfl, ?_⟩); conv => whnf) | ((with_reducible show _ ∧ _ ∧ _); (refine ⟨by omega, by omega, ?_⟩); conv => whnf) | fail)
    all_goals try contradiction
    all_goals first
      | exact ⟨1, by omega, by decide, weak_to ⟨rfl, rfl, rfl, rfl, rfl, rfl, trivial⟩ rfl⟩
      | (exfalso; omega)
  · (conv => whnf); (repeat' first | ((with_reducible refine Box.mk ?_); conv => whnf) | ((with_reducible refine And.intro (fun _ => ?_) (fun _ => ?_)) <;> conv => whnf) | ((with_reducible show AYld _ _ _ _ _); (refine AYld.of tok mixed ?_); conv => whnf) | ((with_reducible show forceH _ _); (refine (forceH_eq _ _).mpr ?_); conv => whnf) | ((with_reducible show ACall _ _ _ _ _); (refine ACall.of_pure (by assumption) (by rfl) ?_); conv => whnf) | ((with_reducible show Exists _); (refine ⟨_, ACall.of_pure (by assumption) (by rfl) ⟨rfl, rfl⟩, ?_⟩); conv => whnf) | ((with_reducible show ∃ L, drawR L _ = true ∧ _); (refine ⟨[], by kernel_rfl, ?_⟩); conv => whnf) | ((with_reducible show _ ∧ _ ∧ _); (refine ⟨by omega, by omega, ?_⟩); conv => whnf) | fail)
    all_goals try contradiction
    all_goals first
      | exact ⟨2, by omega, by decide, weak_to ⟨rfl, rfl, rfl, rfl, rfl, rfl, trivial⟩ rfl⟩
      | (exfalso; omega)
  · cases o
    · rw [cond_false, pxv_zero]
      (conv => whnf); (repeat' first | ((with_reducible refine Box.mk ?_); conv => whnf) | ((with_reducible refine And.intro (fun _ => ?_) (fun _ => ?_)) <;> conv => whnf) | ((with_reducible show AYld _ _ _ _ _); (refine AYld.of tok mixed ?_); conv => whnf) | ((with_reducible show forceH _ _); (refine (forceH_eq _ _).mpr ?_); conv => whnf) | ((with_reducible show ACall _ _ _ _ _); (refine ACall.of_pure (by assumption) (by rfl) ?_); conv => whnf) | ((with_reducible show Exists _); (refine ⟨_, ACall.of_pure (by assumption) (by rfl) ⟨rfl, rfl⟩, ?_⟩); conv => whnf) | ((with_reducible show ∃ L, drawR L _ = true ∧ _); (refine ⟨[], by kernel_rfl, ?_⟩); conv => whnf) | ((with_reducible show _ ∧ _ ∧ _); (refine ⟨by omega, by omega, ?_⟩); conv => whnf) | fail)
      all_goals try contradiction
      all_goals first
        | rfl
        | (exfalso; omega)
    · rw [cond_true]
      (conv => whnf); (repeat' first | ((with_reducible refine Box.mk ?_); conv => whnf) | ((with_reducible refine And.intro (fun _ => ?_) (fun _ => ?_)) <;> conv => whnf) | ((with_reducible show AYld _ _ _ _ _); (refine AYld.of tok mixed ?_); conv => whnf) | ((with_reducible show forceH _ _); (refine (forceH_eq _ _).mpr ?_); conv => whnf) | ((with_reducible show ACall _ _ _ _ _); (refine ACall.of_pure (by assumption) (by rfl) ?_); conv => whnf) | ((with_reducible show Exists _); (refine ⟨_, ACall.of_pure (by assumption) (by rfl) ⟨rfl, rfl⟩, ?_⟩); conv => whnf) | ((with_reducible show ∃ L, drawR L _ = true ∧ _); (refine ⟨[], by kernel_rfl, ?_⟩); conv => whnf) | ((with_reducible show _ ∧ _ ∧ _); (refine ⟨by omega, by omega, ?_⟩); conv => whnf) | fail)
      all_goals try contradiction
      all_goals first
        | rfl
        | (exfalso; omega)
end Go.Proofs.YtgdonjndgjiocaaDoor
end

section
/- grid: All; the document's answer for it; equal lists of prefixes. -/
namespace Go.Proofs.YtgdonjndgjiocaaDoor
open Go.Ve

theorem keysOver0_ok (s : Sp) (p : Px) (hp : POk p) : PCall P 49 [spv s, pxv p, .int .i64 0] (.sl (kcl (kov s.d0 p.k0))) := by
  have p0 := hp.p0
  have q1 := dDepth_ok s.d0
  have q2 := fun l => dCut_ok s.d0 l p.k0 hp.n0 (by omega)
  have hd := @depthD_le s.d0
  rw [kov_fill]
  generalize hn : (depthD s.d0).toNat = n at *
  have e1 : IntKind.i64.wrap (depthD s.d0 + 1) = ((n + 1 : Nat) : Int) := by rw [wrap_i64 (by omega) (by omega)]; omega
  have hfl := fun i f => fillR_len (n + 1) i f kzs
  obtain ⟨f, hf⟩ : ∃ f : Nat → List AV, f = fun i => kcs (cutD s.d0 (i : Nat) p.k0) := ⟨_, rfl⟩
  rw [← hf, ← fillR_all (n + 1) f kzs]
  refine PCall.of_awp tok mixed fn49 (Nat.le_of_ble_eq_true rfl) ?_
  (conv => whnf); (repeat' first | ((with_reducible refine Box.mk ?_); conv => whnf) | ((with_reducible refine And.intro (fun _ => ?_) (fun _ => ?_)) <;> conv => whnf) | ((with_reducible show AYld _ _ _ _ _); (refine AYld.of tok mixed ?_); conv => whnf) | ((with_reducible show forceH _ _); (refine (forceH_eq _ _).mpr ?_); conv => whnf) | ((with_reducible show ACall _ _ _ _ _); (refine ACall.of_pure (by assumption) (by rfl) ?_); conv => whnf) | ((with_reducible show Exists _); (refine ⟨_, ACall.of_pure (by assumption) (by rfl) ⟨rfl, rfl⟩, ?_⟩); conv => whnf) | ((with_reducible show ∃ L, drawR L _ = true ∧ _); (refine ⟨[], by kernel_rfl, ?_⟩); conv => whnf) | ((with_reducible show _ ∧ _ ∧ _); (refine ⟨by omega, by omega, ?_⟩); conv => whnf) | fail)
  rw [e1]
  refine ⟨by show ((n + 1 : Nat) : Int) * 48 ≤ _; omega, by omega, ?_⟩
  (conv => whnf); (repeat' first | ((with_reducible refine Box.mk ?_); conv => whnf) | ((with_reducible refine And.intro (fun _ => ?_) (fun _ => ?_)) <;> conv => whnf) | ((with_reducible show AYld _ _ _ _ _); (refine AYld.of tok mixed ?_); conv => whnf) | ((with_reducible show forceH _ _); (refine (forceH_eq _ _).mpr ?_); conv => whnf) | ((with_reducible show ACall _ _ _ _ _); (refine ACall.of_pure (by assumption) (by rfl) ?_); conv => whnf) | ((with_reducible show Exists _); (refine ⟨_, ACall.of_pure (by assumption) (by rfl) ⟨rfl, rfl⟩, ?_⟩); conv => whnf) | ((with_reducible show ∃ L, drawR L _ = true ∧ _); (refine ⟨[], by kernel_rfl, ?_⟩); conv => whnf) | ((with_reducible show _ ∧ _ ∧ _); (refine ⟨by omega, by omega, ?_⟩); conv => whnf) | fail)
  refine aloopH (fun i : Nat => i ≤ n + 1) (fun i : Nat => [(2, .int .i64 0), (3, .ptr 0 0), (4, .ptr 1 0), (7, .ptr 2 0), (8, .own 3), (19, .int .i64 ((n + 1 : Nat) : Int)), (20, .int .i64 i)]) (fun i H => H.set 3 (.row 30 5 (fillR (n + 1) i f kzs))) (fun i => n + 1 - i) 0 (Nat.zero_le _)
    (weak_to ⟨rfl, rfl, rfl, rfl, rfl, congrArg (AV.int .i64) (by rw [List.length_replicate]; rfl), rfl, trivial⟩ (by rw [fillR_zero]; rfl)) ?_
  intro i hi
  have q3 := q2 (i : Int)
  (conv => whnf); (repeat' first | ((with_reducible refine Box.mk ?_); conv => whnf) | ((with_reducible refine And.intro (fun _ => ?_) (fun _ => ?_)) <;> conv => whnf) | ((with_reducible show AYld _ _ _ _ _); (refine AYld.of tok mixed ?_); conv => whnf) | ((with_reducible show forceH _ _); (refine (forceH_eq _ _).mpr ?_); conv => whnf) | ((with_reducible show ACall _ _ _ _ _); (refine ACall.of_pure (by assumption) (by rfl) ?_); conv => whnf) | ((with_reducible show Exists _); (refine ⟨_, ACall.of_pure (by assumption) (by rfl) ⟨rfl, rfl⟩, ?_⟩); conv => whnf) | ((with_reducible show ∃ L, drawR L _ = true ∧ _); (refine ⟨[], by kernel_rfl, ?_⟩); conv => whnf) | ((with_reducible show _ ∧ _ ∧ _); (refine ⟨by omega, by omega, ?_⟩); conv => whnf) | fail)
  · rename_i h
    have hlt : i < n + 1 := by omega
    refine ⟨by omega, by rw [hfl]; show (i : Int).toNat < n + 1; omega, ?_⟩
    (conv => whnf); (repeat' first | ((with_reducible refine Box.mk ?_); conv => whnf) | ((with_reducible refine And.intro (fun _ => ?_) (fun _ => ?_)) <;> conv => whnf) | ((with_reducible show AYld _ _ _ _ _); (refine AYld.of tok mixed ?_); conv => whnf) | ((with_reducible show forceH _ _); (refine (forceH_eq _ _).mpr ?_); conv => whnf) | ((with_reducible show ACall _ _ _ _ _); (refine ACall.of_pure (by assumption) (by rfl) ?_); conv => whnf) | ((with_reducible show Exists _); (refine ⟨_, ACall.of_pure (by assumption) (by rfl) ⟨rfl, rfl⟩, ?_⟩); conv => whnf) | ((with_reducible show ∃ L, drawR L _ = true ∧ _); (refine ⟨[], by kernel_rfl, ?_⟩); conv => whnf) | ((with_reducible show _ ∧ _ ∧ _); (refine ⟨by omega, by omega, ?_⟩); conv => whnf) | fail)
    refine ⟨_, fillR_get (by show (i : Int).toNat < n + 1; omega), ?_⟩
    (conv => whnf); (repeat' first | ((with_reducible refine Box.mk ?_); conv => whnf) | ((with_reducible refine And.intro (fun _ => ?_) (fun _ => ?_)) <;> conv => whnf) | ((with_reducible show AYld _ _ _ _ _); (refine AYld.of tok mixed ?_); conv => whnf) | ((with_reducible show forceH _ _); (refine (forceH_eq _ _).mpr ?_); conv => whnf) | ((with_reducible show ACall _ _ _ _ _); (refine ACall.of_pure (by assumption) (by rfl) ?_); conv => whnf) | ((with_reducible show Exists _); (refine ⟨_, ACall.of_pure (by assumption) (by rfl) ⟨rfl, rfl⟩, ?_⟩); conv => whnf) | ((with_reducible show ∃ L, drawR L _ = true ∧ _); (refine ⟨[], by kernel_rfl, ?_⟩); conv => whnf) | ((with_reducible show _ ∧ _ ∧ _); (refine ⟨by omega, by omega, ?_⟩); conv => whnf) | fail)
    refine ⟨i + 1, hlt, by omega, weak_to ⟨rfl, rfl, rfl, rfl, rfl, rfl, wrap_nat (m := 1) (by omega), trivial⟩ ?_⟩
    show [_, _, _, Ob.row _ _ ((fillR (n + 1) i f kzs).set i (kcs (cutD s.d0 (i : Nat) p.k0)))] = [_, _, _, Ob.row _ _ (fillR (n + 1) (i + 1) f kzs)]
    rw [← fillR_set, hf]
  · rename_i h
    have : i = n + 1 := by omega
    subst this
    rfl
theorem keysOver1_ok (s : Sp) (p : Px) (hp : POk p) : PCall P 49 [spv s, pxv p, .int .i64 1] (.sl (kcl (kov s.d1 p.k1))) := by
  have p0 := hp.p1
  have q1 := dDepth_ok s.d1
  have q2 := fun l => dCut_ok s.d1 l p.k1 hp.n1 (by omega)
  have hd := @depthD_le s.d1
  rw [kov_fill]
  generalize hn : (depthD s.d1).toNat = n at *
  have e1 : IntKind.i64.wrap (depthD s.d1 + 1) = ((n + 1 : Nat) : Int) := by rw [wrap_i64 (by omega) (by omega)]; omega
  have hfl := fun i f => fillR_len (n + 1) i f kzs
  obtain ⟨f, hf⟩ : ∃ f : Nat → List AV, f = fun i => kcs (cutD s.d1 (i : Nat) p.k1) := ⟨_, rfl⟩
  rw [← hf, ← fillR_all (n + 1) f kzs]
  refine PCall.of_awp tok mixed fn49 (Nat.le_of_ble_eq_true rfl) ?_
  (conv => whnf); (repeat' first | ((with_reducible refine Box.mk ?_); conv => whnf) | ((with_reducible refine And.intro (fun _ => ?_) (fun _ => ?_)) <;> conv => whnf) | ((with_reducible show AYld _ _ _ _ _); (refine AYld.of tok mixed ?_); conv => whnf) | ((with_reducible show forceH _ _); (refine (forceH_eq _ _).mpr ?_); conv => whnf) | ((with_reducible show ACall _ _ _ _ _); (refine ACall.of_pure (by assumption) (by rfl) ?_); conv => whnf) | ((with_reducible show Exists _); (refine ⟨_, ACall.of_pure (by assumption) (by rfl) ⟨rfl, rfl⟩, ?_⟩); conv => whnf) | ((with_reducible show ∃ L, drawR L _ = true ∧ _); (refine ⟨[], by kernel_rfl, ?_⟩); conv => whnf) | ((with_reducible show _ ∧ _ ∧ _); (refine ⟨by omega, by omega, ?_⟩); conv => whnf) | fail)
  rw [e1]
  refine ⟨by show ((n + 1 : Nat) : Int) * 48 ≤ _; omega, by omega, ?_⟩
  (conv => whnf); (repeat' first | ((with_reducible refine Box.mk ?_); conv => whnf) | ((with_reducible refine And.intro (fun _ => ?_) (fun _ => ?_)) <;> conv => whnf) | ((with_reducible show AYld _ _ _ _ _); (refine AYld.of tok mixed ?_); conv => whnf) | ((with_reducible show forceH _ _); (refine (forceH_eq _ _).mpr ?_); conv => whnf) | ((with_reducible show ACall _ _ _ _ _); (refine ACall.of_pure (by assumption) (by rfl) ?_); conv => whnf) | ((with_reducible show Exists _); (refine ⟨_, ACall.of_pure (by assumption) (by rfl) ⟨rfl, rfl⟩, ?_⟩); conv => whnf) | ((with_reducible show ∃ L, drawR L _ = true ∧ _); (refine ⟨[], by kernel_rfl, ?_⟩); conv => whnf) | ((with_reducible show _ ∧ _ ∧ _); (refine ⟨by omega, by omega, ?_⟩); conv => whnf) | fail)
  refine aloopH (fun i : Nat => i ≤ n + 1) (fun i : Nat => [(2, .int .i64 1), (3, .ptr 0 0), (4, .ptr 1 0), (7, .ptr 2 0), (8, .own 3), (19, .int .i64 ((n + 1 : Nat) : Int)), (20, .int .i64 i)]) (fun i H => H.set 3 (.row 30 5 (fillR (n + 1) i f kzs))) (fun i => n + 1 - i) 0 (Nat.zero_le _)
    (weak_to ⟨rfl, rfl, rfl, rfl, rfl, congrArg (AV.int .i64) (by rw [List.length_replicate]; rfl), rfl, trivial⟩ (by rw [fillR_zero]; rfl)) ?_
  intro i hi
  have q3 := q2 (i : Int)
  (conv => whnf); (repeat' first | ((with_reducible refine Box.mk ?_); conv => whnf) | ((with_reducible refine And.intro (fun _ => ?_) (fun _ => ?_)) <;> conv => whnf) | ((with_reducible show AYld _ _ _ _ _); (refine AYld.of tok mixed ?_); conv => whnf) | ((with_reducible show forceH _ _); (refine (forceH_eq _ _).mpr ?_); conv => whnf) | ((with_reducible show ACall _ _ _ _ _); (refine ACall.of_pure (by assumption) (by rfl) ?_); conv => whnf) | ((with_reducible show Exists _); (refine ⟨_, ACall.of_pure (by assumption) (by rfl) ⟨rfl, rfl⟩, ?_⟩); conv => whnf) | ((with_reducible show ∃ L, drawR L _ = true ∧ _); (refine ⟨[], by kernel_rfl, ?_⟩); conv => whnf) | ((with_reducible show _ ∧ _ ∧ _); (refine ⟨by omega, by omega, ?_⟩); conv => whnf) | fail)
  · rename_i h
    have hlt : i < n + 1 := by omega
    refine ⟨by omega, by rw [hfl]; show (i : Int).toNat < n + 1; omega, ?_⟩
    (conv => whnf); (repeat' first | ((with_reducible refine Box.mk ?_); conv => whnf) | ((with_reducible refine And.intro (fun _ => ?_) (fun _ => ?_)) <;> conv => whnf) | ((with_reducible show AYld _ _ _ _ _); (refine AYld.of tok mixed ?_); conv => whnf) | ((with_reducible show forceH _ _); (refine (forceH_eq _ _).mpr ?_); conv => whnf) | ((with_reducible show ACall _ _ _ _ _); (refine ACall.of_pure (by assumption) (by rfl) ?_); conv => whnf) | ((with_reducible show Exists _); (refine ⟨_, ACall.of_pure (by assumption) (by rfl) ⟨rfl, rfl⟩, ?_⟩); conv => whnf) | ((with_reducible show ∃ L, drawR L _ = true ∧ _); (refine ⟨[], by kernel_rfl, ?_⟩); conv => whnf) | ((with_reducible show _ ∧ _ ∧ _); (refine ⟨by omega, by omega, ?_⟩); conv => whnf) | fail)
    refine ⟨_, fillR_get (by show (i : Int).toNat < n + 1; omega), ?_⟩
    (conv => whnf); (repeat' first | ((with_reducible refine Box.mk ?_); conv => whnf) | ((with_reducible refine And.intro (fun _ => ?_) (fun _ => ?_)) <;> conv => whnf) | ((with_reducible show AYld _ _ _ _ _); (refine AYld.of tok mixed ?_); conv => whnf) | ((with_reducible show forceH _ _); (refine (forceH_eq _ _).mpr ?_); conv => whnf) | ((with_reducible show ACall _ _ _ _ _); (refine ACall.of_pure (by assumption) (by rfl) ?_); conv => whnf) | ((with_reducible show Exists _); (refine ⟨_, ACall.of_pure (by assumption) (by rfl) ⟨rfl, rfl⟩, ?_⟩); conv => whnf) | ((with_reducible show ∃ L, drawR L _ = true ∧ _); (refine ⟨[], by kernel_rfl, ?_⟩); conv => whnf) | ((with_reducible show _ ∧ _ ∧ _); (refine ⟨by omega, by omega, ?_⟩); conv => whnf) | fail)
    refine ⟨i + 1, hlt, by omega, weak_to ⟨rfl, rfl, rfl, rfl, rfl, rfl, wrap_nat (m := 1) (by omega), trivial⟩ ?_⟩
    show [_, _, _, Ob.row _ _ ((fillR (n + 1) i f kzs).set i (kcs (cutD s.d1 (i : Nat) p.k1)))] = [_, _, _, Ob.row _ _ (fillR (n + 1) (i + 1) f kzs)]
    rw [← fillR_set, hf]
  · rename_i h
    have : i = n + 1 := by omega
    subst this
    rfl
def allH : List Px → Hp → Hp
  | [], H => H
  | x :: r, H => H.set 3 (.box 53 [.own 5]) ++ [.row 33 12 (pcl (x :: r))]
theorem allH_snoc (l : List Px) (x : Px) (H : Hp) : allH (l ++ [x]) H = H.set 3 (.box 53 [.own 5]) ++ [.row 33 12 (pcl l ++ [pcs x])] := by
  rw [pcl_snoc]
  cases l with
  | nil => rfl
  | cons y r => rfl
theorem gAll_ok (s : Sp) (p : Px) (hp : POk p) : PCall P 28 [spv s, pxv p] (pvl (allP s p)) := by
  have q1 := pRight_ok s p hp
  have q2 := keysOver0_ok s p hp
  have q3 := keysOver1_ok s p hp
  have q4 := gWalk_ok s
  cases hr : rightP s p
  · rw [hr] at q1
    have e : allP s p = [] := by unfold allP; rw [hr, cond_false]
    rw [e]
    refine PCall.of_awp tok mixed fn28 (Nat.le_of_ble_eq_true rfl) ?_
    (conv => whnf); (repeat' first | ((with_reducible refine Box.mk ?_); conv => whnf) | ((with_reducible refine And.intro (fun _ => ?_) (fun _ => ?_)) <;> conv => whnf) | ((with_reducible show AYld _ _ _ _ _); (refine AYld.of tok mixed ?_); conv => whnf) | ((with_reducible show forceH _ _); (refine (forceH_eq _ _).mpr ?_); conv => whnf) | ((with_reducible show ACall _ _ _ _ _); (refine ACall.of_pure (by assumption) (by rfl) ?_); conv => whnf) | ((with_reducible show Exists _); (refine ⟨_, ACall.of_pure (by assumption) (by rfl) ⟨rfl, rfl⟩, ?_⟩); conv => whnf) | ((with_reducible show ∃ L, drawR L _ = true ∧ _); (refine ⟨[], by kernel_rfl, ?_⟩); conv => whnf) | ((with_reducible show _ ∧ _ ∧ _); (refine ⟨by omega, by omega, ?_⟩); conv => whnf) | fail)
    all_goals first
      | contradiction
      | rfl
  · rw [hr] at q1
    have hs := right_sound hr
    have e : allP s p = accA s p (nodesN (gA s) (gB s)) := by unfold allP; rw [hr, cond_true, nds_yes hs]
    rw [e]
    obtain ⟨g1, g2⟩ := g_le s
    have hN := nodesN_len g1 g2
    have ea : (gA s : Int) ≤ depthD s.d0 := by
      have h0 := @depthD_le s.d0
      unfold gA; rw [hs, cond_true]; omega
    have eb : (gB s : Int) ≤ depthD s.d1 := by
      have h0 := @depthD_le s.d1
      unfold gB; rw [hs, cond_true]; omega
    refine PCall.of_awp tok mixed fn28 (Nat.le_of_ble_eq_true rfl) ?_
    (conv => whnf); (repeat' first | ((with_reducible refine Box.mk ?_); conv => whnf) | ((with_reducible refine And.intro (fun _ => ?_) (fun _ => ?_)) <;> conv => whnf) | ((with_reducible show AYld _ _ _ _ _); (refine AYld.of tok mixed ?_); conv => whnf) | ((with_reducible show forceH _ _); (refine (forceH_eq _ _).mpr ?_); conv => whnf) | ((with_reducible show ACall _ _ _ _ _); (refine ACall.of_pure (by assumption) (by rfl) ?_); conv => whnf) | ((with_reducible show Exists _); (refine ⟨_, ACall.of_pure (by assumption) (by rfl) ⟨rfl, rfl⟩, ?_⟩); conv => whnf) | ((with_reducible show _ ∧ _ ∧ _); (refine ⟨by omega, by omega, ?_⟩); conv => whnf) | fail)
    all_goals try contradiction
    refine ⟨[(7, [0, 1, 2, 3, 4, 5])], by kernel_rfl, ?_⟩
    (conv => whnf); (repeat' first | ((with_reducible refine Box.mk ?_); conv => whnf) | ((with_reducible refine And.intro (fun _ => ?_) (fun _ => ?_)) <;> conv => whnf) | ((with_reducible show AYld _ _ _ _ _); (refine AYld.of tok mixed ?_); conv => whnf) | ((with_reducible show forceH _ _); (refine (forceH_eq _ _).mpr ?_); conv => whnf) | ((with_reducible show ACall _ _ _ _ _); (refine ACall.of_pure (by assumption) (by rfl) ?_); conv => whnf) | ((with_reducible show Exists _); (refine ⟨_, ACall.of_pure (by assumption) (by rfl) ⟨rfl, rfl⟩, ?_⟩); conv => whnf) | ((with_reducible show _ ∧ _ ∧ _); (refine ⟨by omega, by omega, ?_⟩); conv => whnf) | fail)
    (refine And.intro ?_ ?_); (focus ((conv => whnf); (repeat' first | exact trivial | ((refine And.intro ?_ ?_); (focus ((conv => whnf); (first | exact ⟨rfl, rfl⟩ | exact ⟨by decide, by decide, rfl, rfl⟩ | ((refine ACall.of_pure (by assumption) (by rfl) ?_); (refine And.intro ?_ ?_ <;> rfl))))); (conv => whnf)))))
    (conv => whnf); (repeat' first | ((with_reducible refine Box.mk ?_); conv => whnf) | ((with_reducible refine And.intro (fun _ => ?_) (fun _ => ?_)) <;> conv => whnf) | ((with_reducible show AYld _ _ _ _ _); (refine AYld.of tok mixed ?_); conv => whnf) | ((with_reducible show forceH _ _); (refine (forceH_eq _ _).mpr ?_); conv => whnf) | ((with_reducible show ACall _ _ _ _ _); (refine ACall.of_pure (by assumption) (by rfl) ?_); conv => whnf) | ((with_reducible show Exists _); (refine ⟨_, ACall.of_pure (by assumption) (by rfl) ⟨rfl, rfl⟩, ?_⟩); conv => whnf) | ((with_reducible show _ ∧ _ ∧ _); (refine ⟨by omega, by omega, ?_⟩); conv => whnf) | fail)
    refine arange [(2, .ptr 0 0), (3, .ptr 1 0), (5, .ptr 2 0), (6, .ptr 3 0)] ⟨rfl, rfl, rfl, rfl, trivial⟩ rfl trivial ?_
    refine walk_iterH s hs _ _ (fun pre => allH (accA s p pre)) _ rfl (fun pre q hq => ?_) ?_
    · have hle := hq.length_le
      rw [List.length_append, List.length_singleton] at hle
      have hqm : q ∈ nodesN (gA s) (gB s) := hq.subset (by simp)
      obtain ⟨j, hj⟩ := List.getElem?_of_mem hqm
      obtain ⟨b1, b2, _⟩ := node_get hj
      have k0 := kov_get (d := s.d0) (k := p.k0) (i := q.1) (by omega)
      have k1 := kov_get (d := s.d1) (k := p.k1) (i := q.2) (by omega)
      have hal := accA_len s p pre
      have hpl := pcl_len (accA s p pre)
      by_cases hov : overN p q = true
      · have hd := of_decide_eq_true hov
        show AYld _ _ _ _ (fun r H' => (r = .bool true ∧ ∃ L, okL H'.length L = true ∧ _ ∧ _ ∧ heapOf (gOf L 0) H' L = allH (accA s p (pre ++ [q])) _) ∨ _)
        rw [accA_snoc_yes hov, allH_snoc]
        generalize accA s p pre = acc at *
        cases acc with
        | nil =>
          (conv => whnf); (repeat' first | ((with_reducible refine Box.mk ?_); conv => whnf) | ((with_reducible refine And.intro (fun _ => ?_) (fun _ => ?_)) <;> conv => whnf) | ((with_reducible show AYld _ _ _ _ _); (refine AYld.of tok mixed ?_); conv => whnf) | ((with_reducible show forceH _ _); (refine (forceH_eq _ _).mpr ?_); conv => whnf) | ((with_reducible show ACall _ _ _ _ _); (refine ACall.of_pure (by assumption) (by rfl) ?_); conv => whnf) | ((with_reducible show Exists _); (refine ⟨_, ACall.of_pure (by assumption) (by rfl) ⟨rfl, rfl⟩, ?_⟩); conv => whnf) | ((with_reducible show _ ∧ _ ∧ _); (refine ⟨by omega, by omega, ?_⟩); conv => whnf) | fail)
          all_goals try (exfalso; omega)
          refine ⟨[(16, [0])], by kernel_rfl, ?_⟩
          (conv => whnf); (repeat' first | ((with_reducible refine Box.mk ?_); conv => whnf) | ((with_reducible refine And.intro (fun _ => ?_) (fun _ => ?_)) <;> conv => whnf) | ((with_reducible show AYld _ _ _ _ _); (refine AYld.of tok mixed ?_); conv => whnf) | ((with_reducible show forceH _ _); (refine (forceH_eq _ _).mpr ?_); conv => whnf) | ((with_reducible show ACall _ _ _ _ _); (refine ACall.of_pure (by assumption) (by rfl) ?_); conv => whnf) | ((with_reducible show Exists _); (refine ⟨_, ACall.of_pure (by assumption) (by rfl) ⟨rfl, rfl⟩, ?_⟩); conv => whnf) | ((with_reducible show _ ∧ _ ∧ _); (refine ⟨by omega, by omega, ?_⟩); conv => whnf) | fail)
          refine ⟨by omega, _, k0, rfl, ?_⟩
          (conv => whnf); (repeat' first | ((with_reducible refine Box.mk ?_); conv => whnf) | ((with_reducible refine And.intro (fun _ => ?_) (fun _ => ?_)) <;> conv => whnf) | ((with_reducible show AYld _ _ _ _ _); (refine AYld.of tok mixed ?_); conv => whnf) | ((with_reducible show forceH _ _); (refine (forceH_eq _ _).mpr ?_); conv => whnf) | ((with_reducible show ACall _ _ _ _ _); (refine ACall.of_pure (by assumption) (by rfl) ?_); conv => whnf) | ((with_reducible show Exists _); (refine ⟨_, ACall.of_pure (by assumption) (by rfl) ⟨rfl, rfl⟩, ?_⟩); conv => whnf) | ((with_reducible show _ ∧ _ ∧ _); (refine ⟨by omega, by omega, ?_⟩); conv => whnf) | fail)
          refine ⟨by omega, _, k1, rfl, ?_⟩
          (conv => whnf); (repeat' first | ((with_reducible refine Box.mk ?_); conv => whnf) | ((with_reducible refine And.intro (fun _ => ?_) (fun _ => ?_)) <;> conv => whnf) | ((with_reducible show AYld _ _ _ _ _); (refine AYld.of tok mixed ?_); conv => whnf) | ((with_reducible show forceH _ _); (refine (forceH_eq _ _).mpr ?_); conv => whnf) | ((with_reducible show ACall _ _ _ _ _); (refine ACall.of_pure (by assumption) (by rfl) ?_); conv => whnf) | ((with_reducible show Exists _); (refine ⟨_, ACall.of_pure (by assumption) (by rfl) ⟨rfl, rfl⟩, ?_⟩); conv => whnf) | ((with_reducible show _ ∧ _ ∧ _); (refine ⟨by omega, by omega, ?_⟩); conv => whnf) | fail)
          (refine And.intro ?_ ?_); (focus ((conv => whnf); (repeat' first | exact trivial | ((refine And.intro ?_ ?_); (focus ((conv => whnf); (first | exact ⟨rfl, rfl⟩ | exact ⟨by decide, by decide, rfl, rfl⟩ | ((refine ACall.of_pure (by assumption) (by rfl) ?_); (refine And.intro ?_ ?_ <;> rfl))))); (conv => whnf)))))
          (conv => whnf); (repeat' first | ((with_reducible refine Box.mk ?_); conv => whnf) | ((with_reducible refine And.intro (fun _ => ?_) (fun _ => ?_)) <;> conv => whnf) | ((with_reducible show AYld _ _ _ _ _); (refine AYld.of tok mixed ?_); conv => whnf) | ((with_reducible show forceH _ _); (refine (forceH_eq _ _).mpr ?_); conv => whnf) | ((with_reducible show ACall _ _ _ _ _); (refine ACall.of_pure (by assumption) (by rfl) ?_); conv => whnf) | ((with_reducible show Exists _); (refine ⟨_, ACall.of_pure (by assumption) (by rfl) ⟨rfl, rfl⟩, ?_⟩); conv => whnf) | ((with_reducible show _ ∧ _ ∧ _); (refine ⟨by omega, by omega, ?_⟩); conv => whnf) | fail)
          refine ⟨fun c hc => by rw [List.mem_singleton.1 hc]; exact ⟨rfl, rfl⟩, fun h => (by cases h), fun _ => ⟨Nat.le_of_ble_eq_true rfl, Nat.le_of_ble_eq_true rfl, ?_⟩⟩
          (conv => whnf); (repeat' first | ((with_reducible refine Box.mk ?_); conv => whnf) | ((with_reducible refine And.intro (fun _ => ?_) (fun _ => ?_)) <;> conv => whnf) | ((with_reducible show AYld _ _ _ _ _); (refine AYld.of tok mixed ?_); conv => whnf) | ((with_reducible show forceH _ _); (refine (forceH_eq _ _).mpr ?_); conv => whnf) | ((with_reducible show ACall _ _ _ _ _); (refine ACall.of_pure (by assumption) (by rfl) ?_); conv => whnf) | ((with_reducible show Exists _); (refine ⟨_, ACall.of_pure (by assumption) (by rfl) ⟨rfl, rfl⟩, ?_⟩); conv => whnf) | ((with_reducible show _ ∧ _ ∧ _); (refine ⟨by omega, by omega, ?_⟩); conv => whnf) | fail)
          exact .inl ⟨rfl, [(0, true), (1, true), (2, true), (3, true), (4, true), (7, true)], rfl, rfl, rfl, rfl⟩
        | cons x r =>
          (conv => whnf); (repeat' first | ((with_reducible refine Box.mk ?_); conv => whnf) | ((with_reducible refine And.intro (fun _ => ?_) (fun _ => ?_)) <;> conv => whnf) | ((with_reducible show AYld _ _ _ _ _); (refine AYld.of tok mixed ?_); conv => whnf) | ((with_reducible show forceH _ _); (refine (forceH_eq _ _).mpr ?_); conv => whnf) | ((with_reducible show ACall _ _ _ _ _); (refine ACall.of_pure (by assumption) (by rfl) ?_); conv => whnf) | ((with_reducible show Exists _); (refine ⟨_, ACall.of_pure (by assumption) (by rfl) ⟨rfl, rfl⟩, ?_⟩); conv => whnf) | ((with_reducible show _ ∧ _ ∧ _); (refine ⟨by omega, by omega, ?_⟩); conv => whnf) | fail)
          all_goals try (exfalso; omega)
          refine ⟨[(16, [0])], by kernel_rfl, ?_⟩
          (conv => whnf); (repeat' first | ((with_reducible refine Box.mk ?_); conv => whnf) | ((with_reducible refine And.intro (fun _ => ?_) (fun _ => ?_)) <;> conv => whnf) | ((with_reducible show AYld _ _ _ _ _); (refine AYld.of tok mixed ?_); conv => whnf) | ((with_reducible show forceH _ _); (refine (forceH_eq _ _).mpr ?_); conv => whnf) | ((with_reducible show ACall _ _ _ _ _); (refine ACall.of_pure (by assumption) (by rfl) ?_); conv => whnf) | ((with_reducible show Exists _); (refine ⟨_, ACall.of_pure (by assumption) (by rfl) ⟨rfl, rfl⟩, ?_⟩); conv => whnf) | ((with_reducible show _ ∧ _ ∧ _); (refine ⟨by omega, by omega, ?_⟩); conv => whnf) | fail)
          refine ⟨by omega, _, k0, rfl, ?_⟩
          (conv => whnf); (repeat' first | ((with_reducible refine Box.mk ?_); conv => whnf) | ((with_reducible refine And.intro (fun _ => ?_) (fun _ => ?_)) <;> conv => whnf) | ((with_reducible show AYld _ _ _ _ _); (refine AYld.of tok mixed ?_); conv => whnf) | ((with_reducible show forceH _ _); (refine (forceH_eq _ _).mpr ?_); conv => whnf) | ((with_reducible show ACall _ _ _ _ _); (refine ACall.of_pure (by assumption) (by rfl) ?_); conv => whnf) | ((with_reducible show Exists _); (refine ⟨_, ACall.of_pure (by assumption) (by rfl) ⟨rfl, rfl⟩, ?_⟩); conv => whnf) | ((with_reducible show _ ∧ _ ∧ _); (refine ⟨by omega, by omega, ?_⟩); conv => whnf) | fail)
          refine ⟨by omega, _, k1, rfl, ?_⟩
          (conv => whnf); (repeat' first | ((with_reducible refine Box.mk ?_); conv => whnf) | ((with_reducible refine And.intro (fun _ => ?_) (fun _ => ?_)) <;> conv => whnf) | ((with_reducible show AYld _ _ _ _ _); (refine AYld.of tok mixed ?_); conv => whnf) | ((with_reducible show forceH _ _); (refine (forceH_eq _ _).mpr ?_); conv => whnf) | ((with_reducible show ACall _ _ _ _ _); (refine ACall.of_pure (by assumption) (by rfl) ?_); conv => whnf) | ((with_reducible show Exists _); (refine ⟨_, ACall.of_pure (by assumption) (by rfl) ⟨rfl, rfl⟩, ?_⟩); conv => whnf) | ((with_reducible show _ ∧ _ ∧ _); (refine ⟨by omega, by omega, ?_⟩); conv => whnf) | fail)
          (refine And.intro ?_ ?_); (focus ((conv => whnf); (repeat' first | exact trivial | ((refine And.intro ?_ ?_); (focus ((conv => whnf); (first | exact ⟨rfl, rfl⟩ | exact ⟨by decide, by decide, rfl, rfl⟩ | ((refine ACall.of_pure (by assumption) (by rfl) ?_); (refine And.intro ?_ ?_ <;> rfl))))); (conv => whnf)))))
          (conv => whnf); (repeat' first | ((with_reducible refine Box.mk ?_); conv => whnf) | ((with_reducible refine And.intro (fun _ => ?_) (fun _ => ?_)) <;> conv => whnf) | ((with_reducible show AYld _ _ _ _ _); (refine AYld.of tok mixed ?_); conv => whnf) | ((with_reducible show forceH _ _); (refine (forceH_eq _ _).mpr ?_); conv => whnf) | ((with_reducible show ACall _ _ _ _ _); (refine ACall.of_pure (by assumption) (by rfl) ?_); conv => whnf) | ((with_reducible show Exists _); (refine ⟨_, ACall.of_pure (by assumption) (by rfl) ⟨rfl, rfl⟩, ?_⟩); conv => whnf) | ((with_reducible show _ ∧ _ ∧ _); (refine ⟨by omega, by omega, ?_⟩); conv => whnf) | fail)
          refine ⟨fun c hc => by rw [List.mem_singleton.1 hc]; exact ⟨rfl, rfl⟩, by rw [hpl]; show (_ + 1) * 112 ≤ _; omega, by rw [hpl]; show _ + 1 ≤ _; omega, ?_⟩
          (conv => whnf); (repeat' first | ((with_reducible refine Box.mk ?_); conv => whnf) | ((with_reducible refine And.intro (fun _ => ?_) (fun _ => ?_)) <;> conv => whnf) | ((with_reducible show AYld _ _ _ _ _); (refine AYld.of tok mixed ?_); conv => whnf) | ((with_reducible show forceH _ _); (refine (forceH_eq _ _).mpr ?_); conv => whnf) | ((with_reducible show ACall _ _ _ _ _); (refine ACall.of_pure (by assumption) (by rfl) ?_); conv => whnf) | ((with_reducible show Exists _); (refine ⟨_, ACall.of_pure (by assumption) (by rfl) ⟨rfl, rfl⟩, ?_⟩); conv => whnf) | ((with_reducible show _ ∧ _ ∧ _); (refine ⟨by omega, by omega, ?_⟩); conv => whnf) | fail)
          exact .inl ⟨rfl, [(0, true), (1, true), (2, true), (3, true), (4, true), (8, true)], rfl, rfl, rfl, rfl⟩
      · have hno : overN p q = false := by cases h : overN p q with
          | false => rfl
          | true => exact absurd h hov
        have hd := of_decide_eq_false hno
        show AYld _ _ _ _ (fun r H' => (r = .bool true ∧ ∃ L, okL H'.length L = true ∧ _ ∧ _ ∧ heapOf (gOf L 0) H' L = allH (accA s p (pre ++ [q])) _) ∨ _)
        rw [accA_snoc_no hno]
        generalize accA s p pre = acc at *
        cases acc with
        | nil =>
          (conv => whnf); (repeat' first | ((with_reducible refine Box.mk ?_); conv => whnf) | ((with_reducible refine And.intro (fun _ => ?_) (fun _ => ?_)) <;> conv => whnf) | ((with_reducible show AYld _ _ _ _ _); (refine AYld.of tok mixed ?_); conv => whnf) | ((with_reducible show forceH _ _); (refine (forceH_eq _ _).mpr ?_); conv => whnf) | ((with_reducible show ACall _ _ _ _ _); (refine ACall.of_pure (by assumption) (by rfl) ?_); conv => whnf) | ((with_reducible show Exists _); (refine ⟨_, ACall.of_pure (by assumption) (by rfl) ⟨rfl, rfl⟩, ?_⟩); conv => whnf) | ((with_reducible show _ ∧ _ ∧ _); (refine ⟨by omega, by omega, ?_⟩); conv => whnf) | fail)
          all_goals try (exfalso; omega)
          all_goals exact .inl ⟨rfl, [(0, true), (1, true), (2, true), (3, true), (4, true)], rfl, rfl, rfl, rfl⟩
        | cons x r =>
          (conv => whnf); (repeat' first | ((with_reducible refine Box.mk ?_); conv => whnf) | ((with_reducible refine And.intro (fun _ => ?_) (fun _ => ?_)) <;> conv => whnf) | ((with_reducible show AYld _ _ _ _ _); (refine AYld.of tok mixed ?_); conv => whnf) | ((with_reducible show forceH _ _); (refine (forceH_eq _ _).mpr ?_); conv => whnf) | ((with_reducible show ACall _ _ _ _ _); (refine ACall.of_pure (by assumption) (by rfl) ?_); conv => whnf) | ((with_reducible show Exists _); (refine ⟨_, ACall.of_pure (by assumption) (by rfl) ⟨rfl, rfl⟩, ?_⟩); conv => whnf) | ((with_reducible show _ ∧ _ ∧ _); (refine ⟨by omega, by omega, ?_⟩); conv => whnf) | fail)
          all_goals try (exfalso; omega)
          all_goals exact .inl ⟨rfl, [(0, true), (1, true), (2, true), (3, true), (4, true), (5, true)], rfl, rfl, rfl, rfl⟩
    · show rangeK _ _ _ (allH (accA s p (nodesN (gA s) (gB s))) _)
      generalize accA s p (nodesN (gA s) (gB s)) = acc
      cases acc with
      | nil =>
        (conv => whnf); (repeat' first | ((with_reducible refine Box.mk ?_); conv => whnf) | ((with_reducible refine And.intro (fun _ => ?_) (fun _ => ?_)) <;> conv => whnf) | ((with_reducible show AYld _ _ _ _ _); (refine AYld.of tok mixed ?_); conv => whnf) | ((with_reducible show forceH _ _); (refine (forceH_eq _ _).mpr ?_); conv => whnf) | ((with_reducible show ACall _ _ _ _ _); (refine ACall.of_pure (by assumption) (by rfl) ?_); conv => whnf) | ((with_reducible show Exists _); (refine ⟨_, ACall.of_pure (by assumption) (by rfl) ⟨rfl, rfl⟩, ?_⟩); conv => whnf) | ((with_reducible show _ ∧ _ ∧ _); (refine ⟨by omega, by omega, ?_⟩); conv => whnf) | fail)
        rfl
      | cons x r =>
        (conv => whnf); (repeat' first | ((with_reducible refine Box.mk ?_); conv => whnf) | ((with_reducible refine And.intro (fun _ => ?_) (fun _ => ?_)) <;> conv => whnf) | ((with_reducible show AYld _ _ _ _ _); (refine AYld.of tok mixed ?_); conv => whnf) | ((with_reducible show forceH _ _); (refine (forceH_eq _ _).mpr ?_); conv => whnf) | ((with_reducible show ACall _ _ _ _ _); (refine ACall.of_pure (by assumption) (by rfl) ?_); conv => whnf) | ((with_reducible show Exists _); (refine ⟨_, ACall.of_pure (by assumption) (by rfl) ⟨rfl, rfl⟩, ?_⟩); conv => whnf) | ((with_reducible show _ ∧ _ ∧ _); (refine ⟨by omega, by omega, ?_⟩); conv => whnf) | fail)
        rfl
end Go.Proofs.YtgdonjndgjiocaaDoor
end

section
/- grid: the document's All; equal lists; parents. -/
namespace Go.Proofs.YtgdonjndgjiocaaDoor
open Go.Ve

def pv1 : List Px → AV
  | [] => .nils
  | _ :: _ => .own 2
def ph1 : List Px → Hp → Hp
  | [], H => H
  | x :: r, H => H ++ [.row 33 12 (pcl (x :: r))]
theorem rAll_ok (s : Sp) (p : Px) (hp : POk p) : PCall P 29 [spv s, pxv p] (pvl (allP s p)) := by
  have q1 := rNodes_ok s
  have q2 := fun i j => r9Up_ok s p i j hp
  have q3 := fun i j => r9Right_ok s (upP s p i j) (upP_ok hp i j)
  have hN := nds_len s
  have hyes := fun q (hq : q ∈ nds s) (h : rightP s p = true ∧ overN p q = true) => upAt_yes hp h.1 hq h.2
  have hno := fun q h => upAt_no (s := s) (p := p) (q := q) h
  have hall : allP s p = bif rightP s p then accA s p (nds s) else [] := rfl
  rw [hall]
  obtain ⟨acc, hacc⟩ : ∃ acc : List (Nat × Nat) → List Px, acc = fun l => bif rightP s p then accA s p l else [] := ⟨_, rfl⟩
  have hs1 : ∀ l q, (rightP s p = true ∧ overN p q = true) → acc (l ++ [q]) = acc l ++ [upAt s p q] := fun l q h => by
    rw [hacc]; simp only [h.1, cond_true]; exact accA_snoc_yes h.2
  have hs2 : ∀ l q, ¬ (rightP s p = true ∧ overN p q = true) → acc (l ++ [q]) = acc l := fun l q h => by
    rw [hacc]
    cases hr : rightP s p
    · rfl
    · simp only [cond_true]
      cases ho : overN p q
      · exact accA_snoc_no ho
      · exact absurd ⟨hr, ho⟩ h
  have hlen : ∀ l, (acc l).length ≤ l.length := fun l => by
    rw [hacc]
    cases rightP s p
    · exact Nat.zero_le _
    · exact accA_len _ _ _
  have hnil : acc [] = [] := by rw [hacc]; cases rightP s p <;> rfl
  rw [show (bif rightP s p then accA s p (nds s) else []) = acc (nds s) by rw [hacc]]
  clear hall hacc
  generalize hl0 : nds s = l at *
  have hnl := ncl_len l
  refine PCall.of_awp tok mixed fn29 (Nat.le_of_ble_eq_true rfl) ?_
  cases hl1 : l with
  | nil =>
    subst hl1
    rw [hnil]
    (conv => whnf); (repeat' first | ((with_reducible refine Box.mk ?_); conv => whnf) | ((with_reducible refine And.intro (fun _ => ?_) (fun _ => ?_)) <;> conv => whnf) | ((with_reducible show AYld _ _ _ _ _); (refine AYld.of tok mixed ?_); conv => whnf) | ((with_reducible show forceH _ _); (refine (forceH_eq _ _).mpr ?_); conv => whnf) | ((with_reducible show ACall _ _ _ _ _); (refine ACall.of_pure (by assumption) (by rfl) ?_); conv => whnf) | ((with_reducible show Exists _); (refine ⟨_, ACall.of_pure (by assumption) (by rfl) ⟨rfl, rfl⟩, ?_⟩); conv => whnf) | ((with_reducible show _ ∧ _ ∧ _); (refine ⟨by omega, by omega, ?_⟩); conv => whnf) | fail)
    refine aloopH (fun _ => True) (fun _ : Unit => [(2, .ptr 0 0), (3, .ptr 1 0), (5, .nils), (6, .nils), (7, .int .i64 0)]) (fun _ H => H) (fun _ => 0) () trivial (weak_to ⟨rfl, rfl, rfl, rfl, rfl, trivial⟩ rfl) ?_
    intro _ _
    (conv => whnf); (repeat' first | ((with_reducible refine Box.mk ?_); conv => whnf) | ((with_reducible refine And.intro (fun _ => ?_) (fun _ => ?_)) <;> conv => whnf) | ((with_reducible show AYld _ _ _ _ _); (refine AYld.of tok mixed ?_); conv => whnf) | ((with_reducible show forceH _ _); (refine (forceH_eq _ _).mpr ?_); conv => whnf) | ((with_reducible show ACall _ _ _ _ _); (refine ACall.of_pure (by assumption) (by rfl) ?_); conv => whnf) | ((with_reducible show Exists _); (refine ⟨_, ACall.of_pure (by assumption) (by rfl) ⟨rfl, rfl⟩, ?_⟩); conv => whnf) | ((with_reducible show _ ∧ _ ∧ _); (refine ⟨by omega, by omega, ?_⟩); conv => whnf) | fail)
    all_goals first
      | rfl
      | (exfalso; omega)
  | cons x0 r0 =>
    have q1' := pEq q1 (nvl_sl (by rw [hl1]; simp))
    rw [← hl1]
    clear q1
    (conv => whnf); (repeat' first | ((with_reducible refine Box.mk ?_); conv => whnf) | ((with_reducible refine And.intro (fun _ => ?_) (fun _ => ?_)) <;> conv => whnf) | ((with_reducible show AYld _ _ _ _ _); (refine AYld.of tok mixed ?_); conv => whnf) | ((with_reducible show forceH _ _); (refine (forceH_eq _ _).mpr ?_); conv => whnf) | ((with_reducible show ACall _ _ _ _ _); (refine ACall.of_pure (by assumption) (by rfl) ?_); conv => whnf) | ((with_reducible show Exists _); (refine ⟨_, ACall.of_pure (by assumption) (by rfl) ⟨rfl, rfl⟩, ?_⟩); conv => whnf) | ((with_reducible show _ ∧ _ ∧ _); (refine ⟨by omega, by omega, ?_⟩); conv => whnf) | fail)
    refine aloopH (fun x : Nat × List Px => x.1 ≤ l.length ∧ x.2 = acc (l.take x.1)) (fun x => [(2, .ptr 0 0), (3, .ptr 1 0), (5, pv1 x.2), (6, .sl (ncl l)), (7, .int .i64 (x.1 : Int))]) (fun x => ph1 x.2) (fun x => l.length - x.1) (0, [])
      ⟨Nat.zero_le _, by rw [List.take_zero]; exact hnil.symm⟩ (weak_to ⟨rfl, rfl, rfl, rfl, rfl, trivial⟩ rfl) ?_
    rintro ⟨i, m⟩ ⟨hi, hm⟩
    have hi : i ≤ l.length := hi
    have hm : m = acc (l.take i) := hm
    have hml : m.length ≤ 33153 := by
      have := hlen (l.take i)
      rw [List.length_take, ← hm] at this; omega
    have hpm := pcl_len m
    have e1 : IntKind.i64.wrap ((i : Int) + 1) = ((i + 1 : Nat) : Int) := by rw [wrap_i64 (by omega) (by omega)]; omega
    by_cases hlt0 : i < l.length
    · have hg : (ncl l)[(i : Int).toNat]? = some (ncs l[i]) := by rw [ncl_get, Int.toNat_natCast, List.getElem?_eq_getElem hlt0]; rfl
      have hmem : l[i] ∈ l := List.getElem_mem hlt0
      have htk : l.take (i + 1) = l.take i ++ [l[i]] := by rw [List.take_add_one, List.getElem?_eq_getElem hlt0]; rfl
      generalize l[i] = q at *
      have q4 := q2 q.1 q.2
      have q5 := q3 q.1 q.2
      by_cases hc : rightP s p = true ∧ overN p q = true
      · obtain ⟨h1, h2⟩ := hyes q hmem hc
        rw [h1] at q4 q5
        rw [(over_right h2).1] at q5
        have hf : acc (l.take (i + 1)) = m ++ [upAt s p q] := by rw [htk, hs1 _ _ hc, hm]
        generalize upAt s p q = x at *
        cases m with
        | nil =>
          (conv => whnf); (repeat' first | ((with_reducible refine Box.mk ?_); conv => whnf) | ((with_reducible refine And.intro (fun _ => ?_) (fun _ => ?_)) <;> conv => whnf) | ((with_reducible show AYld _ _ _ _ _); (refine AYld.of tok mixed ?_); conv => whnf) | ((with_reducible show forceH _ _); (refine (forceH_eq _ _).mpr ?_); conv => whnf) | ((with_reducible show ACall _ _ _ _ _); (refine ACall.of_pure (by assumption) (by rfl) ?_); conv => whnf) | ((with_reducible show Exists _); (refine ⟨_, ACall.of_pure (by assumption) (by rfl) ⟨rfl, rfl⟩, ?_⟩); conv => whnf) | ((with_reducible show _ ∧ _ ∧ _); (refine ⟨by omega, by omega, ?_⟩); conv => whnf) | fail)
          · refine ⟨[(7, [0, 1, 4, 5, 6])], by kernel_rfl, ?_⟩
            (conv => whnf); (repeat' first | ((with_reducible refine Box.mk ?_); conv => whnf) | ((with_reducible refine And.intro (fun _ => ?_) (fun _ => ?_)) <;> conv => whnf) | ((with_reducible show AYld _ _ _ _ _); (refine AYld.of tok mixed ?_); conv => whnf) | ((with_reducible show forceH _ _); (refine (forceH_eq _ _).mpr ?_); conv => whnf) | ((with_reducible show ACall _ _ _ _ _); (refine ACall.of_pure (by assumption) (by rfl) ?_); conv => whnf) | ((with_reducible show Exists _); (refine ⟨_, ACall.of_pure (by assumption) (by rfl) ⟨rfl, rfl⟩, ?_⟩); conv => whnf) | ((with_reducible show _ ∧ _ ∧ _); (refine ⟨by omega, by omega, ?_⟩); conv => whnf) | fail)
            refine ⟨by show (0 : Int) ≤ (i : Int); omega, _, hg, rfl, ?_⟩
            (conv => whnf); (repeat' first | ((with_reducible refine Box.mk ?_); conv => whnf) | ((with_reducible refine And.intro (fun _ => ?_) (fun _ => ?_)) <;> conv => whnf) | ((with_reducible show AYld _ _ _ _ _); (refine AYld.of tok mixed ?_); conv => whnf) | ((with_reducible show forceH _ _); (refine (forceH_eq _ _).mpr ?_); conv => whnf) | ((with_reducible show ACall _ _ _ _ _); (refine ACall.of_pure (by assumption) (by rfl) ?_); conv => whnf) | ((with_reducible show Exists _); (refine ⟨_, ACall.of_pure (by assumption) (by rfl) ⟨rfl, rfl⟩, ?_⟩); conv => whnf) | ((with_reducible show _ ∧ _ ∧ _); (refine ⟨by omega, by omega, ?_⟩); conv => whnf) | fail)
            (refine And.intro ?_ ?_); (focus ((conv => whnf); (repeat' first | exact trivial | ((refine And.intro ?_ ?_); (focus ((conv => whnf); (first | exact ⟨rfl, rfl⟩ | exact ⟨by decide, by decide, rfl, rfl⟩ | ((refine ACall.of_pure (by assumption) (by rfl) ?_); (refine And.intro ?_ ?_ <;> rfl)) | exact ⟨by show (0 : Int) ≤ (i : Int); omega, _, hg, rfl, rfl, rfl⟩))); (conv => whnf)))))
            (conv => whnf); (repeat' first | ((with_reducible refine Box.mk ?_); conv => whnf) | ((with_reducible refine And.intro (fun _ => ?_) (fun _ => ?_)) <;> conv => whnf) | ((with_reducible show AYld _ _ _ _ _); (refine AYld.of tok mixed ?_); conv => whnf) | ((with_reducible show forceH _ _); (refine (forceH_eq _ _).mpr ?_); conv => whnf) | ((with_reducible show ACall _ _ _ _ _); (refine ACall.of_pure (by assumption) (by rfl) ?_); conv => whnf) | ((with_reducible show Exists _); (refine ⟨_, ACall.of_pure (by assumption) (by rfl) ⟨rfl, rfl⟩, ?_⟩); conv => whnf) | ((with_reducible show _ ∧ _ ∧ _); (refine ⟨by omega, by omega, ?_⟩); conv => whnf) | fail)
            refine ⟨fun c hc => by rw [List.mem_singleton.1 hc]; exact ⟨rfl, rfl⟩, fun h => (by cases h), fun _ => ⟨Nat.le_of_ble_eq_true rfl, Nat.le_of_ble_eq_true rfl, ?_⟩⟩
            (conv => whnf); (repeat' first | ((with_reducible refine Box.mk ?_); conv => whnf) | ((with_reducible refine And.intro (fun _ => ?_) (fun _ => ?_)) <;> conv => whnf) | ((with_reducible show AYld _ _ _ _ _); (refine AYld.of tok mixed ?_); conv => whnf) | ((with_reducible show forceH _ _); (refine (forceH_eq _ _).mpr ?_); conv => whnf) | ((with_reducible show ACall _ _ _ _ _); (refine ACall.of_pure (by assumption) (by rfl) ?_); conv => whnf) | ((with_reducible show Exists _); (refine ⟨_, ACall.of_pure (by assumption) (by rfl) ⟨rfl, rfl⟩, ?_⟩); conv => whnf) | ((with_reducible show _ ∧ _ ∧ _); (refine ⟨by omega, by omega, ?_⟩); conv => whnf) | fail)
            exact ⟨(i + 1, [x]), ⟨hlt0, hf.symm⟩, by show l.length - (i + 1) < l.length - i; omega, weak_ren_to [(0, true), (1, true), (4, true)] rfl rfl rfl ⟨rfl, rfl, rfl, rfl, congrArg (AV.int .i64) e1, trivial⟩⟩
          · rename_i hbad
            have hbad : ¬ (i : Int) < ((ncl l).length : Int) := hbad
            exfalso; omega
        | cons y r =>
          (conv => whnf); (repeat' first | ((with_reducible refine Box.mk ?_); conv => whnf) | ((with_reducible refine And.intro (fun _ => ?_) (fun _ => ?_)) <;> conv => whnf) | ((with_reducible show AYld _ _ _ _ _); (refine AYld.of tok mixed ?_); conv => whnf) | ((with_reducible show forceH _ _); (refine (forceH_eq _ _).mpr ?_); conv => whnf) | ((with_reducible show ACall _ _ _ _ _); (refine ACall.of_pure (by assumption) (by rfl) ?_); conv => whnf) | ((with_reducible show Exists _); (refine ⟨_, ACall.of_pure (by assumption) (by rfl) ⟨rfl, rfl⟩, ?_⟩); conv => whnf) | ((with_reducible show _ ∧ _ ∧ _); (refine ⟨by omega, by omega, ?_⟩); conv => whnf) | fail)
          · refine ⟨[(7, [0, 1, 4, 5, 6])], by kernel_rfl, ?_⟩
            (conv => whnf); (repeat' first | ((with_reducible refine Box.mk ?_); conv => whnf) | ((with_reducible refine And.intro (fun _ => ?_) (fun _ => ?_)) <;> conv => whnf) | ((with_reducible show AYld _ _ _ _ _); (refine AYld.of tok mixed ?_); conv => whnf) | ((with_reducible show forceH _ _); (refine (forceH_eq _ _).mpr ?_); conv => whnf) | ((with_reducible show ACall _ _ _ _ _); (refine ACall.of_pure (by assumption) (by rfl) ?_); conv => whnf) | ((with_reducible show Exists _); (refine ⟨_, ACall.of_pure (by assumption) (by rfl) ⟨rfl, rfl⟩, ?_⟩); conv => whnf) | ((with_reducible show _ ∧ _ ∧ _); (refine ⟨by omega, by omega, ?_⟩); conv => whnf) | fail)
            refine ⟨by show (0 : Int) ≤ (i : Int); omega, _, hg, rfl, ?_⟩
            (conv => whnf); (repeat' first | ((with_reducible refine Box.mk ?_); conv => whnf) | ((with_reducible refine And.intro (fun _ => ?_) (fun _ => ?_)) <;> conv => whnf) | ((with_reducible show AYld _ _ _ _ _); (refine AYld.of tok mixed ?_); conv => whnf) | ((with_reducible show forceH _ _); (refine (forceH_eq _ _).mpr ?_); conv => whnf) | ((with_reducible show ACall _ _ _ _ _); (refine ACall.of_pure (by assumption) (by rfl) ?_); conv => whnf) | ((with_reducible show Exists _); (refine ⟨_, ACall.of_pure (by assumption) (by rfl) ⟨rfl, rfl⟩, ?_⟩); conv => whnf) | ((with_reducible show _ ∧ _ ∧ _); (refine ⟨by omega, by omega, ?_⟩); conv => whnf) | fail)
            (refine And.intro ?_ ?_); (focus ((conv => whnf); (repeat' first | exact trivial | ((refine And.intro ?_ ?_); (focus ((conv => whnf); (first | exact ⟨rfl, rfl⟩ | exact ⟨by decide, by decide, rfl, rfl⟩ | ((refine ACall.of_pure (by assumption) (by rfl) ?_); (refine And.intro ?_ ?_ <;> rfl)) | exact ⟨by show (0 : Int) ≤ (i : Int); omega, _, hg, rfl, rfl, rfl⟩))); (conv => whnf)))))
            (conv => whnf); (repeat' first | ((with_reducible refine Box.mk ?_); conv => whnf) | ((with_reducible refine And.intro (fun _ => ?_) (fun _ => ?_)) <;> conv => whnf) | ((with_reducible show AYld _ _ _ _ _); (refine AYld.of tok mixed ?_); conv => whnf) | ((with_reducible show forceH _ _); (refine (forceH_eq _ _).mpr ?_); conv => whnf) | ((with_reducible show ACall _ _ _ _ _); (refine ACall.of_pure (by assumption) (by rfl) ?_); conv => whnf) | ((with_reducible show Exists _); (refine ⟨_, ACall.of_pure (by assumption) (by rfl) ⟨rfl, rfl⟩, ?_⟩); conv => whnf) | ((with_reducible show _ ∧ _ ∧ _); (refine ⟨by omega, by omega, ?_⟩); conv => whnf) | fail)
            refine ⟨fun c hc => by rw [List.mem_singleton.1 hc]; exact ⟨rfl, rfl⟩, by rw [hpm]; show (_ + 1) * 112 ≤ _; omega, by rw [hpm]; show _ + 1 ≤ _; omega, ?_⟩
            (conv => whnf); (repeat' first | ((with_reducible refine Box.mk ?_); conv => whnf) | ((with_reducible refine And.intro (fun _ => ?_) (fun _ => ?_)) <;> conv => whnf) | ((with_reducible show AYld _ _ _ _ _); (refine AYld.of tok mixed ?_); conv => whnf) | ((with_reducible show forceH _ _); (refine (forceH_eq _ _).mpr ?_); conv => whnf) | ((with_reducible show ACall _ _ _ _ _); (refine ACall.of_pure (by assumption) (by rfl) ?_); conv => whnf) | ((with_reducible show Exists _); (refine ⟨_, ACall.of_pure (by assumption) (by rfl) ⟨rfl, rfl⟩, ?_⟩); conv => whnf) | ((with_reducible show _ ∧ _ ∧ _); (refine ⟨by omega, by omega, ?_⟩); conv => whnf) | fail)
            refine ⟨(i + 1, y :: r ++ [x]), ⟨hlt0, hf.symm⟩, by show l.length - (i + 1) < l.length - i; omega, weak_ren_to [(0, true), (1, true), (5, true)] rfl rfl ?_ ⟨rfl, rfl, rfl, rfl, congrArg (AV.int .i64) e1, trivial⟩⟩
            show [_, _, Ob.row _ _ (pcl (y :: r) ++ [pcs x])] = [_, _, Ob.row _ _ (pcl (y :: r ++ [x]))]
            rw [pcl_snoc]; rfl
          · rename_i hbad
            have hbad : ¬ (i : Int) < ((ncl l).length : Int) := hbad
            exfalso; omega
      · rw [hno q hc] at q5
        have hf : acc (l.take (i + 1)) = m := by rw [htk, hs2 _ _ hc, hm]
        generalize upP s p q.1 q.2 = x at *
        cases m with
        | nil =>
          (conv => whnf); (repeat' first | ((with_reducible refine Box.mk ?_); conv => whnf) | ((with_reducible refine And.intro (fun _ => ?_) (fun _ => ?_)) <;> conv => whnf) | ((with_reducible show AYld _ _ _ _ _); (refine AYld.of tok mixed ?_); conv => whnf) | ((with_reducible show forceH _ _); (refine (forceH_eq _ _).mpr ?_); conv => whnf) | ((with_reducible show ACall _ _ _ _ _); (refine ACall.of_pure (by assumption) (by rfl) ?_); conv => whnf) | ((with_reducible show Exists _); (refine ⟨_, ACall.of_pure (by assumption) (by rfl) ⟨rfl, rfl⟩, ?_⟩); conv => whnf) | ((with_reducible show _ ∧ _ ∧ _); (refine ⟨by omega, by omega, ?_⟩); conv => whnf) | fail)
          · refine ⟨[(7, [0, 1, 4, 5, 6])], by kernel_rfl, ?_⟩
            (conv => whnf); (repeat' first | ((with_reducible refine Box.mk ?_); conv => whnf) | ((with_reducible refine And.intro (fun _ => ?_) (fun _ => ?_)) <;> conv => whnf) | ((with_reducible show AYld _ _ _ _ _); (refine AYld.of tok mixed ?_); conv => whnf) | ((with_reducible show forceH _ _); (refine (forceH_eq _ _).mpr ?_); conv => whnf) | ((with_reducible show ACall _ _ _ _ _); (refine ACall.of_pure (by assumption) (by rfl) ?_); conv => whnf) | ((with_reducible show Exists _); (refine ⟨_, ACall.of_pure (by assumption) (by rfl) ⟨rfl, rfl⟩, ?_⟩); conv => whnf) | ((with_reducible show _ ∧ _ ∧ _); (refine ⟨by omega, by omega, ?_⟩); conv => whnf) | fail)
            refine ⟨by show (0 : Int) ≤ (i : Int); omega, _, hg, rfl, ?_⟩
            (conv => whnf); (repeat' first | ((with_reducible refine Box.mk ?_); conv => whnf) | ((with_reducible refine And.intro (fun _ => ?_) (fun _ => ?_)) <;> conv => whnf) | ((with_reducible show AYld _ _ _ _ _); (refine AYld.of tok mixed ?_); conv => whnf) | ((with_reducible show forceH _ _); (refine (forceH_eq _ _).mpr ?_); conv => whnf) | ((with_reducible show ACall _ _ _ _ _); (refine ACall.of_pure (by assumption) (by rfl) ?_); conv => whnf) | ((with_reducible show Exists _); (refine ⟨_, ACall.of_pure (by assumption) (by rfl) ⟨rfl, rfl⟩, ?_⟩); conv => whnf) | ((with_reducible show _ ∧ _ ∧ _); (refine ⟨by omega, by omega, ?_⟩); conv => whnf) | fail)
            (refine And.intro ?_ ?_); (focus ((conv => whnf); (repeat' first | exact trivial | ((refine And.intro ?_ ?_); (focus ((conv => whnf); (first | exact ⟨rfl, rfl⟩ | exact ⟨by decide, by decide, rfl, rfl⟩ | ((refine ACall.of_pure (by assumption) (by rfl) ?_); (refine And.intro ?_ ?_ <;> rfl)) | exact ⟨by show (0 : Int) ≤ (i : Int); omega, _, hg, rfl, rfl, rfl⟩))); (conv => whnf)))))
            (conv => whnf); (repeat' first | ((with_reducible refine Box.mk ?_); conv => whnf) | ((with_reducible refine And.intro (fun _ => ?_) (fun _ => ?_)) <;> conv => whnf) | ((with_reducible show AYld _ _ _ _ _); (refine AYld.of tok mixed ?_); conv => whnf) | ((with_reducible show forceH _ _); (refine (forceH_eq _ _).mpr ?_); conv => whnf) | ((with_reducible show ACall _ _ _ _ _); (refine ACall.of_pure (by assumption) (by rfl) ?_); conv => whnf) | ((with_reducible show Exists _); (refine ⟨_, ACall.of_pure (by assumption) (by rfl) ⟨rfl, rfl⟩, ?_⟩); conv => whnf) | ((with_reducible show _ ∧ _ ∧ _); (refine ⟨by omega, by omega, ?_⟩); conv => whnf) | fail)
            exact ⟨(i + 1, []), ⟨hlt0, hf.symm⟩, by show l.length - (i + 1) < l.length - i; omega, weak_ren_to [(0, true), (1, true)] rfl rfl rfl ⟨rfl, rfl, rfl, rfl, congrArg (AV.int .i64) e1, trivial⟩⟩
          · rename_i hbad
            have hbad : ¬ (i : Int) < ((ncl l).length : Int) := hbad
            exfalso; omega
        | cons y r =>
          (conv => whnf); (repeat' first | ((with_reducible refine Box.mk ?_); conv => whnf) | ((with_reducible refine And.intro (fun _ => ?_) (fun _ => ?_)) <;> conv => whnf) | ((with_reducible show AYld _ _ _ _ _); (refine AYld.of tok mixed ?_); conv => whnf) | ((with_reducible show forceH _ _); (refine (forceH_eq _ _).mpr ?_); conv => whnf) | ((with_reducible show ACall _ _ _ _ _); (refine ACall.of_pure (by assumption) (by rfl) ?_); conv => whnf) | ((with_reducible show Exists _); (refine ⟨_, ACall.of_pure (by assumption) (by rfl) ⟨rfl, rfl⟩, ?_⟩); conv => whnf) | ((with_reducible show _ ∧ _ ∧ _); (refine ⟨by omega, by omega, ?_⟩); conv => whnf) | fail)
          · refine ⟨[(7, [0, 1, 4, 5, 6])], by kernel_rfl, ?_⟩
            (conv => whnf); (repeat' first | ((with_reducible refine Box.mk ?_); conv => whnf) | ((with_reducible refine And.intro (fun _ => ?_) (fun _ => ?_)) <;> conv => whnf) | ((with_reducible show AYld _ _ _ _ _); (refine AYld.of tok mixed ?_); conv => whnf) | ((with_reducible show forceH _ _); (refine (forceH_eq _ _).mpr ?_); conv => whnf) | ((with_reducible show ACall _ _ _ _ _); (refine ACall.of_pure (by assumption) (by rfl) ?_); conv => whnf) | ((with_reducible show Exists _); (refine ⟨_, ACall.of_pure (by assumption) (by rfl) ⟨rfl, rfl⟩, ?_⟩); conv => whnf) | ((with_reducible show _ ∧ _ ∧ _); (refine ⟨by omega, by omega, ?_⟩); conv => whnf) | fail)
            refine ⟨by show (0 : Int) ≤ (i : Int); omega, _, hg, rfl, ?_⟩
            (conv => whnf); (repeat' first | ((with_reducible refine Box.mk ?_); conv => whnf) | ((with_reducible refine And.intro (fun _ => ?_) (fun _ => ?_)) <;> conv => whnf) | ((with_reducible show AYld _ _ _ _ _); (refine AYld.of tok mixed ?_); conv => whnf) | ((with_reducible show forceH _ _); (refine (forceH_eq _ _).mpr ?_); conv => whnf) | ((with_reducible show ACall _ _ _ _ _); (refine ACall.of_pure (by assumption) (by rfl) ?_); conv => whnf) | ((with_reducible show Exists _); (refine ⟨_, ACall.of_pure (by assumption) (by rfl) ⟨rfl, rfl⟩, ?_⟩); conv => whnf) | ((with_reducible show _ ∧ _ ∧ _); (refine ⟨by omega, by omega, ?_⟩); conv => whnf) | fail)
            (refine And.intro ?_ ?_); (focus ((conv => whnf); (repeat' first | exact trivial | ((refine And.intro ?_ ?_); (focus ((conv => whnf); (first | exact ⟨rfl, rfl⟩ | exact ⟨by decide, by decide, rfl, rfl⟩ | ((refine ACall.of_pure (by assumption) (by rfl) ?_); (refine And.intro ?_ ?_ <;> rfl)) | exact ⟨by show (0 : Int) ≤ (i : Int); omega, _, hg, rfl, rfl, rfl⟩))); (conv => whnf)))))
            (conv => whnf); (repeat' first | ((with_reducible refine Box.mk ?_); conv => whnf) | ((with_reducible refine And.intro (fun _ => ?_) (fun _ => ?_)) <;> conv => whnf) | ((with_reducible show AYld _ _ _ _ _); (refine AYld.of tok mixed ?_); conv => whnf) | ((with_reducible show forceH _ _); (refine (forceH_eq _ _).mpr ?_); conv => whnf) | ((with_reducible show ACall _ _ _ _ _); (refine ACall.of_pure (by assumption) (by rfl) ?_); conv => whnf) | ((with_reducible show Exists _); (refine ⟨_, ACall.of_pure (by assumption) (by rfl) ⟨rfl, rfl⟩, ?_⟩); conv => whnf) | ((with_reducible show _ ∧ _ ∧ _); (refine ⟨by omega, by omega, ?_⟩); conv => whnf) | fail)
            exact ⟨(i + 1, y :: r), ⟨hlt0, hf.symm⟩, by show l.length - (i + 1) < l.length - i; omega, weak_ren_to [(0, true), (1, true), (2, true)] rfl rfl rfl ⟨rfl, rfl, rfl, rfl, congrArg (AV.int .i64) e1, trivial⟩⟩
          · rename_i hbad
            have hbad : ¬ (i : Int) < ((ncl l).length : Int) := hbad
            exfalso; omega
    · have hil : l.take i = l := List.take_of_length_le (by omega)
      rw [hil] at hm
      rw [← hm]
      cases m with
      | nil =>
        (conv => whnf); (repeat' first | ((with_reducible refine Box.mk ?_); conv => whnf) | ((with_reducible refine And.intro (fun _ => ?_) (fun _ => ?_)) <;> conv => whnf) | ((with_reducible show AYld _ _ _ _ _); (refine AYld.of tok mixed ?_); conv => whnf) | ((with_reducible show forceH _ _); (refine (forceH_eq _ _).mpr ?_); conv => whnf) | ((with_reducible show ACall _ _ _ _ _); (refine ACall.of_pure (by assumption) (by rfl) ?_); conv => whnf) | ((with_reducible show Exists _); (refine ⟨_, ACall.of_pure (by assumption) (by rfl) ⟨rfl, rfl⟩, ?_⟩); conv => whnf) | ((with_reducible show _ ∧ _ ∧ _); (refine ⟨by omega, by omega, ?_⟩); conv => whnf) | fail)
        all_goals first
          | rfl
          | (rename_i hbad; have hbad : (i : Int) < ((ncl l).length : Int) := hbad; exfalso; omega)
      | cons x r =>
        (conv => whnf); (repeat' first | ((with_reducible refine Box.mk ?_); conv => whnf) | ((with_reducible refine And.intro (fun _ => ?_) (fun _ => ?_)) <;> conv => whnf) | ((with_reducible show AYld _ _ _ _ _); (refine AYld.of tok mixed ?_); conv => whnf) | ((with_reducible show forceH _ _); (refine (forceH_eq _ _).mpr ?_); conv => whnf) | ((with_reducible show ACall _ _ _ _ _); (refine ACall.of_pure (by assumption) (by rfl) ?_); conv => whnf) | ((with_reducible show Exists _); (refine ⟨_, ACall.of_pure (by assumption) (by rfl) ⟨rfl, rfl⟩, ?_⟩); conv => whnf) | ((with_reducible show _ ∧ _ ∧ _); (refine ⟨by omega, by omega, ?_⟩); conv => whnf) | fail)
        all_goals first
          | rfl
          | (rename_i hbad; have hbad : (i : Int) < ((ncl l).length : Int) := hbad; exfalso; omega)
end Go.Proofs.YtgdonjndgjiocaaDoor
end

section
/- grid: equal lists of prefixes; parents. -/
namespace Go.Proofs.YtgdonjndgjiocaaDoor
open Go.Ve

theorem psame_ok (l : List Px) (hl : l.length ≤ 33153) : PCall P 27 [.sl (pcl l), .sl (pcl l)] (.bool true) := by
  have hpl := pcl_len l
  refine PCall.of_awp tok mixed fn27 (Nat.le_of_ble_eq_true rfl) ?_
  (conv => whnf); (repeat' first | ((with_reducible refine Box.mk ?_); conv => whnf) | ((with_reducible refine And.intro (fun _ => ?_) (fun _ => ?_)) <;> conv => whnf) | ((with_reducible show AYld _ _ _ _ _); (refine AYld.of tok mixed ?_); conv => whnf) | ((with_reducible show forceH _ _); (refine (forceH_eq _ _).mpr ?_); conv => whnf) | ((with_reducible show ACall _ _ _ _ _); (refine ACall.of_pure (by assumption) (by rfl) ?_); conv => whnf) | ((with_reducible show Exists _); (refine ⟨_, ACall.of_pure (by assumption) (by rfl) ⟨rfl, rfl⟩, ?_⟩); conv => whnf) | ((with_reducible show ∃ L, drawR L _ = true ∧ _); (refine ⟨[], by kernel_rfl, ?_⟩); conv => whnf) | ((with_reducible show _ ∧ _ ∧ _); (refine ⟨by omega, by omega, ?_⟩); conv => whnf) | fail)
  all_goals try contradiction
  refine aloopH (fun i : Nat => i ≤ l.length) (fun i : Nat => [(0, .sl (pcl l)), (1, .sl (pcl l)), (5, .int .i64 i)]) (fun _ H => H) (fun i => l.length - i) 0 (Nat.zero_le _) (weak_to ⟨rfl, rfl, rfl, trivial⟩ rfl) ?_
  intro i hi
  (conv => whnf); (repeat' first | ((with_reducible refine Box.mk ?_); conv => whnf) | ((with_reducible refine And.intro (fun _ => ?_) (fun _ => ?_)) <;> conv => whnf) | ((with_reducible show AYld _ _ _ _ _); (refine AYld.of tok mixed ?_); conv => whnf) | ((with_reducible show forceH _ _); (refine (forceH_eq _ _).mpr ?_); conv => whnf) | ((with_reducible show ACall _ _ _ _ _); (refine ACall.of_pure (by assumption) (by rfl) ?_); conv => whnf) | ((with_reducible show Exists _); (refine ⟨_, ACall.of_pure (by assumption) (by rfl) ⟨rfl, rfl⟩, ?_⟩); conv => whnf) | ((with_reducible show ∃ L, drawR L _ = true ∧ _); (refine ⟨[], by kernel_rfl, ?_⟩); conv => whnf) | ((with_reducible show _ ∧ _ ∧ _); (refine ⟨by omega, by omega, ?_⟩); conv => whnf) | fail)
  · rename_i h
    have hil : i < l.length := by omega
    have hg : (pcl l)[(i : Int).toNat]? = some (pcs l[i]) := by rw [pcl_get, Int.toNat_natCast, List.getElem?_eq_getElem hil]; rfl
    refine ⟨by omega, _, hg, rfl, ?_⟩
    (conv => whnf); (repeat' first | ((with_reducible refine Box.mk ?_); conv => whnf) | ((with_reducible refine And.intro (fun _ => ?_) (fun _ => ?_)) <;> conv => whnf) | ((with_reducible show AYld _ _ _ _ _); (refine AYld.of tok mixed ?_); conv => whnf) | ((with_reducible show forceH _ _); (refine (forceH_eq _ _).mpr ?_); conv => whnf) | ((with_reducible show ACall _ _ _ _ _); (refine ACall.of_pure (by assumption) (by rfl) ?_); conv => whnf) | ((with_reducible show Exists _); (refine ⟨_, ACall.of_pure (by assumption) (by rfl) ⟨rfl, rfl⟩, ?_⟩); conv => whnf) | ((with_reducible show ∃ L, drawR L _ = true ∧ _); (refine ⟨[], by kernel_rfl, ?_⟩); conv => whnf) | ((with_reducible show _ ∧ _ ∧ _); (refine ⟨by omega, by omega, ?_⟩); conv => whnf) | fail)
    refine ⟨by omega, _, hg, rfl, ?_⟩
    (conv => whnf); (repeat' first | ((with_reducible refine Box.mk ?_); conv => whnf) | ((with_reducible refine And.intro (fun _ => ?_) (fun _ => ?_)) <;> conv => whnf) | ((with_reducible show AYld _ _ _ _ _); (refine AYld.of tok mixed ?_); conv => whnf) | ((with_reducible show forceH _ _); (refine (forceH_eq _ _).mpr ?_); conv => whnf) | ((with_reducible show ACall _ _ _ _ _); (refine ACall.of_pure (by assumption) (by rfl) ?_); conv => whnf) | ((with_reducible show Exists _); (refine ⟨_, ACall.of_pure (by assumption) (by rfl) ⟨rfl, rfl⟩, ?_⟩); conv => whnf) | ((with_reducible show ∃ L, drawR L _ = true ∧ _); (refine ⟨[], by kernel_rfl, ?_⟩); conv => whnf) | ((with_reducible show _ ∧ _ ∧ _); (refine ⟨by omega, by omega, ?_⟩); conv => whnf) | fail)
    · exact ⟨i + 1, hil, by omega, weak_to ⟨rfl, rfl, wrap_nat (m := 1) (by omega), trivial⟩ rfl⟩
    · rename_i hbad; exact absurd (⟨rfl, rfl, rfl, rfl, rfl, rfl, rfl, rfl, rfl, rfl, rfl, rfl⟩ : _ ∧ _ ∧ _ ∧ _ ∧ _ ∧ _ ∧ _ ∧ _ ∧ _ ∧ _ ∧ _ ∧ _) hbad
  · rfl
theorem psame_nil : PCall P 27 [.nils, .nils] (.bool true) := by
  refine PCall.of_awp tok mixed fn27 (Nat.le_of_ble_eq_true rfl) ?_
  (conv => whnf); (repeat' first | ((with_reducible refine Box.mk ?_); conv => whnf) | ((with_reducible refine And.intro (fun _ => ?_) (fun _ => ?_)) <;> conv => whnf) | ((with_reducible show AYld _ _ _ _ _); (refine AYld.of tok mixed ?_); conv => whnf) | ((with_reducible show forceH _ _); (refine (forceH_eq _ _).mpr ?_); conv => whnf) | ((with_reducible show ACall _ _ _ _ _); (refine ACall.of_pure (by assumption) (by rfl) ?_); conv => whnf) | ((with_reducible show Exists _); (refine ⟨_, ACall.of_pure (by assumption) (by rfl) ⟨rfl, rfl⟩, ?_⟩); conv => whnf) | ((with_reducible show ∃ L, drawR L _ = true ∧ _); (refine ⟨[], by kernel_rfl, ?_⟩); conv => whnf) | ((with_reducible show _ ∧ _ ∧ _); (refine ⟨by omega, by omega, ?_⟩); conv => whnf) | fail)
  all_goals try contradiction
  refine aloopH (fun _ => True) (fun _ : Unit => [(0, .nils), (1, .nils), (5, .int .i64 0)]) (fun _ H => H) (fun _ => 0) () trivial (weak_to ⟨rfl, rfl, rfl, trivial⟩ rfl) ?_
  intro _ _
  (conv => whnf); (repeat' first | ((with_reducible refine Box.mk ?_); conv => whnf) | ((with_reducible refine And.intro (fun _ => ?_) (fun _ => ?_)) <;> conv => whnf) | ((with_reducible show AYld _ _ _ _ _); (refine AYld.of tok mixed ?_); conv => whnf) | ((with_reducible show forceH _ _); (refine (forceH_eq _ _).mpr ?_); conv => whnf) | ((with_reducible show ACall _ _ _ _ _); (refine ACall.of_pure (by assumption) (by rfl) ?_); conv => whnf) | ((with_reducible show Exists _); (refine ⟨_, ACall.of_pure (by assumption) (by rfl) ⟨rfl, rfl⟩, ?_⟩); conv => whnf) | ((with_reducible show ∃ L, drawR L _ = true ∧ _); (refine ⟨[], by kernel_rfl, ?_⟩); conv => whnf) | ((with_reducible show _ ∧ _ ∧ _); (refine ⟨by omega, by omega, ?_⟩); conv => whnf) | fail)
  all_goals first
    | rfl
    | (exfalso; omega)
theorem psame_pvl (l : List Px) (hl : l.length ≤ 33153) : PCall P 27 [pvl l, pvl l] (.bool true) := by
  cases l with
  | nil => exact psame_nil
  | cons x r => exact psame_ok (x :: r) hl
theorem clip_nil : PCall P 52 [.nils] .nils := by
  refine PCall.of_awp tok mixed fn52 (Nat.le_of_ble_eq_true rfl) ?_
  (conv => whnf); (repeat' first | ((with_reducible refine Box.mk ?_); conv => whnf) | ((with_reducible refine And.intro (fun _ => ?_) (fun _ => ?_)) <;> conv => whnf) | ((with_reducible show AYld _ _ _ _ _); (refine AYld.of tok mixed ?_); conv => whnf) | ((with_reducible show forceH _ _); (refine (forceH_eq _ _).mpr ?_); conv => whnf) | ((with_reducible show ACall _ _ _ _ _); (refine ACall.of_pure (by assumption) (by rfl) ?_); conv => whnf) | ((with_reducible show Exists _); (refine ⟨_, ACall.of_pure (by assumption) (by rfl) ⟨rfl, rfl⟩, ?_⟩); conv => whnf) | ((with_reducible show ∃ L, drawR L _ = true ∧ _); (refine ⟨[], by kernel_rfl, ?_⟩); conv => whnf) | ((with_reducible show _ ∧ _ ∧ _); (refine ⟨by omega, by omega, ?_⟩); conv => whnf) | fail)
  rfl
theorem clip_sl (l : List Px) (hl : l.length ≤ 33153) : PCall P 52 [.sl (pcl l)] (.sl (pcl l)) := by
  have hpl := pcl_len l
  have hal := pcl_all l
  refine PCall.of_awp tok mixed fn52 (Nat.le_of_ble_eq_true rfl) ?_
  (conv => whnf); (repeat' first | ((with_reducible refine Box.mk ?_); conv => whnf) | ((with_reducible refine And.intro (fun _ => ?_) (fun _ => ?_)) <;> conv => whnf) | ((with_reducible show AYld _ _ _ _ _); (refine AYld.of tok mixed ?_); conv => whnf) | ((with_reducible show forceH _ _); (refine (forceH_eq _ _).mpr ?_); conv => whnf) | ((with_reducible show ACall _ _ _ _ _); (refine ACall.of_pure (by assumption) (by rfl) ?_); conv => whnf) | ((with_reducible show Exists _); (refine ⟨_, ACall.of_pure (by assumption) (by rfl) ⟨rfl, rfl⟩, ?_⟩); conv => whnf) | ((with_reducible show ∃ L, drawR L _ = true ∧ _); (refine ⟨[], by kernel_rfl, ?_⟩); conv => whnf) | ((with_reducible show _ ∧ _ ∧ _); (refine ⟨by omega, by omega, ?_⟩); conv => whnf) | fail)
  refine ⟨hal, ?_⟩
  (conv => whnf); (repeat' first | ((with_reducible refine Box.mk ?_); conv => whnf) | ((with_reducible refine And.intro (fun _ => ?_) (fun _ => ?_)) <;> conv => whnf) | ((with_reducible show AYld _ _ _ _ _); (refine AYld.of tok mixed ?_); conv => whnf) | ((with_reducible show forceH _ _); (refine (forceH_eq _ _).mpr ?_); conv => whnf) | ((with_reducible show ACall _ _ _ _ _); (refine ACall.of_pure (by assumption) (by rfl) ?_); conv => whnf) | ((with_reducible show Exists _); (refine ⟨_, ACall.of_pure (by assumption) (by rfl) ⟨rfl, rfl⟩, ?_⟩); conv => whnf) | ((with_reducible show ∃ L, drawR L _ = true ∧ _); (refine ⟨[], by kernel_rfl, ?_⟩); conv => whnf) | ((with_reducible show _ ∧ _ ∧ _); (refine ⟨by omega, by omega, ?_⟩); conv => whnf) | fail)
  show AV.sl (((pcl l).take ((pcl l).length : Int).toNat).drop 0) = _
  rw [Int.toNat_natCast, List.take_length, List.drop_zero]

/-- The parents: what is one level higher. -/
def parL (b0 b1 : Bool) (x y : Px) : Nat → List Px
  | 0 => []
  | 1 => bif b0 then [x] else []
  | _ => (bif b0 then [x] else []) ++ (bif b1 then [y] else [])
def par0 (s : Sp) (p : Px) : Bool := decide (p.a0 + 1 ≤ gA s)
def par1 (s : Sp) (p : Px) : Bool := decide (p.a1 + 1 ≤ gB s)
def parP (s : Sp) (p : Px) : List Px := bif rightP s p then parL (par0 s p) (par1 s p) (upP s p (p.a0 + 1) p.a1) (upP s p p.a0 (p.a1 + 1)) 2 else []
theorem gB_one {s : Sp} (h : soundS s = true) (hn : s.n = 1) : gB s = 0 := by
  unfold gB; rw [h, cond_true, (top_one h hn).1]; rfl
theorem right_g {s : Sp} {p : Px} (h : rightP s p = true) : 0 ≤ p.a0 ∧ p.a0 ≤ gA s ∧ 0 ≤ p.a1 ∧ p.a1 ≤ gB s := by
  have h1 := right_bounds h
  have h2 := right_top h
  obtain ⟨t0, t1⟩ := top_g s
  omega
theorem gParents_ok (s : Sp) (p : Px) (hp : POk p) : PCall P 30 [spv s, pxv p] (pvl (parP s p)) := by
  have q1 := pRight_ok s p hp
  have qn := clip_nil
  have qc := fun l hl => clip_sl l hl
  cases hr : rightP s p
  · rw [hr] at q1
    have e : parP s p = [] := by unfold parP; rw [hr, cond_false]
    rw [e]
    refine PCall.of_awp tok mixed fn30 (Nat.le_of_ble_eq_true rfl) ?_
    (conv => whnf); (repeat' first | ((with_reducible refine Box.mk ?_); conv => whnf) | ((with_reducible refine And.intro (fun _ => ?_) (fun _ => ?_)) <;> conv => whnf) | ((with_reducible show AYld _ _ _ _ _); (refine AYld.of tok mixed ?_); conv => whnf) | ((with_reducible show forceH _ _); (refine (forceH_eq _ _).mpr ?_); conv => whnf) | ((with_reducible show ACall _ _ _ _ _); (refine ACall.of_pure (by assumption) (by rfl) ?_); conv => whnf) | ((with_reducible show Exists _); (refine ⟨_, ACall.of_pure (by assumption) (by rfl) ⟨rfl, rfl⟩, ?_⟩); conv => whnf) | ((with_reducible show ∃ L, drawR L _ = true ∧ _); (refine ⟨[], by kernel_rfl, ?_⟩); conv => whnf) | ((with_reducible show _ ∧ _ ∧ _); (refine ⟨by omega, by omega, ?_⟩); conv => whnf) | fail)
    all_goals first
      | contradiction
      | rfl
  · rw [hr] at q1
    have hs := right_sound hr
    have hg := right_g hr
    have hgl := g_le s
    have e : parP s p = parL (par0 s p) (par1 s p) (upP s p (p.a0 + 1) p.a1) (upP s p p.a0 (p.a1 + 1)) 2 := by unfold parP; rw [hr, cond_true]
    rw [e]
    have w0 : IntKind.i64.wrap (p.a0 + 1) = p.a0 + 1 := wrap_i64 (by omega) (by omega)
    have w1 : IntKind.i64.wrap (p.a1 + 1) = p.a1 + 1 := wrap_i64 (by omega) (by omega)
    have q2 : PCall P 47 [spv s, .agg [.int .i64 (IntKind.i64.wrap (p.a0 + 1)), .int .i64 p.a1]] (.bool (par0 s p)) := by
      rw [w0]
      refine pEq (isNode_ok s (p.a0 + 1) p.a1) (congrArg AV.bool ?_)
      rw [hs, Bool.true_and]
      unfold par0
      exact decide_eq_decide.2 (by omega)
    have q3 : PCall P 47 [spv s, .agg [.int .i64 p.a0, .int .i64 (IntKind.i64.wrap (p.a1 + 1))]] (.bool (par1 s p)) := by
      rw [w1]
      refine pEq (isNode_ok s p.a0 (p.a1 + 1)) (congrArg AV.bool ?_)
      rw [hs, Bool.true_and]
      unfold par1
      exact decide_eq_decide.2 (by omega)
    have q4 : PCall P 36 [spv s, pxv p, .agg [.int .i64 (IntKind.i64.wrap (p.a0 + 1)), .int .i64 p.a1]] (pxv (upP s p (p.a0 + 1) p.a1)) := by rw [w0]; exact up_ok s p _ _ hp
    have q5 : PCall P 36 [spv s, pxv p, .agg [.int .i64 p.a0, .int .i64 (IntKind.i64.wrap (p.a1 + 1))]] (pxv (upP s p p.a0 (p.a1 + 1))) := by rw [w1]; exact up_ok s p _ _ hp
    have hn := sound_n hs
    have h1 : s.n = 1 → par1 s p = false := fun h => by
      unfold par1
      have := gB_one hs h
      exact decide_eq_false (by omega)
    generalize par0 s p = b0 at *
    generalize par1 s p = b1 at *
    generalize upP s p (p.a0 + 1) p.a1 = x at *
    generalize upP s p p.a0 (p.a1 + 1) = y at *
    have hfin : s.n = 1 → parL b0 b1 x y 2 = parL b0 b1 x y 1 := fun h => by
      rw [h1 h]; show _ ++ [] = _; rw [List.append_nil]; rfl
    refine PCall.of_awp tok mixed fn30 (Nat.le_of_ble_eq_true rfl) ?_
    (conv => whnf); (repeat' first | ((with_reducible refine Box.mk ?_); conv => whnf) | ((with_reducible refine And.intro (fun _ => ?_) (fun _ => ?_)) <;> conv => whnf) | ((with_reducible show AYld _ _ _ _ _); (refine AYld.of tok mixed ?_); conv => whnf) | ((with_reducible show forceH _ _); (refine (forceH_eq _ _).mpr ?_); conv => whnf) | ((with_reducible show ACall _ _ _ _ _); (refine ACall.of_pure (by assumption) (by rfl) ?_); conv => whnf) | ((with_reducible show Exists _); (refine ⟨_, ACall.of_pure (by assumption) (by rfl) ⟨rfl, rfl⟩, ?_⟩); conv => whnf) | ((with_reducible show ∃ L, drawR L _ = true ∧ _); (refine ⟨[], by kernel_rfl, ?_⟩); conv => whnf) | ((with_reducible show _ ∧ _ ∧ _); (refine ⟨by omega, by omega, ?_⟩); conv => whnf) | fail)
    all_goals try contradiction
    refine aloopH (fun i : Nat => (i : Int) ≤ s.n) (fun i : Nat => [(2, .ptr 0 0), (3, .ptr 1 0), (5, pv1 (parL b0 b1 x y i)), (13, .int .i64 s.n), (14, .int .i64 i)]) (fun i => ph1 (parL b0 b1 x y i)) (fun i => s.n.toNat - i) 0 (by omega)
      (weak_to ⟨rfl, rfl, rfl, rfl, rfl, trivial⟩ rfl) ?_
    intro i hi
    have hi3 : i = 0 ∨ i = 1 ∨ i = 2 := by omega
    have c1 := qc [x] (Nat.le_of_ble_eq_true rfl)
    have c2 := qc [y] (Nat.le_of_ble_eq_true rfl)
    have c3 := qc [x, y] (Nat.le_of_ble_eq_true rfl)
    rcases hi3 with rfl | rfl | rfl
    · cases b0
      · (conv => whnf); (repeat' first | ((with_reducible refine Box.mk ?_); conv => whnf) | ((with_reducible refine And.intro (fun _ => ?_) (fun _ => ?_)) <;> conv => whnf) | ((with_reducible show AYld _ _ _ _ _); (refine AYld.of tok mixed ?_); conv => whnf) | ((with_reducible show forceH _ _); (refine (forceH_eq _ _).mpr ?_); conv => whnf) | ((with_reducible show ACall _ _ _ _ _); (refine ACall.of_pure (by assumption) (by rfl) ?_); conv => whnf) | ((with_reducible show Exists _); (refine ⟨_, ACall.of_pure (by assumption) (by rfl) ⟨rfl, rfl⟩, ?_⟩); conv => whnf) | ((with_reducible show ∃ L, drawR L _ = true ∧ _); (refine ⟨[], by kernel_rfl, ?_⟩); conv => whnf) | ((with_reducible show _ ∧ _ ∧ _); (refine ⟨by omega, by omega, ?_⟩); conv => whnf) | fail)
        all_goals try (exfalso; omega)
        exact ⟨1, by omega, by omega, weak_ren_to [(0, true), (1, true)] rfl rfl rfl ⟨rfl, rfl, rfl, rfl, rfl, trivial⟩⟩
      · (conv => whnf); (repeat' first | ((with_reducible refine Box.mk ?_); conv => whnf) | ((with_reducible refine And.intro (fun _ => ?_) (fun _ => ?_)) <;> conv => whnf) | ((with_reducible show AYld _ _ _ _ _); (refine AYld.of tok mixed ?_); conv => whnf) | ((with_reducible show forceH _ _); (refine (forceH_eq _ _).mpr ?_); conv => whnf) | ((with_reducible show ACall _ _ _ _ _); (refine ACall.of_pure (by assumption) (by rfl) ?_); conv => whnf) | ((with_reducible show Exists _); (refine ⟨_, ACall.of_pure (by assumption) (by rfl) ⟨rfl, rfl⟩, ?_⟩); conv => whnf) | ((with_reducible show ∃ L, drawR L _ = true ∧ _); (refine ⟨[], by kernel_rfl, ?_⟩); conv => whnf) | ((with_reducible show _ ∧ _ ∧ _); (refine ⟨by omega, by omega, ?_⟩); conv => whnf) | fail)
        all_goals try (exfalso; omega)
        refine ⟨fun c hc => by rw [List.mem_singleton.1 hc]; exact ⟨rfl, rfl⟩, fun h => (by cases h), fun _ => ⟨Nat.le_of_ble_eq_true rfl, Nat.le_of_ble_eq_true rfl, ?_⟩⟩
        (conv => whnf); (repeat' first | ((with_reducible refine Box.mk ?_); conv => whnf) | ((with_reducible refine And.intro (fun _ => ?_) (fun _ => ?_)) <;> conv => whnf) | ((with_reducible show AYld _ _ _ _ _); (refine AYld.of tok mixed ?_); conv => whnf) | ((with_reducible show forceH _ _); (refine (forceH_eq _ _).mpr ?_); conv => whnf) | ((with_reducible show ACall _ _ _ _ _); (refine ACall.of_pure (by assumption) (by rfl) ?_); conv => whnf) | ((with_reducible show Exists _); (refine ⟨_, ACall.of_pure (by assumption) (by rfl) ⟨rfl, rfl⟩, ?_⟩); conv => whnf) | ((with_reducible show ∃ L, drawR L _ = true ∧ _); (refine ⟨[], by kernel_rfl, ?_⟩); conv => whnf) | ((with_reducible show _ ∧ _ ∧ _); (refine ⟨by omega, by omega, ?_⟩); conv => whnf) | fail)
        exact ⟨1, by omega, by omega, weak_ren_to [(0, true), (1, true), (4, true)] rfl rfl rfl ⟨rfl, rfl, rfl, rfl, rfl, trivial⟩⟩
    · by_cases hn1 : s.n = 1
      · rw [hfin hn1]
        cases b0
        · (conv => whnf); (repeat' first | ((with_reducible refine Box.mk ?_); conv => whnf) | ((with_reducible refine And.intro (fun _ => ?_) (fun _ => ?_)) <;> conv => whnf) | ((with_reducible show AYld _ _ _ _ _); (refine AYld.of tok mixed ?_); conv => whnf) | ((with_reducible show forceH _ _); (refine (forceH_eq _ _).mpr ?_); conv => whnf) | ((with_reducible show ACall _ _ _ _ _); (refine ACall.of_pure (by assumption) (by rfl) ?_); conv => whnf) | ((with_reducible show Exists _); (refine ⟨_, ACall.of_pure (by assumption) (by rfl) ⟨rfl, rfl⟩, ?_⟩); conv => whnf) | ((with_reducible show ∃ L, drawR L _ = true ∧ _); (refine ⟨[], by kernel_rfl, ?_⟩); conv => whnf) | ((with_reducible show _ ∧ _ ∧ _); (refine ⟨by omega, by omega, ?_⟩); conv => whnf) | fail)
          all_goals try (exfalso; omega)
          rfl
        · (conv => whnf); (repeat' first | ((with_reducible refine Box.mk ?_); conv => whnf) | ((with_reducible refine And.intro (fun _ => ?_) (fun _ => ?_)) <;> conv => whnf) | ((with_reducible show AYld _ _ _ _ _); (refine AYld.of tok mixed ?_); conv => whnf) | ((with_reducible show forceH _ _); (refine (forceH_eq _ _).mpr ?_); conv => whnf) | ((with_reducible show ACall _ _ _ _ _); (refine ACall.of_pure (by assumption) (by rfl) ?_); conv => whnf) | ((with_reducible show Exists _); (refine ⟨_, ACall.of_pure (by assumption) (by rfl) ⟨rfl, rfl⟩, ?_⟩); conv => whnf) | ((with_reducible show ∃ L, drawR L _ = true ∧ _); (refine ⟨[], by kernel_rfl, ?_⟩); conv => whnf) | ((with_reducible show _ ∧ _ ∧ _); (refine ⟨by omega, by omega, ?_⟩); conv => whnf) | fail)
          all_goals try (exfalso; omega)
          refine ACall.freeze 2 rfl rfl (ACall.of_pure c1 rfl ?_)
          (conv => whnf); (repeat' first | ((with_reducible refine Box.mk ?_); conv => whnf) | ((with_reducible refine And.intro (fun _ => ?_) (fun _ => ?_)) <;> conv => whnf) | ((with_reducible show AYld _ _ _ _ _); (refine AYld.of tok mixed ?_); conv => whnf) | ((with_reducible show forceH _ _); (refine (forceH_eq _ _).mpr ?_); conv => whnf) | ((with_reducible show ACall _ _ _ _ _); (refine ACall.of_pure (by assumption) (by rfl) ?_); conv => whnf) | ((with_reducible show Exists _); (refine ⟨_, ACall.of_pure (by assumption) (by rfl) ⟨rfl, rfl⟩, ?_⟩); conv => whnf) | ((with_reducible show ∃ L, drawR L _ = true ∧ _); (refine ⟨[], by kernel_rfl, ?_⟩); conv => whnf) | ((with_reducible show _ ∧ _ ∧ _); (refine ⟨by omega, by omega, ?_⟩); conv => whnf) | fail)
          rfl
      · cases b0 <;> cases b1
        · (conv => whnf); (repeat' first | ((with_reducible refine Box.mk ?_); conv => whnf) | ((with_reducible refine And.intro (fun _ => ?_) (fun _ => ?_)) <;> conv => whnf) | ((with_reducible show AYld _ _ _ _ _); (refine AYld.of tok mixed ?_); conv => whnf) | ((with_reducible show forceH _ _); (refine (forceH_eq _ _).mpr ?_); conv => whnf) | ((with_reducible show ACall _ _ _ _ _); (refine ACall.of_pure (by assumption) (by rfl) ?_); conv => whnf) | ((with_reducible show Exists _); (refine ⟨_, ACall.of_pure (by assumption) (by rfl) ⟨rfl, rfl⟩, ?_⟩); conv => whnf) | ((with_reducible show ∃ L, drawR L _ = true ∧ _); (refine ⟨[], by kernel_rfl, ?_⟩); conv => whnf) | ((with_reducible show _ ∧ _ ∧ _); (refine ⟨by omega, by omega, ?_⟩); conv => whnf) | fail)
          all_goals try (exfalso; omega)
          exact ⟨2, by omega, by omega, weak_ren_to [(0, true), (1, true)] rfl rfl rfl ⟨rfl, rfl, rfl, rfl, rfl, trivial⟩⟩
        · (conv => whnf); (repeat' first | ((with_reducible refine Box.mk ?_); conv => whnf) | ((with_reducible refine And.intro (fun _ => ?_) (fun _ => ?_)) <;> conv => whnf) | ((with_reducible show AYld _ _ _ _ _); (refine AYld.of tok mixed ?_); conv => whnf) | ((with_reducible show forceH _ _); (refine (forceH_eq _ _).mpr ?_); conv => whnf) | ((with_reducible show ACall _ _ _ _ _); (refine ACall.of_pure (by assumption) (by rfl) ?_); conv => whnf) | ((with_reducible show Exists _); (refine ⟨_, ACall.of_pure (by assumption) (by rfl) ⟨rfl, rfl⟩, ?_⟩); conv => whnf) | ((with_reducible show ∃ L, drawR L _ = true ∧ _); (refine ⟨[], by kernel_rfl, ?_⟩); conv => whnf) | ((with_reducible show _ ∧ _ ∧ _); (refine ⟨by omega, by omega, ?_⟩); conv => whnf) | fail)
          all_goals try (exfalso; omega)
          refine ⟨fun c hc => by rw [List.mem_singleton.1 hc]; exact ⟨rfl, rfl⟩, fun h => (by cases h), fun _ => ⟨Nat.le_of_ble_eq_true rfl, Nat.le_of_ble_eq_true rfl, ?_⟩⟩
          (conv => whnf); (repeat' first | ((with_reducible refine Box.mk ?_); conv => whnf) | ((with_reducible refine And.intro (fun _ => ?_) (fun _ => ?_)) <;> conv => whnf) | ((with_reducible show AYld _ _ _ _ _); (refine AYld.of tok mixed ?_); conv => whnf) | ((with_reducible show forceH _ _); (refine (forceH_eq _ _).mpr ?_); conv => whnf) | ((with_reducible show ACall _ _ _ _ _); (refine ACall.of_pure (by assumption) (by rfl) ?_); conv => whnf) | ((with_reducible show Exists _); (refine ⟨_, ACall.of_pure (by assumption) (by rfl) ⟨rfl, rfl⟩, ?_⟩); conv => whnf) | ((with_reducible show ∃ L, drawR L _ = true ∧ _); (refine ⟨[], by kernel_rfl, ?_⟩); conv => whnf) | ((with_reducible show _ ∧ _ ∧ _); (refine ⟨by omega, by omega, ?_⟩); conv => whnf) | fail)
          exact ⟨2, by omega, by omega, weak_ren_to [(0, true), (1, true), (4, true)] rfl rfl rfl ⟨rfl, rfl, rfl, rfl, rfl, trivial⟩⟩
        · (conv => whnf); (repeat' first | ((with_reducible refine Box.mk ?_); conv => whnf) | ((with_reducible refine And.intro (fun _ => ?_) (fun _ => ?_)) <;> conv => whnf) | ((with_reducible show AYld _ _ _ _ _); (refine AYld.of tok mixed ?_); conv => whnf) | ((with_reducible show forceH _ _); (refine (forceH_eq _ _).mpr ?_); conv => whnf) | ((with_reducible show ACall _ _ _ _ _); (refine ACall.of_pure (by assumption) (by rfl) ?_); conv => whnf) | ((with_reducible show Exists _); (refine ⟨_, ACall.of_pure (by assumption) (by rfl) ⟨rfl, rfl⟩, ?_⟩); conv => whnf) | ((with_reducible show ∃ L, drawR L _ = true ∧ _); (refine ⟨[], by kernel_rfl, ?_⟩); conv => whnf) | ((with_reducible show _ ∧ _ ∧ _); (refine ⟨by omega, by omega, ?_⟩); conv => whnf) | fail)
          all_goals try (exfalso; omega)
          exact ⟨2, by omega, by omega, weak_ren_to [(0, true), (1, true), (2, true)] rfl rfl rfl ⟨rfl, rfl, rfl, rfl, rfl, trivial⟩⟩
        · (conv => whnf); (repeat' first | ((with_reducible refine Box.mk ?_); conv => whnf) | ((with_reducible refine And.intro (fun _ => ?_) (fun _ => ?_)) <;> conv => whnf) | ((with_reducible show AYld _ _ _ _ _); (refine AYld.of tok mixed ?_); conv => whnf) | ((with_reducible show forceH _ _); (refine (forceH_eq _ _).mpr ?_); conv => whnf) | ((with_reducible show ACall _ _ _ _ _); (refine ACall.of_pure (by assumption) (by rfl) ?_); conv => whnf) | ((with_reducible show Exists _); (refine ⟨_, ACall.of_pure (by assumption) (by rfl) ⟨rfl, rfl⟩, ?_⟩); conv => whnf) | ((with_reducible show ∃ L, drawR L _ = true ∧ _); (refine ⟨[], by kernel_rfl, ?_⟩); conv => whnf) | ((with_reducible show _ ∧ _ ∧ _); (refine ⟨by omega, by omega, ?_⟩); conv => whnf) | fail)
          all_goals try (exfalso; omega)
          refine ⟨fun c hc => by rw [List.mem_singleton.1 hc]; exact ⟨rfl, rfl⟩, Nat.le_of_ble_eq_true rfl, Nat.le_of_ble_eq_true rfl, ?_⟩
          (conv => whnf); (repeat' first | ((with_reducible refine Box.mk ?_); conv => whnf) | ((with_reducible refine And.intro (fun _ => ?_) (fun _ => ?_)) <;> conv => whnf) | ((with_reducible show AYld _ _ _ _ _); (refine AYld.of tok mixed ?_); conv => whnf) | ((with_reducible show forceH _ _); (refine (forceH_eq _ _).mpr ?_); conv => whnf) | ((with_reducible show ACall _ _ _ _ _); (refine ACall.of_pure (by assumption) (by rfl) ?_); conv => whnf) | ((with_reducible show Exists _); (refine ⟨_, ACall.of_pure (by assumption) (by rfl) ⟨rfl, rfl⟩, ?_⟩); conv => whnf) | ((with_reducible show ∃ L, drawR L _ = true ∧ _); (refine ⟨[], by kernel_rfl, ?_⟩); conv => whnf) | ((with_reducible show _ ∧ _ ∧ _); (refine ⟨by omega, by omega, ?_⟩); conv => whnf) | fail)
          exact ⟨2, by omega, by omega, weak_ren_to [(0, true), (1, true), (5, true)] rfl rfl rfl ⟨rfl, rfl, rfl, rfl, rfl, trivial⟩⟩
    · cases b0 <;> cases b1
      · (conv => whnf); (repeat' first | ((with_reducible refine Box.mk ?_); conv => whnf) | ((with_reducible refine And.intro (fun _ => ?_) (fun _ => ?_)) <;> conv => whnf) | ((with_reducible show AYld _ _ _ _ _); (refine AYld.of tok mixed ?_); conv => whnf) | ((with_reducible show forceH _ _); (refine (forceH_eq _ _).mpr ?_); conv => whnf) | ((with_reducible show ACall _ _ _ _ _); (refine ACall.of_pure (by assumption) (by rfl) ?_); conv => whnf) | ((with_reducible show Exists _); (refine ⟨_, ACall.of_pure (by assumption) (by rfl) ⟨rfl, rfl⟩, ?_⟩); conv => whnf) | ((with_reducible show ∃ L, drawR L _ = true ∧ _); (refine ⟨[], by kernel_rfl, ?_⟩); conv => whnf) | ((with_reducible show _ ∧ _ ∧ _); (refine ⟨by omega, by omega, ?_⟩); conv => whnf) | fail)
        all_goals try (exfalso; omega)
        rfl
      · (conv => whnf); (repeat' first | ((with_reducible refine Box.mk ?_); conv => whnf) | ((with_reducible refine And.intro (fun _ => ?_) (fun _ => ?_)) <;> conv => whnf) | ((with_reducible show AYld _ _ _ _ _); (refine AYld.of tok mixed ?_); conv => whnf) | ((with_reducible show forceH _ _); (refine (forceH_eq _ _).mpr ?_); conv => whnf) | ((with_reducible show ACall _ _ _ _ _); (refine ACall.of_pure (by assumption) (by rfl) ?_); conv => whnf) | ((with_reducible show Exists _); (refine ⟨_, ACall.of_pure (by assumption) (by rfl) ⟨rfl, rfl⟩, ?_⟩); conv => whnf) | ((with_reducible show ∃ L, drawR L _ = true ∧ _); (refine ⟨[], by kernel_rfl, ?_⟩); conv => whnf) | ((with_reducible show _ ∧ _ ∧ _); (refine ⟨by omega, by omega, ?_⟩); conv => whnf) | fail)
        all_goals try (exfalso; omega)
        refine ACall.freeze 2 rfl rfl (ACall.of_pure c2 rfl ?_)
        (conv => whnf); (repeat' first | ((with_reducible refine Box.mk ?_); conv => whnf) | ((with_reducible refine And.intro (fun _ => ?_) (fun _ => ?_)) <;> conv => whnf) | ((with_reducible show AYld _ _ _ _ _); (refine AYld.of tok mixed ?_); conv => whnf) | ((with_reducible show forceH _ _); (refine (forceH_eq _ _).mpr ?_); conv => whnf) | ((with_reducible show ACall _ _ _ _ _); (refine ACall.of_pure (by assumption) (by rfl) ?_); conv => whnf) | ((with_reducible show Exists _); (refine ⟨_, ACall.of_pure (by assumption) (by rfl) ⟨rfl, rfl⟩, ?_⟩); conv => whnf) | ((with_reducible show ∃ L, drawR L _ = true ∧ _); (refine ⟨[], by kernel_rfl, ?_⟩); conv => whnf) | ((with_reducible show _ ∧ _ ∧ _); (refine ⟨by omega, by omega, ?_⟩); conv => whnf) | fail)
        rfl
      · (conv => whnf); (repeat' first | ((with_reducible refine Box.mk ?_); conv => whnf) | ((with_reducible refine And.intro (fun _ => ?_) (fun _ => ?_)) <;> conv => whnf) | ((with_reducible show AYld _ _ _ _ _); (refine AYld.of tok mixed ?_); conv => whnf) | ((with_reducible show forceH _ _); (refine (forceH_eq _ _).mpr ?_); conv => whnf) | ((with_reducible show ACall _ _ _ _ _); (refine ACall.of_pure (by assumption) (by rfl) ?_); conv => whnf) | ((with_reducible show Exists _); (refine ⟨_, ACall.of_pure (by assumption) (by rfl) ⟨rfl, rfl⟩, ?_⟩); conv => whnf) | ((with_reducible show ∃ L, drawR L _ = true ∧ _); (refine ⟨[], by kernel_rfl, ?_⟩); conv => whnf) | ((with_reducible show _ ∧ _ ∧ _); (refine ⟨by omega, by omega, ?_⟩); conv => whnf) | fail)
        all_goals try (exfalso; omega)
        refine ACall.freeze 2 rfl rfl (ACall.of_pure c1 rfl ?_)
        (conv => whnf); (repeat' first | ((with_reducible refine Box.mk ?_); conv => whnf) | ((with_reducible refine And.intro (fun _ => ?_) (fun _ => ?_)) <;> conv => whnf) | ((with_reducible show AYld _ _ _ _ _); (refine AYld.of tok mixed ?_); conv => whnf) | ((with_reducible show forceH _ _); (refine (forceH_eq _ _).mpr ?_); conv => whnf) | ((with_reducible show ACall _ _ _ _ _); (refine ACall.of_pure (by assumption) (by rfl) ?_); conv => whnf) | ((with_reducible show Exists _); (refine ⟨_, ACall.of_pure (by assumption) (by rfl) ⟨rfl, rfl⟩, ?_⟩); conv => whnf) | ((with_reducible show ∃ L, drawR L _ = true ∧ _); (refine ⟨[], by kernel_rfl, ?_⟩); conv => whnf) | ((with_reducible show _ ∧ _ ∧ _); (refine ⟨by omega, by omega, ?_⟩); conv => whnf) | fail)
        rfl
      · (conv => whnf); (repeat' first | ((with_reducible refine Box.mk ?_); conv => whnf) | ((with_reducible refine And.intro (fun _ => ?_) (fun _ => ?_)) <;> conv => whnf) | ((with_reducible show AYld _ _ _ _ _); (refine AYld.of tok mixed ?_); conv => whnf) | ((with_reducible show forceH _ _); (refine (forceH_eq _ _).mpr ?_); conv => whnf) | ((with_reducible show ACall _ _ _ _ _); (refine ACall.of_pure (by assumption) (by rfl) ?_); conv => whnf) | ((with_reducible show Exists _); (refine ⟨_, ACall.of_pure (by assumption) (by rfl) ⟨rfl, rfl⟩, ?_⟩); conv => whnf) | ((with_reducible show ∃ L, drawR L _ = true ∧ _); (refine ⟨[], by kernel_rfl, ?_⟩); conv => whnf) | ((with_reducible show _ ∧ _ ∧ _); (refine ⟨by omega, by omega, ?_⟩); conv => whnf) | fail)
        all_goals try (exfalso; omega)
        refine ACall.freeze 2 rfl rfl (ACall.of_pure c3 rfl ?_)
        (conv => whnf); (repeat' first | ((with_reducible refine Box.mk ?_); conv => whnf) | ((with_reducible refine And.intro (fun _ => ?_) (fun _ => ?_)) <;> conv => whnf) | ((with_reducible show AYld _ _ _ _ _); (refine AYld.of tok mixed ?_); conv => whnf) | ((with_reducible show forceH _ _); (refine (forceH_eq _ _).mpr ?_); conv => whnf) | ((with_reducible show ACall _ _ _ _ _); (refine ACall.of_pure (by assumption) (by rfl) ?_); conv => whnf) | ((with_reducible show Exists _); (refine ⟨_, ACall.of_pure (by assumption) (by rfl) ⟨rfl, rfl⟩, ?_⟩); conv => whnf) | ((with_reducible show ∃ L, drawR L _ = true ∧ _); (refine ⟨[], by kernel_rfl, ?_⟩); conv => whnf) | ((with_reducible show _ ∧ _ ∧ _); (refine ⟨by omega, by omega, ?_⟩); conv => whnf) | fail)
        rfl
theorem rParents_ok (s : Sp) (p : Px) (hp : POk p) : PCall P 31 [spv s, pxv p] (pvl (parP s p)) := by
  have q1 := r9Right_ok s p hp
  cases hr : rightP s p
  · rw [hr] at q1
    have e : parP s p = [] := by unfold parP; rw [hr, cond_false]
    rw [e]
    refine PCall.of_awp tok mixed fn31 (Nat.le_of_ble_eq_true rfl) ?_
    (conv => whnf); (repeat' first | ((with_reducible refine Box.mk ?_); conv => whnf) | ((with_reducible refine And.intro (fun _ => ?_) (fun _ => ?_)) <;> conv => whnf) | ((with_reducible show AYld _ _ _ _ _); (refine AYld.of tok mixed ?_); conv => whnf) | ((with_reducible show forceH _ _); (refine (forceH_eq _ _).mpr ?_); conv => whnf) | ((with_reducible show ACall _ _ _ _ _); (refine ACall.of_pure (by assumption) (by rfl) ?_); conv => whnf) | ((with_reducible show Exists _); (refine ⟨_, ACall.of_pure (by assumption) (by rfl) ⟨rfl, rfl⟩, ?_⟩); conv => whnf) | ((with_reducible show ∃ L, drawR L _ = true ∧ _); (refine ⟨[], by kernel_rfl, ?_⟩); conv => whnf) | ((with_reducible show _ ∧ _ ∧ _); (refine ⟨by omega, by omega, ?_⟩); conv => whnf) | fail)
    refine aloopH (fun _ => True) (fun _ : Unit => [(2, .ptr 0 0), (3, .ptr 1 0), (5, .nils), (6, .int .i64 0)]) (fun _ H => H) (fun _ => 0) () trivial (weak_to ⟨rfl, rfl, rfl, rfl, trivial⟩ rfl) ?_
    intro _ _
    (conv => whnf); (repeat' first | ((with_reducible refine Box.mk ?_); conv => whnf) | ((with_reducible refine And.intro (fun _ => ?_) (fun _ => ?_)) <;> conv => whnf) | ((with_reducible show AYld _ _ _ _ _); (refine AYld.of tok mixed ?_); conv => whnf) | ((with_reducible show forceH _ _); (refine (forceH_eq _ _).mpr ?_); conv => whnf) | ((with_reducible show ACall _ _ _ _ _); (refine ACall.of_pure (by assumption) (by rfl) ?_); conv => whnf) | ((with_reducible show Exists _); (refine ⟨_, ACall.of_pure (by assumption) (by rfl) ⟨rfl, rfl⟩, ?_⟩); conv => whnf) | ((with_reducible show ∃ L, drawR L _ = true ∧ _); (refine ⟨[], by kernel_rfl, ?_⟩); conv => whnf) | ((with_reducible show _ ∧ _ ∧ _); (refine ⟨by omega, by omega, ?_⟩); conv => whnf) | fail)
    all_goals first
      | contradiction
      | rfl
      | (exfalso; omega)
  · rw [hr] at q1
    have hs := right_sound hr
    have hg := right_g hr
    have hgl := g_le s
    obtain ⟨t0, t1⟩ := top_g s
    have e : parP s p = parL (par0 s p) (par1 s p) (upP s p (p.a0 + 1) p.a1) (upP s p p.a0 (p.a1 + 1)) 2 := by unfold parP; rw [hr, cond_true]
    rw [e]
    have w0 : IntKind.i64.wrap (p.a0 + 1) = p.a0 + 1 := wrap_i64 (by omega) (by omega)
    have w1 : IntKind.i64.wrap (p.a1 + 1) = p.a1 + 1 := wrap_i64 (by omega) (by omega)
    have r0 : rightP s (upP s p (p.a0 + 1) p.a1) = par0 s p := by
      unfold par0
      by_cases h : p.a0 + 1 ≤ gA s
      · rw [decide_eq_true h]
        exact (over_right (up_some hp ⟨hr, by omega, by omega, by omega, by omega⟩).2.2).1
      · rw [decide_eq_false h, up_none (fun hc => h (by omega)), zero_notright]
    have r1 : rightP s (upP s p p.a0 (p.a1 + 1)) = par1 s p := by
      unfold par1
      by_cases h : p.a1 + 1 ≤ gB s
      · rw [decide_eq_true h]
        exact (over_right (up_some hp ⟨hr, by omega, by omega, by omega, by omega⟩).2.2).1
      · rw [decide_eq_false h, up_none (fun hc => h (by omega)), zero_notright]
    have q2 := r9Right_ok s _ (upP_ok (s := s) hp (p.a0 + 1) p.a1)
    have q3 := r9Right_ok s _ (upP_ok (s := s) hp p.a0 (p.a1 + 1))
    rw [r0] at q2
    rw [r1] at q3
    have q4 : PCall P 50 [spv s, pxv p, .agg [.int .i64 (IntKind.i64.wrap (p.a0 + 1)), .int .i64 p.a1]] (pxv (upP s p (p.a0 + 1) p.a1)) := by rw [w0]; exact r9Up_ok s p _ _ hp
    have q5 : PCall P 50 [spv s, pxv p, .agg [.int .i64 p.a0, .int .i64 (IntKind.i64.wrap (p.a1 + 1))]] (pxv (upP s p p.a0 (p.a1 + 1))) := by rw [w1]; exact r9Up_ok s p _ _ hp
    generalize par0 s p = b0 at *
    generalize par1 s p = b1 at *
    generalize upP s p (p.a0 + 1) p.a1 = x at *
    generalize upP s p p.a0 (p.a1 + 1) = y at *
    refine PCall.of_awp tok mixed fn31 (Nat.le_of_ble_eq_true rfl) ?_
    (conv => whnf); (repeat' first | ((with_reducible refine Box.mk ?_); conv => whnf) | ((with_reducible refine And.intro (fun _ => ?_) (fun _ => ?_)) <;> conv => whnf) | ((with_reducible show AYld _ _ _ _ _); (refine AYld.of tok mixed ?_); conv => whnf) | ((with_reducible show forceH _ _); (refine (forceH_eq _ _).mpr ?_); conv => whnf) | ((with_reducible show ACall _ _ _ _ _); (refine ACall.of_pure (by assumption) (by rfl) ?_); conv => whnf) | ((with_reducible show Exists _); (refine ⟨_, ACall.of_pure (by assumption) (by rfl) ⟨rfl, rfl⟩, ?_⟩); conv => whnf) | ((with_reducible show ∃ L, drawR L _ = true ∧ _); (refine ⟨[], by kernel_rfl, ?_⟩); conv => whnf) | ((with_reducible show _ ∧ _ ∧ _); (refine ⟨by omega, by omega, ?_⟩); conv => whnf) | fail)
    refine aloopH (fun i : Nat => i ≤ 2) (fun i : Nat => [(2, .ptr 0 0), (3, .ptr 1 0), (5, pv1 (parL b0 b1 x y i)), (6, .int .i64 i)]) (fun i => ph1 (parL b0 b1 x y i)) (fun i => 2 - i) 0 (by omega)
      (weak_to ⟨rfl, rfl, rfl, rfl, trivial⟩ rfl) ?_
    intro i hi
    have hi3 : i = 0 ∨ i = 1 ∨ i = 2 := by omega
    rcases hi3 with rfl | rfl | rfl
    · cases b0
      · (conv => whnf); (repeat' first | ((with_reducible refine Box.mk ?_); conv => whnf) | ((with_reducible refine And.intro (fun _ => ?_) (fun _ => ?_)) <;> conv => whnf) | ((with_reducible show AYld _ _ _ _ _); (refine AYld.of tok mixed ?_); conv => whnf) | ((with_reducible show forceH _ _); (refine (forceH_eq _ _).mpr ?_); conv => whnf) | ((with_reducible show ACall _ _ _ _ _); (refine ACall.of_pure (by assumption) (by rfl) ?_); conv => whnf) | ((with_reducible show Exists _); (refine ⟨_, ACall.of_pure (by assumption) (by rfl) ⟨rfl, rfl⟩, ?_⟩); conv => whnf) | ((with_reducible show ∃ L, drawR L _ = true ∧ _); (refine ⟨[], by kernel_rfl, ?_⟩); conv => whnf) | ((with_reducible show _ ∧ _ ∧ _); (refine ⟨by omega, by omega, ?_⟩); conv => whnf) | fail)
        all_goals try (exfalso; omega)
        exact ⟨1, by omega, by omega, weak_ren_to [(0, true), (1, true)] rfl rfl rfl ⟨rfl, rfl, rfl, rfl, trivial⟩⟩
      · (conv => whnf); (repeat' first | ((with_reducible refine Box.mk ?_); conv => whnf) | ((with_reducible refine And.intro (fun _ => ?_) (fun _ => ?_)) <;> conv => whnf) | ((with_reducible show AYld _ _ _ _ _); (refine AYld.of tok mixed ?_); conv => whnf) | ((with_reducible show forceH _ _); (refine (forceH_eq _ _).mpr ?_); conv => whnf) | ((with_reducible show ACall _ _ _ _ _); (refine ACall.of_pure (by assumption) (by rfl) ?_); conv => whnf) | ((with_reducible show Exists _); (refine ⟨_, ACall.of_pure (by assumption) (by rfl) ⟨rfl, rfl⟩, ?_⟩); conv => whnf) | ((with_reducible show ∃ L, drawR L _ = true ∧ _); (refine ⟨[], by kernel_rfl, ?_⟩); conv => whnf) | ((with_reducible show _ ∧ _ ∧ _); (refine ⟨by omega, by omega, ?_⟩); conv => whnf) | fail)
        all_goals try (exfalso; omega)
        refine ⟨fun c hc => by rw [List.mem_singleton.1 hc]; exact ⟨rfl, rfl⟩, fun h => (by cases h), fun _ => ⟨Nat.le_of_ble_eq_true rfl, Nat.le_of_ble_eq_true rfl, ?_⟩⟩
        (conv => whnf); (repeat' first | ((with_reducible refine Box.mk ?_); conv => whnf) | ((with_reducible refine And.intro (fun _ => ?_) (fun _ => ?_)) <;> conv => whnf) | ((with_reducible show AYld _ _ _ _ _); (refine AYld.of tok mixed ?_); conv => whnf) | ((with_reducible show forceH _ _); (refine (forceH_eq _ _).mpr ?_); conv => whnf) | ((with_reducible show ACall _ _ _ _ _); (refine ACall.of_pure (by assumption) (by rfl) ?_); conv => whnf) | ((with_reducible show Exists _); (refine ⟨_, ACall.of_pure (by assumption) (by rfl) ⟨rfl, rfl⟩, ?_⟩); conv => whnf) | ((with_reducible show ∃ L, drawR L _ = true ∧ _); (refine ⟨[], by kernel_rfl, ?_⟩); conv => whnf) | ((with_reducible show _ ∧ _ ∧ _); (refine ⟨by omega, by omega, ?_⟩); conv => whnf) | fail)
        exact ⟨1, by omega, by omega, weak_ren_to [(0, true), (1, true), (5, true)] rfl rfl rfl ⟨rfl, rfl, rfl, rfl, trivial⟩⟩
    · cases b0 <;> cases b1
      · (conv => whnf); (repeat' first | ((with_reducible refine Box.mk ?_); conv => whnf) | ((with_reducible refine And.intro (fun _ => ?_) (fun _ => ?_)) <;> conv => whnf) | ((with_reducible show AYld _ _ _ _ _); (refine AYld.of tok mixed ?_); conv => whnf) | ((with_reducible show forceH _ _); (refine (forceH_eq _ _).mpr ?_); conv => whnf) | ((with_reducible show ACall _ _ _ _ _); (refine ACall.of_pure (by assumption) (by rfl) ?_); conv => whnf) | ((with_reducible show Exists _); (refine ⟨_, ACall.of_pure (by assumption) (by rfl) ⟨rfl, rfl⟩, ?_⟩); conv => whnf) | ((with_reducible show ∃ L, drawR L _ = true ∧ _); (refine ⟨[], by kernel_rfl, ?_⟩); conv => whnf) | ((with_reducible show _ ∧ _ ∧ _); (refine ⟨by omega, by omega, ?_⟩); conv => whnf) | fail)
        all_goals try (exfalso; omega)
        exact ⟨2, by omega, by omega, weak_ren_to [(0, true), (1, true)] rfl rfl rfl ⟨rfl, rfl, rfl, rfl, trivial⟩⟩
      · (conv => whnf); (repeat' first | ((with_reducible refine Box.mk ?_); conv => whnf) | ((with_reducible refine And.intro (fun _ => ?_) (fun _ => ?_)) <;> conv => whnf) | ((with_reducible show AYld _ _ _ _ _); (refine AYld.of tok mixed ?_); conv => whnf) | ((with_reducible show forceH _ _); (refine (forceH_eq _ _).mpr ?_); conv => whnf) | ((with_reducible show ACall _ _ _ _ _); (refine ACall.of_pure (by assumption) (by rfl) ?_); conv => whnf) | ((with_reducible show Exists _); (refine ⟨_, ACall.of_pure (by assumption) (by rfl) ⟨rfl, rfl⟩, ?_⟩); conv => whnf) | ((with_reducible show ∃ L, drawR L _ = true ∧ _); (refine ⟨[], by kernel_rfl, ?_⟩); conv => whnf) | ((with_reducible show _ ∧ _ ∧ _); (refine ⟨by omega, by omega, ?_⟩); conv => whnf) | fail)
        all_goals try (exfalso; omega)
        refine ⟨fun c hc => by rw [List.mem_singleton.1 hc]; exact ⟨rfl, rfl⟩, fun h => (by cases h), fun _ => ⟨Nat.le_of_ble_eq_true rfl, Nat.le_of_ble_eq_true rfl, ?_⟩⟩
        (conv => whnf); (repeat' first | ((with_reducible refine Box.mk ?_); conv => whnf) | ((with_reducible refine And.intro (fun _ => ?_) (fun _ => ?_)) <;> conv => whnf) | ((with_reducible show AYld _ _ _ _ _); (refine AYld.of tok mixed ?_); conv => whnf) | ((with_reducible show forceH _ _); (refine (forceH_eq _ _).mpr ?_); conv => whnf) | ((with_reducible show ACall _ _ _ _ _); (refine ACall.of_pure (by assumption) (by rfl) ?_); conv => whnf) | ((with_reducible show Exists _); (refine ⟨_, ACall.of_pure (by assumption) (by rfl) ⟨rfl, rfl⟩, ?_⟩); conv => whnf) | ((with_reducible show ∃ L, drawR L _ = true ∧ _); (refine ⟨[], by kernel_rfl, ?_⟩); conv => whnf) | ((with_reducible show _ ∧ _ ∧ _); (refine ⟨by omega, by omega, ?_⟩); conv => whnf) | fail)
        exact ⟨2, by omega, by omega, weak_ren_to [(0, true), (1, true), (5, true)] rfl rfl rfl ⟨rfl, rfl, rfl, rfl, trivial⟩⟩
      · (conv => whnf); (repeat' first | ((with_reducible refine Box.mk ?_); conv => whnf) | ((with_reducible refine And.intro (fun _ => ?_) (fun _ => ?_)) <;> conv => whnf) | ((with_reducible show AYld _ _ _ _ _); (refine AYld.of tok mixed ?_); conv => whnf) | ((with_reducible show forceH _ _); (refine (forceH_eq _ _).mpr ?_); conv => whnf) | ((with_reducible show ACall _ _ _ _ _); (refine ACall.of_pure (by assumption) (by rfl) ?_); conv => whnf) | ((with_reducible show Exists _); (refine ⟨_, ACall.of_pure (by assumption) (by rfl) ⟨rfl, rfl⟩, ?_⟩); conv => whnf) | ((with_reducible show ∃ L, drawR L _ = true ∧ _); (refine ⟨[], by kernel_rfl, ?_⟩); conv => whnf) | ((with_reducible show _ ∧ _ ∧ _); (refine ⟨by omega, by omega, ?_⟩); conv => whnf) | fail)
        all_goals try (exfalso; omega)
        exact ⟨2, by omega, by omega, weak_ren_to [(0, true), (1, true), (2, true)] rfl rfl rfl ⟨rfl, rfl, rfl, rfl, trivial⟩⟩
      · (conv => whnf); (repeat' first | ((with_reducible refine Box.mk ?_); conv => whnf) | ((with_reducible refine And.intro (fun _ => ?_) (fun _ => ?_)) <;> conv => whnf) | ((with_reducible show AYld _ _ _ _ _); (refine AYld.of tok mixed ?_); conv => whnf) | ((with_reducible show forceH _ _); (refine (forceH_eq _ _).mpr ?_); conv => whnf) | ((with_reducible show ACall _ _ _ _ _); (refine ACall.of_pure (by assumption) (by rfl) ?_); conv => whnf) | ((with_reducible show Exists _); (refine ⟨_, ACall.of_pure (by assumption) (by rfl) ⟨rfl, rfl⟩, ?_⟩); conv => whnf) | ((with_reducible show ∃ L, drawR L _ = true ∧ _); (refine ⟨[], by kernel_rfl, ?_⟩); conv => whnf) | ((with_reducible show _ ∧ _ ∧ _); (refine ⟨by omega, by omega, ?_⟩); conv => whnf) | fail)
        all_goals try (exfalso; omega)
        refine ⟨fun c hc => by rw [List.mem_singleton.1 hc]; exact ⟨rfl, rfl⟩, Nat.le_of_ble_eq_true rfl, Nat.le_of_ble_eq_true rfl, ?_⟩
        (conv => whnf); (repeat' first | ((with_reducible refine Box.mk ?_); conv => whnf) | ((with_reducible refine And.intro (fun _ => ?_) (fun _ => ?_)) <;> conv => whnf) | ((with_reducible show AYld _ _ _ _ _); (refine AYld.of tok mixed ?_); conv => whnf) | ((with_reducible show forceH _ _); (refine (forceH_eq _ _).mpr ?_); conv => whnf) | ((with_reducible show ACall _ _ _ _ _); (refine ACall.of_pure (by assumption) (by rfl) ?_); conv => whnf) | ((with_reducible show Exists _); (refine ⟨_, ACall.of_pure (by assumption) (by rfl) ⟨rfl, rfl⟩, ?_⟩); conv => whnf) | ((with_reducible show ∃ L, drawR L _ = true ∧ _); (refine ⟨[], by kernel_rfl, ?_⟩); conv => whnf) | ((with_reducible show _ ∧ _ ∧ _); (refine ⟨by omega, by omega, ?_⟩); conv => whnf) | fail)
        exact ⟨2, by omega, by omega, weak_ren_to [(0, true), (1, true), (6, true)] rfl rfl rfl ⟨rfl, rfl, rfl, rfl, trivial⟩⟩
    · cases b0 <;> cases b1
      all_goals (
        (conv => whnf); (repeat' first | ((with_reducible refine Box.mk ?_); conv => whnf) | ((with_reducible refine And.intro (fun _ => ?_) (fun _ => ?_)) <;> conv => whnf) | ((with_reducible show AYld _ _ _ _ _); (refine AYld.of tok mixed ?_); conv => whnf) | ((with_reducible show forceH _ _); (refine (forceH_eq _ _).mpr ?_); conv => whnf) | ((with_reducible show ACall _ _ _ _ _); (refine ACall.of_pure (by assumption) (by rfl) ?_); conv => whnf) | ((with_reducible show Exists _); (refine ⟨_, ACall.of_pure (by assumption) (by rfl) ⟨rfl, rfl⟩, ?_⟩); conv => whnf) | ((with_reducible show ∃ L, drawR L _ = true ∧ _); (refine ⟨[], by kernel_rfl, ?_⟩); conv => whnf) | ((with_reducible show _ ∧ _ ∧ _); (refine ⟨by omega, by omega, ?_⟩); conv => whnf) | fail)
        all_goals first
          | (exfalso; omega)
          | rfl)
end Go.Proofs.YtgdonjndgjiocaaDoor
end
