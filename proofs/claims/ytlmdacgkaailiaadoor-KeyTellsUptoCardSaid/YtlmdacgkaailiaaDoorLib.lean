/- What the library's functions do, told as the walks need it. -/
import Derived.Test.YtlmdacgkaailiaaDoorFns
import Derived.Test.YtlmdacgkaailiaaDoorShelf
namespace Go.Proofs.YtlmdacgkaailiaaDoor
open Go.Ve

/-! ### texts cut at dots -/
def splitDot : Bs → List Bs
  | [] => [[]]
  | c :: s => if c = 46 then [] :: splitDot s else match splitDot s with
    | [] => [[c]]
    | x :: xs => (c :: x) :: xs
theorem splitDot_ne : ∀ s, splitDot s ≠ []
  | [] => by simp [splitDot]
  | c :: s => by
    simp only [splitDot]
    split
    · simp
    · split <;> simp
theorem splitDot_none : ∀ {s : Bs}, s.count 46 = 0 → splitDot s = [s]
  | [], _ => rfl
  | c :: s, h => by
    have hc : c ≠ 46 := fun e => by subst e; simp at h
    have hs : s.count 46 = 0 := by simpa [List.count_cons, hc] using h
    simp [splitDot, hc, splitDot_none hs]
theorem splitDot_hit : ∀ {s : Bs} {i : Nat}, Lib.index s [46] = i → splitDot s = s.take i :: splitDot (s.drop (i + 1)) ∧ (s.drop (i + 1)).count 46 < s.count 46
  | [], i, h => by simp [Lib.index] at h
  | c :: s, i, h => by
    unfold Lib.index at h
    by_cases hc : c = 46
    · subst hc
      simp [List.isPrefixOf] at h
      have : i = 0 := by omega
      subst this
      simp [splitDot]
    · have hp : List.isPrefixOf [46] (c :: s) = false := by simp [List.isPrefixOf]; exact fun e => hc e.symm
      rw [hp] at h
      simp only [Bool.false_eq_true, if_false] at h
      split at h
      · omega
      · rename_i hn
        have h1 : Lib.index s [46] = ((i - 1 : Nat) : Int) := by
          have : -1 ≤ Lib.index s [46] := by
            rcases Lib.index_spec s [46] with ⟨e, _⟩ | ⟨k, e, _⟩ <;> omega
          have : Lib.index s [46] ≠ -1 := fun e => hn (by rw [e]; rfl)
          omega
        have hi : 1 ≤ i := by
          have : -1 ≤ Lib.index s [46] := by
            rcases Lib.index_spec s [46] with ⟨e, _⟩ | ⟨k, e, _⟩ <;> omega
          have : Lib.index s [46] ≠ -1 := fun e => hn (by rw [e]; rfl)
          omega
        obtain ⟨j, rfl⟩ : ∃ j, i = j + 1 := ⟨i - 1, by omega⟩
        simp only [Nat.add_sub_cancel] at h1
        obtain ⟨k1, k2⟩ := splitDot_hit h1
        refine ⟨?_, ?_⟩
        · simp [splitDot, hc, k1]
        · simpa [List.count_cons, hc] using k2
theorem splitK_dot : ∀ (k : Nat) (s : Bs), s.count 46 ≤ k → Lib.splitK [46] 0 k s = splitDot s
  | 0, s, h => by rw [splitDot_none (by omega)]; rfl
  | k + 1, s, h => by
    unfold Lib.splitK
    rcases Lib.index_spec s [46] with ⟨e, _⟩ | ⟨i, e, _⟩
    · rw [if_pos (by rw [e]; rfl), splitDot_none]
      rw [← Lib.count_one, Lib.count_miss e]
    · rw [if_neg (by rw [e]; simp), e]
      obtain ⟨k1, k2⟩ := splitDot_hit e
      rw [k1]
      simp only [Int.toNat_natCast, Nat.add_zero, List.length_singleton]
      rw [splitK_dot k _ (by omega)]

/-- Texts as a list of one cell each. -/
def strs (l : List Bs) : List (List AV) := l.map fun x => [.str x]
theorem strs_get (l : List Bs) (i : Nat) : (strs l)[i]? = (l[i]?).map fun x => [.str x] := by simp [strs]
theorem strs_len (l : List Bs) : (strs l).length = l.length := by simp [strs]

theorem lib_Split (s : Bs) (h : s.length < 4294967281) : PCall P 71 [.str s, .str [46]] (.sl (strs (splitDot s))) := by
  unfold PCall
  refine ⟨fn71.callable, fun M0 w vs hM hG hv => ?_⟩
  obtain ⟨m, hm⟩ := hG 0 rfl
  obtain ⟨hl, hv⟩ := hv
  obtain ⟨v0, v1, rfl⟩ : ∃ v0 v1, vs = [v0, v1] := by
    match vs, hl with
    | [a, b], _ => exact ⟨a, b, rfl⟩
  have e0 := (hv 0 _ rfl).str_inv
  have e1 := (hv 1 _ rfl).str_inv
  simp at e0 e1
  subst e0 e1
  have hs : (⟨s.toArray⟩ : ByteArray).size < 4294967281 := by rw [bs_size]; exact h
  refine (Tryd.strings_Split ⟨s.toArray⟩ ⟨#[46]⟩ m w hs hm.2 (by decide)).mono ?_
  rintro e w' ⟨rfl, rfl⟩
  have hk : (Lib.splitB ⟨#[46]⟩ 0 (Lib.countB ⟨s.toArray⟩ ⟨#[46]⟩) ⟨s.toArray⟩).map (·.data.toList) = splitDot s := by
    rw [Lib.splitB_data]
    exact splitK_dot _ _ (by show _ ≤ Lib.count s [46]; rw [Lib.count_one]; exact Nat.le_refl _)
  generalize hx : Lib.splitB ⟨#[46]⟩ 0 (Lib.countB ⟨s.toArray⟩ ⟨#[46]⟩) ⟨s.toArray⟩ = xs at hk ⊢
  have hlen : xs.length = Lib.countB ⟨s.toArray⟩ ⟨#[46]⟩ + 1 := by rw [← hx]; exact Lib.splitB_all _ (by decide) 0 _ _ rfl
  have hlen' : xs.length = (splitDot s).length := by rw [← hk]; simp
  have hcnt : Lib.countB ⟨s.toArray⟩ ⟨#[46]⟩ ≤ s.length + 1 := Lib.count_le _ _
  refine ⟨_, rfl, (Go.RowKit.Below.refl _ w).alloc (Nat.le_refl _) _, ?_⟩
  have e : Lib.countB ⟨s.toArray⟩ ⟨#[46]⟩ + 1 = (strs (splitDot s)).length := by rw [strs_len, ← hlen', hlen]
  rw [e]
  refine .sl _ _ _ _ 1 (fun i _ => ((xs.map Value.string).toArray).getD i undef) (Nat.le_refl _) (by rw [← e]; omega) (fun c hc => ?_) (fun i j c x hc hx' => ?_) (fun i j hi hj => ?_)
  · obtain ⟨x, _, rfl⟩ := List.mem_map.1 hc
    exact ⟨rfl, rfl⟩
  · rw [strs_get, Option.map_eq_some_iff] at hc
    obtain ⟨y, hy, rfl⟩ := hc
    have hj : j = 0 := by
      rcases Nat.eq_zero_or_pos j with h | h
      · exact h
      · rw [List.getElem?_eq_none (by simp; omega)] at hx'; cases hx'
    subst hj
    simp at hx'
    subst hx'
    have hy2 : (xs.map (·.data.toList))[i]? = some y := by rw [hk]; exact hy
    rw [List.getElem?_map, Option.map_eq_some_iff] at hy2
    obtain ⟨b, hb, rfl⟩ := hy2
    have : ((xs.map Value.string).toArray).getD i undef = .string b := by simp [hb]
    rw [this]
    exact .str _ _
  · have hj0 : j = 0 := by omega
    subst hj0
    have hi' : i < xs.length := by rw [strs_len, ← hlen'] at hi; exact hi
    refine ⟨fun hx => ?_, ?_⟩
    · rw [Addr.add_lit] at hx
      have := hM _ hx
      exact absurd this (Nat.lt_irrefl _)
    · rw [Addr.add_lit]
      have := getD_cell (heap_alloc w (.cells (xs.map Value.string).toArray 9)) (j := i) (by simpa using hi')
      simpa using this

/-- What strings.Join writes. -/
def joinBy (sep : Bs) (l : List Bs) : Bs := sep.intercalate l

theorem strs_vals {K0 : Addr → Value → Prop} {w : World} (hK : ∀ a v, K0 a v → w.cell? a = some v) {l : List Bs} {v : Value} (h : Rv K0 [] (.sl (strs l)) v) (hne : l ≠ []) :
    ∃ b o c, v = .slice (some ⟨b, o, none⟩) l.length c ∧ l.length ≤ c ∧ ∀ (j : Nat) x, l[j]? = some x → w.cell? ⟨b, o + j, none⟩ = some (.string ⟨x.toArray⟩) := by
  rcases h.sl_inv with ⟨e, _⟩ | ⟨a, cap, sz, val, rfl, h1, h2, h3, h4, h5⟩
  · exact absurd (by simpa [strs] using e) hne
  · have hl : 0 < l.length := List.length_pos_iff.2 hne
    have hsz : sz = 1 := by
      obtain ⟨x, hx⟩ : ∃ x, l[0]? = some x := ⟨_, List.getElem?_eq_getElem hl⟩
      have := (h3 [.str x] (List.mem_of_getElem? (i := 0) (by rw [strs_get, hx]; rfl))).1
      simpa using this.symm
    subst hsz
    have cell : ∀ (j : Nat) x, l[j]? = some x → w.cell? (a.add (j * 1 + 0)) = some (.string ⟨x.toArray⟩) := fun j x hx => by
      have hj : j < l.length := (List.getElem?_eq_some_iff.1 hx).1
      have e := (h4 j 0 [.str x] (.str x) (by rw [strs_get, hx]; rfl) rfl).str_inv
      rw [← e]
      exact hK _ _ (h5 j 0 (by rw [strs_len]; exact hj) (by omega))
    obtain ⟨b, o, spot⟩ := a
    have hspot : spot = none := by
      obtain ⟨x, hx⟩ : ∃ x, l[0]? = some x := ⟨_, List.getElem?_eq_getElem hl⟩
      have := cell 0 x hx
      simp only [Nat.zero_mul, Nat.add_zero, Addr.add, if_true] at this
      cases spot with
      | none => rfl
      | some s => unfold World.cell? at this; split at this <;> simp at this
    subst hspot
    refine ⟨b, o, cap, by rw [strs_len], by rw [← strs_len]; exact h1, fun j x hx => ?_⟩
    have := cell j x hx
    rwa [Addr.add_lit, Nat.mul_one, Nat.add_zero] at this

theorem lib_Join (l : List Bs) (sep : Bs) (h1 : l.length ≤ 140737488355328) (h2 : (joinBy sep l).length ≤ 140737488355328) : PCall P 55 [.sl (strs l), .str sep] (.str (joinBy sep l)) := by
  unfold PCall
  refine ⟨fn55.callable, fun M0 w vs hM hG hv => ?_⟩
  obtain ⟨hl, hv⟩ := hv
  obtain ⟨v0, v1, rfl⟩ : ∃ v0 v1, vs = [v0, v1] := by
    match vs, hl with
    | [a, b], _ => exact ⟨a, b, rfl⟩
  have r0 := hv 0 _ rfl
  have e1 := (hv 1 _ rfl).str_inv
  simp at r0 e1
  subst e1
  by_cases hne : l = []
  · subst hne
    have main : ∀ a c, Calls P 55 #[.slice a 0 c, .string ⟨sep.toArray⟩] w fun e w' => ∃ v, e = .returned v ∧ Go.RowKit.Below w.heap.size w w' ∧ Rv (Cst M0 w') [] (.str (joinBy sep [])) v := fun a c => by
      refine (Tryd.strings_Join_none a c ⟨sep.toArray⟩ w).mono ?_
      rintro e w' ⟨rfl, rfl⟩
      exact ⟨_, rfl, Go.RowKit.Below.refl _ _, .str _ _⟩
    rcases r0.sl_inv with ⟨_, rfl⟩ | ⟨a, cap, _, _, rfl, _⟩
    · exact main none 0
    · exact main (some a) cap
  · obtain ⟨b, o, c, rfl, hc, hcells⟩ := strs_vals (w := w) (fun _ _ h => h.2) r0 hne
    have hb : b < w.heap.size := by
      obtain ⟨x, hx⟩ : ∃ x, l[0]? = some x := ⟨_, List.getElem?_eq_getElem (List.length_pos_iff.2 hne)⟩
      exact World.block_lt_of_cell? w _ (hcells 0 x hx)
    have hm : (l.map fun x => (⟨x.toArray⟩ : ByteArray)).map (·.data.toList) = l := by simp [Function.comp_def]
    have hj : Lib.join ((l.map fun x => (⟨x.toArray⟩ : ByteArray)).map (·.data.toList)) sep = joinBy sep l := by rw [hm]; rfl
    have := Tryd.strings_Join b o c (l.map fun x => ⟨x.toArray⟩) ⟨sep.toArray⟩ w (fun j x hx => by
      rw [List.getElem?_map, Option.map_eq_some_iff] at hx
      obtain ⟨y, hy, rfl⟩ := hx
      exact hcells j y hy) hb (by simpa using h1) (by simpa using hc) (by rw [hj]; exact h2)
    rw [List.length_map, hj] at this
    refine this.mono ?_
    rintro e w' ⟨rfl, hB⟩
    exact ⟨_, rfl, hB, .str _ _⟩

theorem lib_Join_nil (sep : Bs) : PCall P 55 [.nils, .str sep] (.str []) := by
  unfold PCall
  refine ⟨fn55.callable, fun M0 w vs hM hG hv => ?_⟩
  obtain ⟨hl, hv⟩ := hv
  obtain ⟨v0, v1, rfl⟩ : ∃ v0 v1, vs = [v0, v1] := by
    match vs, hl with
    | [a, b], _ => exact ⟨a, b, rfl⟩
  have e0 := (hv 0 _ rfl).nils_inv
  have e1 := (hv 1 _ rfl).str_inv
  simp at e0 e1
  subst e0 e1
  refine (Tryd.strings_Join_none none 0 ⟨sep.toArray⟩ w).mono ?_
  rintro e w' ⟨rfl, rfl⟩
  exact ⟨_, rfl, Go.RowKit.Below.refl _ _, .str _ _⟩
end Go.Proofs.YtlmdacgkaailiaaDoor
