/- The program's contracts: texts joined into one: Lib Label Label2 Label3 Label4 LawLabel Wide Key Key2 Key3 Key4 Key5 Dim Pre LawKey Ref7 Ref7b Ref7c Ref7d Ref7e LawLabel2 LawLabel3 KeyLaw KeyLaw2 KeyLaw3 ArgsKey LawKey2 LawKey3 Pre2 Pre3 GridLaw GridLaw2 PreLaw PreLaw2 LawKey4 PreLaw3 Ref7f Ups GridLaw3 PreLaw4 MdlLaw Grid Ref8 Ref8b Ref9 Grid2 Grid3 Ref9b Ref9c Grid4 Grid5 Grid6 Mdl MdlSort Mdl2 Mdl3. -/
import Derived.Test.YtgaohmfmomeflaaGreatDoorXFns
import Derived.Test.YtgaohmfmomeflaaGreatDoorXShelf
import Derived.Test.YtgaohmfmomeflaaGreatDoorXvb
import Derived.Test.YtgaohmfmomeflaaGreatDoorXvc
import Derived.Test.YtgaohmfmomeflaaGreatDoorXSort
import Derived.Lib.QuietBelow

section
/- What the library's functions do, told as the walks need it. -/
namespace Go.Proofs.YtgaohmfmomeflaaGreatDoor
open Go.Ve

/-! ### texts cut at dots -/
def splitDot : Bs → List Bs
  | [] => [[]]
  | c :: s => if c = 46 then [] :: splitDot s else match splitDot s with
    | [] => [[c]]
    | x :: xs => (c :: x) :: xs
theorem splitDot_ne : ∀ s, splitDot s ≠ []
  | [] => by simp [splitDot]
  | c :: s => by
    simp only [splitDot]
    split
    · simp
    · split <;> simp
theorem splitDot_none : ∀ {s : Bs}, s.count 46 = 0 → splitDot s = [s]
  | [], _ => rfl
  | c :: s, h => by
    have hc : c ≠ 46 := fun e => by subst e; simp at h
    have hs : s.count 46 = 0 := by simpa [List.count_cons, hc] using h
    simp [splitDot, hc, splitDot_none hs]
theorem splitDot_hit : ∀ {s : Bs} {i : Nat}, Lib.index s [46] = i → splitDot s = s.take i :: splitDot (s.drop (i + 1)) ∧ (s.drop (i + 1)).count 46 < s.count 46
  | [], i, h => by simp [Lib.index] at h
  | c :: s, i, h => by
    unfold Lib.index at h
    by_cases hc : c = 46
    · subst hc
      simp [List.isPrefixOf] at h
      have : i = 0 := by omega
      subst this
      simp [splitDot]
    · have hp : List.isPrefixOf [46] (c :: s) = false := by simp [List.isPrefixOf]; exact fun e => hc e.symm
      rw [hp] at h
      simp only [Bool.false_eq_true, if_false] at h
      split at h
      · omega
      · rename_i hn
        have h1 : Lib.index s [46] = ((i - 1 : Nat) : Int) := by
          have : -1 ≤ Lib.index s [46] := by
            rcases Lib.index_spec s [46] with ⟨e, _⟩ | ⟨k, e, _⟩ <;> omega
          have : Lib.index s [46] ≠ -1 := fun e => hn (by rw [e]; rfl)
          omega
        have hi : 1 ≤ i := by
          have : -1 ≤ Lib.index s [46] := by
            rcases Lib.index_spec s [46] with ⟨e, _⟩ | ⟨k, e, _⟩ <;> omega
          have : Lib.index s [46] ≠ -1 := fun e => hn (by rw [e]; rfl)
          omega
        obtain ⟨j, rfl⟩ : ∃ j, i = j + 1 := ⟨i - 1, by omega⟩
        simp only [Nat.add_sub_cancel] at h1
        obtain ⟨k1, k2⟩ := splitDot_hit h1
        refine ⟨?_, ?_⟩
        · simp [splitDot, hc, k1]
        · simpa [List.count_cons, hc] using k2
theorem splitK_dot : ∀ (k : Nat) (s : Bs), s.count 46 ≤ k → Lib.splitK [46] 0 k s = splitDot s
  | 0, s, h => by rw [splitDot_none (by omega)]; rfl
  | k + 1, s, h => by
    unfold Lib.splitK
    rcases Lib.index_spec s [46] with ⟨e, _⟩ | ⟨i, e, _⟩
    · rw [if_pos (by rw [e]; rfl), splitDot_none]
      rw [← Lib.count_one, Lib.count_miss e]
    · rw [if_neg (by rw [e]; simp), e]
      obtain ⟨k1, k2⟩ := splitDot_hit e
      rw [k1]
      simp only [Int.toNat_natCast, Nat.add_zero, List.length_singleton]
      rw [splitK_dot k _ (by omega)]

/-- Texts as a list of one cell each. -/
def strs (l : List Bs) : List (List AV) := l.map fun x => [.str x]
theorem strs_get (l : List Bs) (i : Nat) : (strs l)[i]? = (l[i]?).map fun x => [.str x] := by simp [strs]
theorem strs_len (l : List Bs) : (strs l).length = l.length := by simp [strs]

theorem lib_Split (s : Bs) (h : s.length < 4294967281) : PCall P 164 [.str s, .str [46]] (.sl (strs (splitDot s))) := by
  unfold PCall
  refine ⟨fn164.callable, fun M0 w vs hM hG hv => ?_⟩
  obtain ⟨m, hm⟩ := hG _ rfl
  obtain ⟨hl, hv⟩ := hv
  obtain ⟨v0, v1, rfl⟩ : ∃ v0 v1, vs = [v0, v1] := by
    match vs, hl with
    | [a, b], _ => exact ⟨a, b, rfl⟩
  have e0 := (hv 0 _ rfl).str_inv
  have e1 := (hv 1 _ rfl).str_inv
  simp at e0 e1
  subst e0 e1
  have hs : (⟨s.toArray⟩ : ByteArray).size < 4294967281 := by rw [bs_size]; exact h
  refine (Tryz.strings_Split ⟨s.toArray⟩ ⟨#[46]⟩ m w hs hm.2 (by decide)).mono ?_
  rintro e w' ⟨rfl, rfl⟩
  have hk : (Lib.splitB ⟨#[46]⟩ 0 (Lib.countB ⟨s.toArray⟩ ⟨#[46]⟩) ⟨s.toArray⟩).map (·.data.toList) = splitDot s := by
    rw [Lib.splitB_data]
    exact splitK_dot _ _ (by show _ ≤ Lib.count s [46]; rw [Lib.count_one]; exact Nat.le_refl _)
  generalize hx : Lib.splitB ⟨#[46]⟩ 0 (Lib.countB ⟨s.toArray⟩ ⟨#[46]⟩) ⟨s.toArray⟩ = xs at hk ⊢
  have hlen : xs.length = Lib.countB ⟨s.toArray⟩ ⟨#[46]⟩ + 1 := by rw [← hx]; exact Lib.splitB_all _ (by decide) 0 _ _ rfl
  have hlen' : xs.length = (splitDot s).length := by rw [← hk]; simp
  have hcnt : Lib.countB ⟨s.toArray⟩ ⟨#[46]⟩ ≤ s.length + 1 := Lib.count_le _ _
  refine ⟨_, rfl, (Below.refl _ w).alloc (Nat.le_refl _) _, ?_⟩
  have e : Lib.countB ⟨s.toArray⟩ ⟨#[46]⟩ + 1 = (strs (splitDot s)).length := by rw [strs_len, ← hlen', hlen]
  rw [e]
  refine .sl _ _ _ _ 1 (fun i _ => ((xs.map Value.string).toArray).getD i undef) (Nat.le_refl _) (by rw [← e]; omega) (fun c hc => ?_) (fun i j c x hc hx' => ?_) (fun i j hi hj => ?_)
  · obtain ⟨x, _, rfl⟩ := List.mem_map.1 hc
    exact ⟨rfl, rfl⟩
  · rw [strs_get, Option.map_eq_some_iff] at hc
    obtain ⟨y, hy, rfl⟩ := hc
    have hj : j = 0 := by
      rcases Nat.eq_zero_or_pos j with h | h
      · exact h
      · rw [List.getElem?_eq_none (by simp; omega)] at hx'; cases hx'
    subst hj
    simp at hx'
    subst hx'
    have hy2 : (xs.map (·.data.toList))[i]? = some y := by rw [hk]; exact hy
    rw [List.getElem?_map, Option.map_eq_some_iff] at hy2
    obtain ⟨b, hb, rfl⟩ := hy2
    have : ((xs.map Value.string).toArray).getD i undef = .string b := by simp [hb]
    rw [this]
    exact .str _ _
  · have hj0 : j = 0 := by omega
    subst hj0
    have hi' : i < xs.length := by rw [strs_len, ← hlen'] at hi; exact hi
    refine ⟨fun hx => ?_, ?_⟩
    · rw [Addr.add_lit] at hx
      have := hM _ hx
      exact absurd this (Nat.lt_irrefl _)
    · rw [Addr.add_lit]
      have := getD_cell (heap_alloc w (.cells (xs.map Value.string).toArray 9)) (j := i) (by simpa using hi')
      simpa using this

/-- What strings.Join writes. -/
def joinBy (sep : Bs) (l : List Bs) : Bs := sep.intercalate l

theorem strs_vals {K0 : Addr → Value → Prop} {w : World} (hK : ∀ a v, K0 a v → w.cell? a = some v) {l : List Bs} {v : Value} (h : Rv K0 [] (.sl (strs l)) v) (hne : l ≠ []) :
    ∃ b o c, v = .slice (some ⟨b, o, none⟩) l.length c ∧ l.length ≤ c ∧ ∀ (j : Nat) x, l[j]? = some x → w.cell? ⟨b, o + j, none⟩ = some (.string ⟨x.toArray⟩) := by
  rcases h.sl_inv with ⟨e, _⟩ | ⟨a, cap, sz, val, rfl, h1, h2, h3, h4, h5⟩
  · exact absurd (by simpa [strs] using e) hne
  · have hl : 0 < l.length := List.length_pos_iff.2 hne
    have hsz : sz = 1 := by
      obtain ⟨x, hx⟩ : ∃ x, l[0]? = some x := ⟨_, List.getElem?_eq_getElem hl⟩
      have := (h3 [.str x] (List.mem_of_getElem? (i := 0) (by rw [strs_get, hx]; rfl))).1
      simpa using this.symm
    subst hsz
    have cell : ∀ (j : Nat) x, l[j]? = some x → w.cell? (a.add (j * 1 + 0)) = some (.string ⟨x.toArray⟩) := fun j x hx => by
      have hj : j < l.length := (List.getElem?_eq_some_iff.1 hx).1
      have e := (h4 j 0 [.str x] (.str x) (by rw [strs_get, hx]; rfl) rfl).str_inv
      rw [← e]
      exact hK _ _ (h5 j 0 (by rw [strs_len]; exact hj) (by omega))
    obtain ⟨b, o, spot⟩ := a
    have hspot : spot = none := by
      obtain ⟨x, hx⟩ : ∃ x, l[0]? = some x := ⟨_, List.getElem?_eq_getElem hl⟩
      have := cell 0 x hx
      simp only [Nat.zero_mul, Nat.add_zero, Addr.add, if_true] at this
      cases spot with
      | none => rfl
      | some s => unfold World.cell? at this; split at this <;> simp at this
    subst hspot
    refine ⟨b, o, cap, by rw [strs_len], by rw [← strs_len]; exact h1, fun j x hx => ?_⟩
    have := cell j x hx
    rwa [Addr.add_lit, Nat.mul_one, Nat.add_zero] at this

theorem lib_Join (l : List Bs) (sep : Bs) (h1 : l.length ≤ 140737488355328) (h2 : (joinBy sep l).length ≤ 140737488355328) : PCall P 172 [.sl (strs l), .str sep] (.str (joinBy sep l)) := by
  unfold PCall
  refine ⟨fn172.callable, fun M0 w vs hM hG hv => ?_⟩
  obtain ⟨hl, hv⟩ := hv
  obtain ⟨v0, v1, rfl⟩ : ∃ v0 v1, vs = [v0, v1] := by
    match vs, hl with
    | [a, b], _ => exact ⟨a, b, rfl⟩
  have r0 := hv 0 _ rfl
  have e1 := (hv 1 _ rfl).str_inv
  simp at r0 e1
  subst e1
  by_cases hne : l = []
  · subst hne
    have main : ∀ a c, Calls P 172 #[.slice a 0 c, .string ⟨sep.toArray⟩] w fun e w' => ∃ v, e = .returned v ∧ Below w.heap.size w w' ∧ Rv (Cst M0 w') [] (.str (joinBy sep [])) v := fun a c => by
      refine (Tryz.strings_Join_none a c ⟨sep.toArray⟩ w).mono ?_
      rintro e w' ⟨rfl, rfl⟩
      exact ⟨_, rfl, Below.refl _ _, .str _ _⟩
    rcases r0.sl_inv with ⟨_, rfl⟩ | ⟨a, cap, _, _, rfl, _⟩
    · exact main none 0
    · exact main (some a) cap
  · obtain ⟨b, o, c, rfl, hc, hcells⟩ := strs_vals (w := w) (fun _ _ h => h.2) r0 hne
    have hb : b < w.heap.size := by
      obtain ⟨x, hx⟩ : ∃ x, l[0]? = some x := ⟨_, List.getElem?_eq_getElem (List.length_pos_iff.2 hne)⟩
      exact World.block_lt_of_cell? w _ (hcells 0 x hx)
    have hm : (l.map fun x => (⟨x.toArray⟩ : ByteArray)).map (·.data.toList) = l := by simp [Function.comp_def]
    have hj : Lib.join ((l.map fun x => (⟨x.toArray⟩ : ByteArray)).map (·.data.toList)) sep = joinBy sep l := by rw [hm]; rfl
    have := Tryz.strings_Join b o c (l.map fun x => ⟨x.toArray⟩) ⟨sep.toArray⟩ w (fun j x hx => by
      rw [List.getElem?_map, Option.map_eq_some_iff] at hx
      obtain ⟨y, hy, rfl⟩ := hx
      exact hcells j y hy) hb (by simpa using h1) (by simpa using hc) (by rw [hj]; exact h2)
    rw [List.length_map, hj] at this
    refine this.mono ?_
    rintro e w' ⟨rfl, hB⟩
    exact ⟨_, rfl, .of hB fun s => s.elim, .str _ _⟩

theorem lib_Join_nil (sep : Bs) : PCall P 172 [.nils, .str sep] (.str []) := by
  unfold PCall
  refine ⟨fn172.callable, fun M0 w vs hM hG hv => ?_⟩
  obtain ⟨hl, hv⟩ := hv
  obtain ⟨v0, v1, rfl⟩ : ∃ v0 v1, vs = [v0, v1] := by
    match vs, hl with
    | [a, b], _ => exact ⟨a, b, rfl⟩
  have e0 := (hv 0 _ rfl).nils_inv
  have e1 := (hv 1 _ rfl).str_inv
  simp at e0 e1
  subst e0 e1
  refine (Tryz.strings_Join_none none 0 ⟨sep.toArray⟩ w).mono ?_
  rintro e w' ⟨rfl, rfl⟩
  exact ⟨_, rfl, Below.refl _ _, .str _ _⟩
end Go.Proofs.YtgaohmfmomeflaaGreatDoor
end

section
/- label: what its functions compute. -/
namespace Go.Proofs.YtgaohmfmomeflaaGreatDoor
open Go.Ve

def okByte (c : Int) : Prop := (97 ≤ c ∧ c ≤ 122) ∨ (48 ≤ c ∧ c ≤ 57) ∨ c = 95
instance (c : Int) : Decidable (okByte c) := by unfold okByte; exact inferInstance
theorem isByte_ok (c : Int) : PCall P 175 [.int .u8 c] (.bool (decide (okByte c))) := by
  refine PCall.of_awp tok mixed fn175 (Nat.le_of_ble_eq_true rfl) ?_
  conv => whnf
  repeat' ((first | (with_reducible first | refine Box.mk ?_ | refine And.intro (fun _ => ?_) (fun _ => ?_) | refine (forceH_eq _ _).mpr ?_) | fail) <;> conv => whnf)
  all_goals (show AV.bool _ = AV.bool _; congr 1)
  all_goals first | exact (decide_eq_true (by unfold okByte; omega)).symm | exact (decide_eq_false (by unfold okByte; omega)).symm

def isLabel (s : Bs) : Bool := s.all (fun c => decide (okByte c.toNat)) && decide (1 ≤ s.length ∧ s.length ≤ 16)
theorem isLabel_ok (s : Bs) (h : s.length ≤ 9223372036854775807) : PCall P 166 [.str s] (.bool (isLabel s)) := by
  refine PCall.of_awp tok mixed fn166 (Nat.le_of_ble_eq_true rfl) ?_
  conv => whnf
  repeat' ((first | (with_reducible first | refine Box.mk ?_ | refine And.intro (fun _ => ?_) (fun _ => ?_) | refine (forceH_eq _ _).mpr ?_) | fail) <;> conv => whnf)
  refine ⟨h, ?_⟩
  conv => whnf
  repeat' ((first | (with_reducible first | refine Box.mk ?_ | refine And.intro (fun _ => ?_) (fun _ => ?_) | refine (forceH_eq _ _).mpr ?_) | fail) <;> conv => whnf)
  refine aloop (fun i => i ≤ s.length ∧ ∀ j (c : UInt8), j < i → s[j]? = some c → okByte c.toNat) (fun i : Nat => ⟨envL [(0, .str s), (6, .sl (s.map byteCell)), (7, .int .i64 s.length), (8, .int .i64 i)], []⟩)
    (fun i => s.length - i) 0 ⟨Nat.zero_le _, fun j c h => by omega⟩ (weak_to ⟨rfl, rfl, by show AV.int _ _ = _; simp, rfl, trivial⟩ rfl) ?_
  rintro i ⟨hi, hok⟩
  conv => whnf
  repeat' ((first | (with_reducible first | refine Box.mk ?_ | refine And.intro (fun _ => ?_) (fun _ => ?_) | refine (forceH_eq _ _).mpr ?_) | fail) <;> conv => whnf)
  · rename_i hlt
    have hlt' : i < s.length := by omega
    refine ⟨by omega, byteCell s[i], by simp [hlt'], rfl, ?_⟩
    conv => whnf
    repeat' ((first | (with_reducible first | refine Box.mk ?_ | refine And.intro (fun _ => ?_) (fun _ => ?_) | refine (forceH_eq _ _).mpr ?_) | fail) <;> conv => whnf)
    refine ACall.of_pure (isByte_ok _) rfl ?_
    cases hb : decide (okByte (s[i].toNat : Int))
    · (conv => whnf); (repeat' ((first | (with_reducible first | refine Box.mk ?_ | refine And.intro (fun _ => ?_) (fun _ => ?_) | refine (forceH_eq _ _).mpr ?_) | fail) <;> conv => whnf))
      refine bool_false ?_
      have : ¬ (∀ c ∈ s, okByte c.toNat) := fun h => of_decide_eq_false hb (h _ (List.getElem_mem hlt'))
      simp [isLabel, this]
    · (conv => whnf); (repeat' ((first | (with_reducible first | refine Box.mk ?_ | refine And.intro (fun _ => ?_) (fun _ => ?_) | refine (forceH_eq _ _).mpr ?_) | fail) <;> conv => whnf))
      refine ⟨i + 1, ⟨hlt', fun j c hj hc => ?_⟩, by omega, weak_to ⟨rfl, rfl, rfl, wrap_nat (m := 1) (by omega), trivial⟩ rfl⟩
      by_cases hji : j = i
      · subst hji
        rw [List.getElem?_eq_getElem hlt'] at hc
        cases hc
        exact of_decide_eq_true hb
      · exact hok j c (by omega) hc
  · have hall : ∀ c ∈ s, okByte c.toNat := fun c hc => by
      obtain ⟨j, hj⟩ := List.getElem?_of_mem hc
      exact hok j c (by have := (List.getElem?_eq_some_iff.1 hj).1; omega) hj
    exact bool_true (by simp [isLabel]; exact ⟨hall, by omega⟩)
  · exact bool_false (by simp [isLabel]; omega)
  · exact bool_false (by simp [isLabel]; omega)

theorem no_ok (s : Bs) (h : s.length ≤ 9223372036854775807) : PCall P 165 [.str s] (.bool (!isLabel s)) := by
  refine PCall.of_awp tok mixed fn165 (Nat.le_of_ble_eq_true rfl) ?_
  conv => whnf
  repeat' ((first | (with_reducible first | refine Box.mk ?_ | refine And.intro (fun _ => ?_) (fun _ => ?_) | refine (forceH_eq _ _).mpr ?_) | fail) <;> conv => whnf)
  refine ACall.of_pure (isLabel_ok s h) rfl ?_
  conv => whnf
  repeat' ((first | (with_reducible first | refine Box.mk ?_ | refine And.intro (fun _ => ?_) (fun _ => ?_) | refine (forceH_eq _ _).mpr ?_) | fail) <;> conv => whnf)
  rfl
/-! ### a list gone through by a function value -/
def idxf (q : Bs → Bool) : Nat → List Bs → Int
  | _, [] => -1
  | k, x :: xs => if q x then (k : Int) else idxf q (k + 1) xs
theorem idxf_hit {q : Bs → Bool} : ∀ {l : List Bs} {k i : Nat} {x : Bs}, l[i]? = some x → q x = true → (∀ j y, j < i → l[j]? = some y → q y = false) → idxf q k l = ((k + i : Nat) : Int)
  | [], k, i, x, h, _, _ => by simp at h
  | y :: l, k, 0, x, h, hq, _ => by simp at h; subst h; simp [idxf, hq]
  | y :: l, k, i + 1, x, h, hq, hn => by
    have h0 := hn 0 y (by omega) rfl
    rw [idxf, if_neg (by simp [h0]), idxf_hit (k := k + 1) (i := i) (by simpa using h) hq (fun j z hj hz => hn (j + 1) z (by omega) (by simpa using hz))]
    congr 1; omega
theorem idxf_miss {q : Bs → Bool} : ∀ {l : List Bs} {k : Nat}, (∀ y ∈ l, q y = false) → idxf q k l = -1
  | [], _, _ => rfl
  | y :: l, k, h => by rw [idxf, if_neg (by simp [h y List.mem_cons_self]), idxf_miss fun z hz => h z (List.mem_cons_of_mem _ hz)]
theorem idxf_any {q : Bs → Bool} : ∀ {l : List Bs} {k : Nat}, decide (0 ≤ idxf q k l) = l.any q
  | [], _ => rfl
  | y :: l, k => by
    rw [idxf, List.any_cons]
    cases hq : q y with
    | true => simp
    | false => simpa using idxf_any (l := l) (k := k + 1)

theorem indexFunc_ok {f : FuncId} {q : Bs → Bool} (l : List Bs) (hf : ∀ s ∈ l, PCall P f [.str s] (.bool (q s))) (hl : l.length ≤ 9223372036854775807) :
    PCall P 176 [.sl (strs l), .fn f []] (.int .i64 (idxf q 0 l)) := by
  refine PCall.of_awp tok mixed fn176 (Nat.le_of_ble_eq_true rfl) ?_
  conv => whnf
  repeat' ((first | (with_reducible first | refine Box.mk ?_ | refine And.intro (fun _ => ?_) (fun _ => ?_) | refine (forceH_eq _ _).mpr ?_) | fail) <;> conv => whnf)
  refine aloop (fun i => i ≤ l.length ∧ ∀ j x, j < i → l[j]? = some x → q x = false) (fun i : Nat => ⟨envL [(0, .sl (strs l)), (1, .fn f []), (7, .int .i64 l.length), (8, .int .i64 i)], []⟩)
    (fun i => l.length - i) 0 ⟨Nat.zero_le _, fun j c h => by omega⟩ (weak_to ⟨rfl, rfl, by show AV.int _ _ = _; rw [strs_len], rfl, trivial⟩ rfl) ?_
  rintro i ⟨hi, hok⟩
  conv => whnf
  repeat' ((first | (with_reducible first | refine Box.mk ?_ | refine And.intro (fun _ => ?_) (fun _ => ?_) | refine (forceH_eq _ _).mpr ?_) | fail) <;> conv => whnf)
  · rename_i hlt
    have hlt' : i < l.length := by omega
    refine ⟨by omega, [.str l[i]], ?_, rfl, ?_⟩
    · show (strs l)[i]? = _
      rw [strs_get, List.getElem?_eq_getElem hlt']; rfl
    conv => whnf
    repeat' ((first | (with_reducible first | refine Box.mk ?_ | refine And.intro (fun _ => ?_) (fun _ => ?_) | refine (forceH_eq _ _).mpr ?_) | fail) <;> conv => whnf)
    refine ACall.of_pure (hf _ (List.getElem_mem hlt')) rfl ?_
    cases hb : q l[i]
    · (conv => whnf); (repeat' ((first | (with_reducible first | refine Box.mk ?_ | refine And.intro (fun _ => ?_) (fun _ => ?_) | refine (forceH_eq _ _).mpr ?_) | fail) <;> conv => whnf))
      refine ⟨i + 1, ⟨hlt', fun j c hj hc => ?_⟩, by omega, weak_to ⟨rfl, rfl, rfl, wrap_nat (m := 1) (by omega), trivial⟩ rfl⟩
      by_cases hji : j = i
      · subst hji
        rw [List.getElem?_eq_getElem hlt'] at hc
        cases hc
        exact hb
      · exact hok j c (by omega) hc
    · (conv => whnf); (repeat' ((first | (with_reducible first | refine Box.mk ?_ | refine And.intro (fun _ => ?_) (fun _ => ?_) | refine (forceH_eq _ _).mpr ?_) | fail) <;> conv => whnf))
      show AV.int .i64 _ = AV.int .i64 _
      rw [idxf_hit (List.getElem?_eq_getElem hlt') hb hok, Nat.zero_add]
  · show AV.int .i64 _ = AV.int .i64 _
    rw [idxf_miss]
    intro y hy
    obtain ⟨j, hj⟩ := List.getElem?_of_mem hy
    exact hok j y (by have := (List.getElem?_eq_some_iff.1 hj).1; omega) hj

theorem containsFunc_ok {f : FuncId} {q : Bs → Bool} (l : List Bs) (hf : ∀ s ∈ l, PCall P f [.str s] (.bool (q s))) (hl : l.length ≤ 9223372036854775807) :
    PCall P 167 [.sl (strs l), .fn f []] (.bool (l.any q)) := by
  refine PCall.of_awp tok mixed fn167 (Nat.le_of_ble_eq_true rfl) ?_
  conv => whnf
  repeat' ((first | (with_reducible first | refine Box.mk ?_ | refine And.intro (fun _ => ?_) (fun _ => ?_) | refine (forceH_eq _ _).mpr ?_) | fail) <;> conv => whnf)
  refine ACall.of_pure (indexFunc_ok l hf hl) rfl ?_
  conv => whnf
  repeat' ((first | (with_reducible first | refine Box.mk ?_ | refine And.intro (fun _ => ?_) (fun _ => ?_) | refine (forceH_eq _ _).mpr ?_) | fail) <;> conv => whnf)
  · exact bool_true (by rw [← idxf_any (k := 0)]; exact decide_eq_true (by assumption))
  · exact bool_false (by rw [← idxf_any (k := 0)]; exact decide_eq_false (by assumption))

/-! ### paths -/
def okPath (p : Bs) : Bool := p.isEmpty || (decide ((splitDot p).length ≤ 8) && (splitDot p).all isLabel)
def labs (p : Bs) : List Bs := bif !p.isEmpty && okPath p then splitDot p else []
def pathV (p : Bs) : AV := bif !p.isEmpty && okPath p then .sl (strs (splitDot p)) else .nils
theorem path_cases (p : Bs) : (pathV p = .nils ∧ labs p = []) ∨ (pathV p = .sl (strs (labs p)) ∧ labs p = splitDot p ∧ p ≠ [] ∧ okPath p = true) := by
  unfold pathV labs
  cases h : !p.isEmpty && okPath p with
  | false => exact .inl ⟨rfl, rfl⟩
  | true =>
    rw [Bool.and_eq_true] at h
    exact .inr ⟨rfl, rfl, fun e => by subst e; simp at h, h.2⟩

theorem splitDot_len : ∀ (s : Bs), (splitDot s).length ≤ s.length + 1 ∧ ∀ x ∈ splitDot s, x.length ≤ s.length
  | [] => by simp [splitDot]
  | c :: s => by
    obtain ⟨h1, h2⟩ := splitDot_len s
    simp only [splitDot]
    split
    · refine ⟨by simp; omega, fun x hx => ?_⟩
      rcases List.mem_cons.1 hx with rfl | hx
      · simp
      · have := h2 x hx; simp; omega
    · split
      · simp
      · rename_i x xs e
        rw [e] at h1 h2
        refine ⟨by simp at h1 ⊢; omega, fun y hy => ?_⟩
        rcases List.mem_cons.1 hy with rfl | hy
        · have := h2 x List.mem_cons_self; simp; omega
        · have := h2 y (List.mem_cons_of_mem _ hy); simp; omega

theorem split_ok (p : Bs) (h : p.length < 4294967281) : PCall P 148 [.str p] (.tup [pathV p, .bool (okPath p)]) := by
  obtain ⟨hlen, hx⟩ := splitDot_len p
  refine PCall.of_awp tok mixed fn148 (Nat.le_of_ble_eq_true rfl) ?_
  conv => whnf
  repeat' ((first | (with_reducible first | refine Box.mk ?_ | refine And.intro (fun _ => ?_) (fun _ => ?_) | refine (forceH_eq _ _).mpr ?_) | fail) <;> conv => whnf)
  · rename_i e
    have e : p = [] := e
    subst e
    rfl
  · rename_i e
    have e : p ≠ [] := e
    have hp : p.isEmpty = false := by cases p with | nil => exact absurd rfl e | cons => rfl
    refine ACall.of_pure (lib_Split p h) rfl ?_
    conv => whnf
    repeat' ((first | (with_reducible first | refine Box.mk ?_ | refine And.intro (fun _ => ?_) (fun _ => ?_) | refine (forceH_eq _ _).mpr ?_) | fail) <;> conv => whnf)
    · rename_i h8
      have h8 : (8 : Int) < ((strs (splitDot p)).length : Int) := h8
      rw [strs_len] at h8
      have : okPath p = false := by simp [okPath, hp]; intro; omega
      show AV.tup _ = AV.tup _
      simp [pathV, this]
    · rename_i h8
      have h8 : ¬ (8 : Int) < ((strs (splitDot p)).length : Int) := h8
      rw [strs_len] at h8
      refine ACall.of_pure (containsFunc_ok (splitDot p) (fun s hs => no_ok s (by have := hx s hs; omega)) (by omega)) rfl ?_
      cases hb : (splitDot p).any fun s => !isLabel s
      · have : okPath p = true := by
          have : ∀ x ∈ splitDot p, isLabel x = true := by simpa using hb
          simp [okPath, hp]
          exact ⟨by omega, this⟩
        (conv => whnf); (repeat' ((first | (with_reducible first | refine Box.mk ?_ | refine And.intro (fun _ => ?_) (fun _ => ?_) | refine (forceH_eq _ _).mpr ?_) | fail) <;> conv => whnf))
        show AV.tup _ = AV.tup _
        simp [pathV, this, hp]
      · have : okPath p = false := by
          have : ∃ x ∈ splitDot p, isLabel x = false := by simpa using hb
          simp [okPath, hp]
          exact fun _ => this
        (conv => whnf); (repeat' ((first | (with_reducible first | refine Box.mk ?_ | refine And.intro (fun _ => ?_) (fun _ => ?_) | refine (forceH_eq _ _).mpr ?_) | fail) <;> conv => whnf))
        show AV.tup _ = AV.tup _
        simp [pathV, this]

theorem right_ok (p : Bs) (h : p.length < 4294967281) : PCall P 120 [.str p] (.bool (okPath p)) := by
  refine PCall.of_awp tok mixed fn120 (Nat.le_of_ble_eq_true rfl) ?_
  conv => whnf
  repeat' ((first | (with_reducible first | refine Box.mk ?_ | refine And.intro (fun _ => ?_) (fun _ => ?_) | refine (forceH_eq _ _).mpr ?_) | fail) <;> conv => whnf)
  refine ACall.of_pure (split_ok p h) rfl ?_
  rcases path_cases p with ⟨e, _⟩ | ⟨e, _⟩ <;> rw [e]
  all_goals ((conv => whnf); (repeat' ((first | (with_reducible first | refine Box.mk ?_ | refine And.intro (fun _ => ?_) (fun _ => ?_) | refine (forceH_eq _ _).mpr ?_) | fail) <;> conv => whnf)))
  all_goals rfl

theorem len_ok (p : Bs) (h : p.length < 4294967281) : PCall P 149 [.str p] (.int .i64 (labs p).length) := by
  refine PCall.of_awp tok mixed fn149 (Nat.le_of_ble_eq_true rfl) ?_
  conv => whnf
  repeat' ((first | (with_reducible first | refine Box.mk ?_ | refine And.intro (fun _ => ?_) (fun _ => ?_) | refine (forceH_eq _ _).mpr ?_) | fail) <;> conv => whnf)
  refine ACall.of_pure (split_ok p h) rfl ?_
  rcases path_cases p with ⟨e, e2⟩ | ⟨e, _⟩ <;> rw [e]
  · (conv => whnf); (repeat' ((first | (with_reducible first | refine Box.mk ?_ | refine And.intro (fun _ => ?_) (fun _ => ?_) | refine (forceH_eq _ _).mpr ?_) | fail) <;> conv => whnf))
    rw [e2]; rfl
  · (conv => whnf); (repeat' ((first | (with_reducible first | refine Box.mk ?_ | refine And.intro (fun _ => ?_) (fun _ => ?_) | refine (forceH_eq _ _).mpr ?_) | fail) <;> conv => whnf))
    show AV.int .i64 _ = AV.int .i64 _
    rw [strs_len]
end Go.Proofs.YtgaohmfmomeflaaGreatDoor
end

section
/- label, and the document's answer for it: what they compute. -/
namespace Go.Proofs.YtgaohmfmomeflaaGreatDoor
open Go.Ve

/-! ### texts joined with dots -/
def joinD : List Bs → Bs
  | [] => []
  | [x] => x
  | x :: y :: r => x ++ 46 :: joinD (y :: r)
theorem joinBy_dot : ∀ (l : List Bs), joinBy [46] l = joinD l
  | [] => rfl
  | [x] => by simp [joinBy, joinD, List.intercalate]
  | x :: y :: r => by
    have ih := joinBy_dot (y :: r)
    simp only [joinBy, List.intercalate] at ih ⊢
    simp [joinD, List.intersperse, ← ih]
theorem joinD_split : ∀ (s : Bs), joinD (splitDot s) = s
  | [] => rfl
  | c :: s => by
    have ih := joinD_split s
    have hne := splitDot_ne s
    simp only [splitDot]
    cases hs : splitDot s with
    | nil => exact absurd hs hne
    | cons x xs =>
      rw [hs] at ih
      split
      · rename_i e
        subst e
        simp [joinD, ih]
      · cases xs with
        | nil => simp only [joinD] at ih ⊢; rw [ih]
        | cons y ys => simp only [joinD] at ih ⊢; rw [← ih]; rfl
theorem joinD_len : ∀ (l : List Bs), (joinD l).length ≤ (l.map (·.length)).sum + l.length
  | [] => by simp [joinD]
  | [x] => by simp [joinD]
  | x :: y :: r => by
    have := joinD_len (y :: r)
    simp only [joinD, List.length_append, List.length_cons, List.map_cons, List.sum_cons] at this ⊢
    omega
theorem sum_le {l : List Bs} {n : Nat} (h : ∀ x ∈ l, x.length ≤ n) : (l.map (·.length)).sum ≤ l.length * n := by
  induction l with
  | nil => simp
  | cons x l ih =>
    have h1 := h x List.mem_cons_self
    have h2 := ih fun y hy => h y (List.mem_cons_of_mem _ hy)
    simp only [List.map_cons, List.sum_cons, List.length_cons, Nat.add_mul]
    omega

theorem splitDot_cut : ∀ {s : Bs} {k : Nat}, k ≤ s.length → (∀ (j : Nat) (c : UInt8), j < k → s[j]? = some c → c ≠ 46) →
    (k = s.length → splitDot s = [s]) ∧ (s[k]? = some 46 → splitDot s = s.take k :: splitDot (s.drop (k + 1)))
  | [], k, hk, _ => by
    refine ⟨fun _ => rfl, fun h => by simp at h⟩
  | c :: s, 0, _, _ => by
    refine ⟨fun h => by simp at h, fun h => ?_⟩
    simp at h
    subst h
    simp [splitDot]
  | c :: s, k + 1, hk, hn => by
    have hc : c ≠ 46 := hn 0 c (by omega) rfl
    obtain ⟨h1, h2⟩ := splitDot_cut (s := s) (k := k) (by simpa using hk) (fun j x hj hx => hn (j + 1) x (by omega) (by simpa using hx))
    refine ⟨fun h => ?_, fun h => ?_⟩
    · simp [splitDot, hc, h1 (by simpa using h)]
    · simp [splitDot, hc, h2 (by simpa using h)]

/-! ### label -/
theorem labs_len (p : Bs) : (labs p).length ≤ 8 ∧ ∀ x ∈ labs p, x.length ≤ p.length := by
  rcases path_cases p with ⟨_, e⟩ | ⟨_, e, hne, hok⟩
  · simp [e]
  · rw [e]
    have hp : p.isEmpty = false := by cases p with | nil => exact absurd rfl hne | cons => rfl
    simp [okPath, hp] at hok
    exact ⟨hok.1, (splitDot_len p).2⟩

theorem top_ok (p : Bs) (n : Int) (h : p.length < 4294967281) : PCall P 161 [.str p, .int .i64 n] (.str (joinD ((labs p).take n.toNat))) := by
  refine PCall.of_awp tok mixed fn161 (Nat.le_of_ble_eq_true rfl) ?_
  conv => whnf
  repeat' ((first | (with_reducible first | refine Box.mk ?_ | refine And.intro (fun _ => ?_) (fun _ => ?_) | refine (forceH_eq _ _).mpr ?_) | fail) <;> conv => whnf)
  refine ACall.of_pure (split_ok p h) rfl ?_
  obtain ⟨l1, l2⟩ := labs_len p
  rcases path_cases p with ⟨e, e2⟩ | ⟨e, _⟩ <;> rw [e]
  · (conv => whnf); (repeat' ((first | (with_reducible first | refine Box.mk ?_ | refine And.intro (fun _ => ?_) (fun _ => ?_) | refine (forceH_eq _ _).mpr ?_) | fail) <;> conv => whnf))
    have hk : min (max n 0) 0 = 0 := by omega
    refine ⟨by omega, by show min (max n 0) 0 ≤ (0 : Int); omega, ?_⟩
    (conv => whnf); (repeat' ((first | (with_reducible first | refine Box.mk ?_ | refine And.intro (fun _ => ?_) (fun _ => ?_) | refine (forceH_eq _ _).mpr ?_) | fail) <;> conv => whnf))
    refine ACall.of_pure (lib_Join_nil _) rfl ?_
    (conv => whnf); (repeat' ((first | (with_reducible first | refine Box.mk ?_ | refine And.intro (fun _ => ?_) (fun _ => ?_) | refine (forceH_eq _ _).mpr ?_) | fail) <;> conv => whnf))
    rw [e2]; simp [joinD, mkRes]
  · (conv => whnf); (repeat' ((first | (with_reducible first | refine Box.mk ?_ | refine And.intro (fun _ => ?_) (fun _ => ?_) | refine (forceH_eq _ _).mpr ?_) | fail) <;> conv => whnf))
    have hk : min (max n 0) ((strs (labs p)).length : Int) = ((min n.toNat (labs p).length : Nat) : Int) := by
      rw [strs_len]; omega
    refine ⟨by show (0 : Int) ≤ min (max n 0) ((strs (labs p)).length : Int); omega, by show min (max n 0) ((strs (labs p)).length : Int) ≤ ((strs (labs p)).length : Int); omega, ?_⟩
    (conv => whnf); (repeat' ((first | (with_reducible first | refine Box.mk ?_ | refine And.intro (fun _ => ?_) (fun _ => ?_) | refine (forceH_eq _ _).mpr ?_) | fail) <;> conv => whnf))
    refine ⟨fun c hc => by obtain ⟨x, _, rfl⟩ := List.mem_map.1 hc; rfl, ?_⟩
    have ht : ((strs (labs p)).take (min (max n 0) ((strs (labs p)).length : Int)).toNat).drop 0 = strs ((labs p).take n.toNat) := by
      rw [hk]
      simp only [List.drop_zero, strs, Int.toNat_natCast, ← List.map_take]
      congr 1
      rw [← List.take_take, List.take_length]
    rw [ht]
    (conv => whnf); (repeat' ((first | (with_reducible first | refine Box.mk ?_ | refine And.intro (fun _ => ?_) (fun _ => ?_) | refine (forceH_eq _ _).mpr ?_) | fail) <;> conv => whnf))
    refine ACall.of_pure (lib_Join _ _ ?_ ?_) rfl ?_
    · simp; omega
    · rw [joinBy_dot]
      have h1 := joinD_len ((labs p).take n.toNat)
      have h2 := sum_le (l := (labs p).take n.toNat) (n := p.length) (fun x hx => l2 x (List.mem_of_mem_take hx))
      have h3 : ((labs p).take n.toNat).length ≤ 8 := by simp; omega
      have h4 : ((labs p).take n.toNat).length * p.length ≤ 8 * p.length := Nat.mul_le_mul_right _ h3
      omega
    (conv => whnf); (repeat' ((first | (with_reducible first | refine Box.mk ?_ | refine And.intro (fun _ => ?_) (fun _ => ?_) | refine (forceH_eq _ _).mpr ?_) | fail) <;> conv => whnf))
    rw [joinBy_dot]; rfl

/-! ### the document's answer -/
theorem joinD_take_len {l : List Bs} {B i : Nat} (h : ∀ x ∈ l, x.length ≤ B) : (joinD (l.take i)).length ≤ l.length * B + l.length := by
  have h1 := joinD_len (l.take i)
  have h2 := sum_le (l := l.take i) (n := B) fun x hx => h x (List.mem_of_mem_take hx)
  have h3 : (l.take i).length ≤ l.length := by simp; omega
  have h4 := Nat.mul_le_mul_right B h3
  omega

end Go.Proofs.YtgaohmfmomeflaaGreatDoor
end

section
/- label, and the document's answer for it: the splitting by hand. -/
namespace Go.Proofs.YtgaohmfmomeflaaGreatDoor
open Go.Ve

theorem split_step {p : Bs} {f i : Nat} (hfi : f ≤ i) (hi : i ≤ p.length) (hn : ∀ (j : Nat) (c : UInt8), f ≤ j → j < i → p[j]? = some c → c ≠ 46) :
    (p[i]? = some 46 → splitDot (p.drop f) = (p.take i).drop f :: splitDot (p.drop (i + 1))) ∧ (i = p.length → splitDot (p.drop f) = [(p.take i).drop f]) := by
  have hc := splitDot_cut (s := p.drop f) (k := i - f) (by simp; omega) (fun j c hj hx => hn (f + j) c (by omega) (by omega) (by simpa [List.getElem?_drop] using hx))
  have e : (p.drop f).take (i - f) = (p.take i).drop f := by rw [List.drop_take]
  refine ⟨fun h => ?_, fun h => ?_⟩
  · rw [hc.2 (by rw [List.getElem?_drop, Nat.add_sub_cancel' hfi]; exact h), e, List.drop_drop]
    congr 3; omega
  · rw [hc.1 (by simp; omega)]
    have : (p.take i).drop f = p.drop f := by rw [List.take_of_length_le (by omega)]
    rw [this]

theorem okPath_true {p : Bs} (hp : p ≠ []) (h : ∀ x ∈ splitDot p, isLabel x = true) (h' : (splitDot p).length ≤ 8) : okPath p = true ∧ pathV p = .sl (strs (splitDot p)) := by
  have hp' : p.isEmpty = false := by cases p with | nil => exact absurd rfl hp | cons => rfl
  have : okPath p = true := by
    simp only [okPath, hp', Bool.false_or, Bool.and_eq_true, decide_eq_true_eq, List.all_eq_true]
    exact ⟨h', h⟩
  exact ⟨this, by simp [pathV, this, hp']⟩

/-- A list of texts that is built: none yet; or a row of one's own. -/
def lv : List Bs → AV
  | [] => .nils
  | _ :: _ => .own 0
structure SInv (p : Bs) (i f : Nat) (l : List Bs) : Prop where
  bd : i ≤ p.length + 1
  len : l.length ≤ 8
  lab : ∀ x ∈ l, isLabel x = true
  mid : i ≤ p.length → f ≤ i ∧ (∀ (j : Nat) (c : UInt8), f ≤ j → j < i → p[j]? = some c → c ≠ 46) ∧ splitDot p = l ++ splitDot (p.drop f)
  fin : i = p.length + 1 → splitDot p = l

theorem SInv.go {p : Bs} {i f : Nat} {l : List Bs} (h : SInv p i f l) (hi : i < p.length) (hc : p[i] ≠ 46) : SInv p (i + 1) f l := by
  obtain ⟨h1, h2, h3⟩ := h.mid (by omega)
  refine ⟨by omega, h.len, h.lab, fun _ => ⟨by omega, fun j c hj hj' hx => ?_, h3⟩, fun e => by omega⟩
  by_cases hji : j = i
  · subst hji
    rw [List.getElem?_eq_getElem hi] at hx
    rw [← Option.some.inj hx]; exact hc
  · exact h2 j c hj (by omega) hx
theorem SInv.piece {p : Bs} {i f : Nat} {l : List Bs} (h : SInv p i f l) (hi : i ≤ p.length) (hc : ∀ h : i < p.length, p[i] = 46) : f ≤ i ∧ ∃ r, splitDot p = l ++ (p.take i).drop f :: r := by
  obtain ⟨h1, h2, h3⟩ := h.mid hi
  obtain ⟨k1, k2⟩ := split_step h1 hi h2
  refine ⟨h1, ?_⟩
  by_cases hlt : i < p.length
  · exact ⟨_, by rw [h3, k1 (by rw [List.getElem?_eq_getElem hlt, hc hlt])]⟩
  · exact ⟨[], by rw [h3, k2 (by omega)]⟩
theorem SInv.next {p : Bs} {i f : Nat} {l : List Bs} (h : SInv p i f l) (hi : i ≤ p.length) (hc : ∀ h : i < p.length, p[i] = 46) (hl : isLabel ((p.take i).drop f) = true) (h8 : l.length < 8) : SInv p (i + 1) (i + 1) (l ++ [(p.take i).drop f]) := by
  obtain ⟨h1, h2, h3⟩ := h.mid hi
  obtain ⟨k1, k2⟩ := split_step h1 hi h2
  refine ⟨by omega, by simp; omega, fun x hx => ?_, fun hlt => ⟨Nat.le_refl _, fun j c hj hj' => by omega, ?_⟩, fun e => ?_⟩
  · rcases List.mem_append.1 hx with hx | hx
    · exact h.lab x hx
    · rw [List.mem_singleton.1 hx]; exact hl
  · rw [h3, k1 (by rw [List.getElem?_eq_getElem (by omega), hc (by omega)])]; simp
  · rw [h3, k2 (by omega)]

end Go.Proofs.YtgaohmfmomeflaaGreatDoor
end

section
/- label, the document's answer: tops, what is alike; the statements' own helpers. -/
namespace Go.Proofs.YtgaohmfmomeflaaGreatDoor
open Go.Ve

end Go.Proofs.YtgaohmfmomeflaaGreatDoor
end

section
/- label: the statements' walk. -/
namespace Go.Proofs.YtgaohmfmomeflaaGreatDoor
open Go.Ve

theorem isLabel_len {s : Bs} (h : isLabel s = true) : s.length ≤ 16 := by
  simp only [isLabel, Bool.and_eq_true, decide_eq_true_eq] at h
  exact h.2.2
end Go.Proofs.YtgaohmfmomeflaaGreatDoor
end

section
/- wide: what its functions compute. -/
namespace Go.Proofs.YtgaohmfmomeflaaGreatDoor
open Go.Ve

/-- A number of 128 bits, as its two halves. -/
def wv (N : Nat) : AV := .agg [.int .u64 ((N / H64 : Nat) : Int), .int .u64 ((N % H64 : Nat) : Int)]
theorem hi_lt {N : Nat} (h : N < 2 ^ 128) : N / H64 < H64 := by
  rw [Nat.div_lt_iff_lt_mul (by decide), hh]; exact h
theorem lo_lt (N : Nat) : N % H64 < H64 := Nat.mod_lt _ (by decide)
theorem wrap_nat_u64 (n : Nat) : IntKind.u64.wrap (n : Int) = ((n % H64 : Nat) : Int) := by
  simp [IntKind.wrap, IntKind.signed, IntKind.bits]

theorem and_ok (N M : Nat) (hN : N < 2 ^ 128) (hM : M < 2 ^ 128) : PCall P 162 [wv N, wv M] (wv (N &&& M)) := by
  refine PCall.of_awp tok mixed fn162 (Nat.le_of_ble_eq_true rfl) ?_
  conv => whnf
  repeat' ((first | (with_reducible first | refine Box.mk ?_ | refine And.intro (fun _ => ?_) (fun _ => ?_) | refine (forceH_eq _ _).mpr ?_) | fail) <;> conv => whnf)
  show AV.agg [_, _] = AV.agg [_, _]
  rw [u64_and_nat _ _ (hi_lt hN) (hi_lt hM), u64_and_nat _ _ (lo_lt N) (lo_lt M), (and_halves N M).1, (and_halves N M).2]

def leftN (N : Nat) (n : Int) : Nat := if n < 1 then N else if 128 ≤ n then 0 else N * 2 ^ n.toNat % 2 ^ 128
theorem left_ok (N : Nat) (n : Int) : PCall P 173 [wv N, .int .i64 n] (wv (leftN N n)) := by
  refine PCall.of_awp tok mixed fn173 (Nat.le_of_ble_eq_true rfl) ?_
  conv => whnf
  repeat' ((first | (with_reducible first | refine Box.mk ?_ | refine And.intro (fun _ => ?_) (fun _ => ?_) | refine (forceH_eq _ _).mpr ?_) | fail) <;> conv => whnf)
  · rename_i h1
    rw [leftN, if_pos h1]; rfl
  · rename_i h1 h2
    show AV.agg _ = AV.agg _
    rw [leftN, if_neg h1, if_pos h2]; rfl
  · rename_i h1 h2 h3
    obtain ⟨k, rfl⟩ := Int.eq_ofNat_of_zero_le (show 0 ≤ n by omega)
    have hw : IntKind.i64.wrap ((k : Int) - 64) = ((k - 64 : Nat) : Int) := by rw [wrap_i64 (by omega) (by omega)]; omega
    refine ⟨by show 0 ≤ IntKind.i64.wrap ((k : Int) - 64); rw [hw]; omega, ?_⟩
    conv => whnf
    repeat' ((first | (with_reducible first | refine Box.mk ?_ | refine And.intro (fun _ => ?_) (fun _ => ?_) | refine (forceH_eq _ _).mpr ?_) | fail) <;> conv => whnf)
    obtain ⟨e1, e2⟩ := left_far N k (by omega)
    show AV.agg [_, _] = AV.agg [_, _]
    rw [leftN, if_neg h1, if_neg h2, Int.toNat_natCast, e1, e2, hw, Int.toNat_natCast]
    have e3 : min (k - 64) IntKind.u64.bits = k - 64 := by show min (k - 64) 64 = _; omega
    have e4 : IntKind.u64.wrap (((N % H64 : Nat) : Int) * 2 ^ (k - 64)) = ((N % H64 * 2 ^ (k - 64) % H64 : Nat) : Int) := by rw [← wrap_nat_u64 (N % H64 * 2 ^ (k - 64)), Int.natCast_mul, Int.natCast_pow]; rfl
    rw [e3, e4]; rfl
  · rename_i h1 h2 h3
    obtain ⟨k, rfl⟩ := Int.eq_ofNat_of_zero_le (show 0 ≤ n by omega)
    have hk : k < 64 := by omega
    have hw : IntKind.i64.wrap (64 - (k : Int)) = ((64 - k : Nat) : Int) := by rw [wrap_i64 (by omega) (by omega)]; omega
    refine ⟨[], by kernel_rfl, ?_⟩
    conv => whnf
    repeat' ((first | (with_reducible first | refine Box.mk ?_ | refine And.intro (fun _ => ?_) (fun _ => ?_) | refine (forceH_eq _ _).mpr ?_) | fail) <;> conv => whnf)
    refine ⟨by omega, ?_⟩
    conv => whnf
    repeat' ((first | (with_reducible first | refine Box.mk ?_ | refine And.intro (fun _ => ?_) (fun _ => ?_) | refine (forceH_eq _ _).mpr ?_) | fail) <;> conv => whnf)
    refine ⟨by show 0 ≤ IntKind.i64.wrap (64 - (k : Int)); rw [hw]; omega, ?_⟩
    conv => whnf
    repeat' ((first | (with_reducible first | refine Box.mk ?_ | refine And.intro (fun _ => ?_) (fun _ => ?_) | refine (forceH_eq _ _).mpr ?_) | fail) <;> conv => whnf)
    refine ⟨by omega, ?_⟩
    conv => whnf
    repeat' ((first | (with_reducible first | refine Box.mk ?_ | refine And.intro (fun _ => ?_) (fun _ => ?_) | refine (forceH_eq _ _).mpr ?_) | fail) <;> conv => whnf)
    show AV.agg [_, _] = AV.agg [_, _]
    have e1 : min k IntKind.u64.bits = k := by show min k 64 = _; omega
    have e2 : min (64 - k) IntKind.u64.bits = 64 - k := by show min (64 - k) 64 = _; omega
    have e3 : ∀ m : Nat, IntKind.u64.wrap ((m : Int) * 2 ^ k) = ((m * 2 ^ k % H64 : Nat) : Int) := fun m => by rw [← wrap_nat_u64, Int.natCast_mul, Int.natCast_pow]; rfl
    have e4 : (((N % H64 : Nat) : Int)).fdiv (2 ^ (64 - k)) = ((N % H64 / 2 ^ (64 - k) : Nat) : Int) := by
      rw [Int.natCast_ediv, Int.natCast_pow]
      exact Int.fdiv_eq_ediv_of_nonneg _ (Int.le_of_lt (Int.pow_pos (by decide)))
    rw [hw, Int.toNat_natCast, Int.toNat_natCast, e1, e2, e3, e3, e4, u64_or_nat _ _ (Nat.mod_lt _ (by decide)) (Nat.lt_of_le_of_lt (Nat.div_le_self _ _) (lo_lt N))]
    rw [leftN, if_neg h1, if_neg h2, Int.toNat_natCast, left_hi N k hk, left_lo]
theorem leftN_lt {N : Nat} (hN : N < 2 ^ 128) (n : Int) : leftN N n < 2 ^ 128 := by
  unfold leftN
  split
  · exact hN
  · split
    · decide
    · exact Nat.mod_lt _ (by decide)

def maskN (n : Int) : Nat := if n ≤ 0 then 0 else leftN (2 ^ 128 - 1) (128 - min n 128)
theorem mask_ok (n : Int) : PCall P 163 [.int .i64 n] (wv (maskN n)) := by
  refine PCall.of_awp tok mixed fn163 (Nat.le_of_ble_eq_true rfl) ?_
  conv => whnf
  repeat' ((first | (with_reducible first | refine Box.mk ?_ | refine And.intro (fun _ => ?_) (fun _ => ?_) | refine (forceH_eq _ _).mpr ?_) | fail) <;> conv => whnf)
  · rename_i h1
    rw [maskN, if_pos h1]; rfl
  · rename_i h1
    have hw : IntKind.i64.wrap (128 - min n 128) = 128 - min n 128 := wrap_i64 (by omega) (by omega)
    have c := left_ok (2 ^ 128 - 1) (IntKind.i64.wrap (128 - min n 128))
    rw [hw] at c
    refine ACall.of_pure (args := [.agg [.int .u64 18446744073709551615, .int .u64 18446744073709551615], .int .i64 (IntKind.i64.wrap (128 - min n 128))]) (by rw [hw]; exact c) rfl ?_
    (conv => whnf); (repeat' ((first | (with_reducible first | refine Box.mk ?_ | refine And.intro (fun _ => ?_) (fun _ => ?_) | refine (forceH_eq _ _).mpr ?_) | fail) <;> conv => whnf))
    rw [maskN, if_neg h1]; rfl
theorem and_mask {N : Nat} (hN : N < 2 ^ 128) (n : Int) : N &&& maskN n = topN N (min n 128).toNat := by
  unfold maskN topN
  split
  · rename_i h
    rw [Nat.and_zero, show (min n 128).toNat = 0 by omega, Nat.div_eq_of_lt (by simpa using hN), Nat.zero_mul]
  · rename_i h
    unfold leftN
    split
    · rename_i h1
      have e : (min n 128).toNat = 128 := by omega
      rw [e, Nat.and_two_pow_sub_one_eq_mod, Nat.mod_eq_of_lt hN]
      simp
    · rw [if_neg (by omega)]
      have e : (128 - min n 128).toNat = 128 - (min n 128).toNat := by omega
      rw [e, all_left _ (by omega), and_top N _ hN (by omega)]
theorem top_ok' (N : Nat) (hN : N < 2 ^ 128) (n : Int) : PCall P 147 [wv N, .int .i64 n] (wv (topN N (min n 128).toNat)) := by
  have hM : maskN n < 2 ^ 128 := by
    unfold maskN
    split
    · decide
    · exact leftN_lt (by decide) _
  refine PCall.of_awp tok mixed fn147 (Nat.le_of_ble_eq_true rfl) ?_
  conv => whnf
  repeat' ((first | (with_reducible first | refine Box.mk ?_ | refine And.intro (fun _ => ?_) (fun _ => ?_) | refine (forceH_eq _ _).mpr ?_) | fail) <;> conv => whnf)
  refine ⟨[], by kernel_rfl, ?_⟩
  conv => whnf
  repeat' ((first | (with_reducible first | refine Box.mk ?_ | refine And.intro (fun _ => ?_) (fun _ => ?_) | refine (forceH_eq _ _).mpr ?_) | fail) <;> conv => whnf)
  refine ⟨_, ACall.of_pure (mask_ok n) rfl ⟨rfl, rfl⟩, ?_⟩
  conv => whnf
  repeat' ((first | (with_reducible first | refine Box.mk ?_ | refine And.intro (fun _ => ?_) (fun _ => ?_) | refine (forceH_eq _ _).mpr ?_) | fail) <;> conv => whnf)
  refine ⟨_, ACall.of_pure (and_ok N (maskN n) hN hM) rfl ⟨rfl, rfl⟩, ?_⟩
  conv => whnf
  repeat' ((first | (with_reducible first | refine Box.mk ?_ | refine And.intro (fun _ => ?_) (fun _ => ?_) | refine (forceH_eq _ _).mpr ?_) | fail) <;> conv => whnf)
  rw [and_mask hN]; rfl

theorem wv_eq {A B : Nat} : (((A / H64 : Nat) : Int) = ((B / H64 : Nat) : Int) ∧ ((A % H64 : Nat) : Int) = ((B % H64 : Nat) : Int)) ↔ A = B := by
  refine ⟨fun ⟨h1, h2⟩ => ?_, fun h => by rw [h]; exact ⟨rfl, rfl⟩⟩
  have h3 := Int.ofNat_inj.1 h1
  have h4 := Int.ofNat_inj.1 h2
  rw [← Nat.div_add_mod A H64, ← Nat.div_add_mod B H64, h3, h4]

end Go.Proofs.YtgaohmfmomeflaaGreatDoor
end

section
/- key: what its functions compute. -/
namespace Go.Proofs.YtgaohmfmomeflaaGreatDoor
open Go.Ve

/-- A key: its kind, its length, its bits as one number, its path. -/
structure Ky where
  kind : Int
  len : Int
  n : Nat
  path : Bs
  deriving DecidableEq
def kv (k : Ky) : AV := .agg [.int .i64 k.kind, .int .i64 k.len, .int .u64 ((k.n / H64 : Nat) : Int), .int .u64 ((k.n % H64 : Nat) : Int), .str k.path]
theorem kv_eq {a b : Ky} : (a.kind = b.kind ∧ a.len = b.len ∧ ((a.n / H64 : Nat) : Int) = ((b.n / H64 : Nat) : Int) ∧ ((a.n % H64 : Nat) : Int) = ((b.n % H64 : Nat) : Int) ∧ a.path = b.path) ↔ a = b := by
  refine ⟨fun ⟨h1, h2, h3, h4, h5⟩ => ?_, fun h => by rw [h]; exact ⟨rfl, rfl, rfl, rfl, rfl⟩⟩
  have := wv_eq.1 ⟨h3, h4⟩
  cases a; cases b; simp_all

def widthK (kind : Int) : Int := if kind = 1 then 32 else if kind = 2 then 128 else if kind = 3 then 8 else 0
theorem width_ok (kind : Int) : PCall P 78 [.int .i64 kind] (.int .i64 (widthK kind)) := by
  refine PCall.of_awp tok mixed fn78 (Nat.le_of_ble_eq_true rfl) ?_
  conv => whnf
  repeat' ((first | (with_reducible first | refine Box.mk ?_ | refine And.intro (fun _ => ?_) (fun _ => ?_) | refine (forceH_eq _ _).mpr ?_) | fail) <;> conv => whnf)
  all_goals (refine res1_eq (congrArg (AV.int .i64) ?_); unfold widthK)
  · rename_i h; rw [if_pos h]
  · rename_i h h'; rw [if_neg h, if_pos h']
  · rename_i h h' h''; rw [if_neg h, if_neg h', if_pos h'']
  · rename_i h h' h''; rw [if_neg h, if_neg h', if_neg h'']

theorem bits_ok [Dr] (k : Ky) : PCall P 119 [kv k] (wv k.n) := by
  refine PCall.of_awp tok mixed fn119 (Nat.le_of_ble_eq_true rfl) ?_
  conv => whnf
  repeat' ((first | (with_reducible first | refine Box.mk ?_ | refine And.intro (fun _ => ?_) (fun _ => ?_) | refine (forceH_eq _ _).mpr ?_) | fail) <;> conv => whnf)
  rfl
def ofBitsK (kind n : Int) (N : Nat) : Ky := ⟨kind, n, topN N (min n 128).toNat, []⟩
theorem ofBits_ok (kind n : Int) (N : Nat) (hN : N < 2 ^ 128) : PCall P 118 [.int .i64 kind, .int .i64 n, wv N] (kv (ofBitsK kind n N)) := by
  refine PCall.of_awp tok mixed fn118 (Nat.le_of_ble_eq_true rfl) ?_
  conv => whnf
  repeat' ((first | (with_reducible first | refine Box.mk ?_ | refine And.intro (fun _ => ?_) (fun _ => ?_) | refine (forceH_eq _ _).mpr ?_) | fail) <;> conv => whnf)
  refine ACall.of_pure (top_ok' N hN n) rfl ?_
  conv => whnf
  repeat' ((first | (with_reducible first | refine Box.mk ?_ | refine And.intro (fun _ => ?_) (fun _ => ?_) | refine (forceH_eq _ _).mpr ?_) | fail) <;> conv => whnf)
  rfl
def ofPathK (p : Bs) : Ky := ⟨3, (labs p).length, 0, p⟩
theorem ofPath_ok (p : Bs) (h : p.length < 4294967281) : PCall P 121 [.str p] (kv (ofPathK p)) := by
  refine PCall.of_awp tok mixed fn121 (Nat.le_of_ble_eq_true rfl) ?_
  conv => whnf
  repeat' ((first | (with_reducible first | refine Box.mk ?_ | refine And.intro (fun _ => ?_) (fun _ => ?_) | refine (forceH_eq _ _).mpr ?_) | fail) <;> conv => whnf)
  refine ACall.of_pure (len_ok p h) rfl ?_
  conv => whnf
  repeat' ((first | (with_reducible first | refine Box.mk ?_ | refine And.intro (fun _ => ?_) (fun _ => ?_) | refine (forceH_eq _ _).mpr ?_) | fail) <;> conv => whnf)
  show AV.agg [_, _, _, _, _] = AV.agg [_, _, _, _, _]
  simp [ofPathK]

def rightK (k : Ky) : Bool :=
  if k.kind = 1 ∨ k.kind = 2 then decide (0 ≤ k.len ∧ k.len ≤ widthK k.kind ∧ k.n = topN k.n (min k.len 128).toNat ∧ k.path = []) else
  if k.kind = 3 then okPath k.path && decide (k.len = ((labs k.path).length : Int) ∧ k.n = 0) else false

theorem eqK {k : Ky} : k = ofBitsK k.kind k.len k.n ↔ (k.n = topN k.n (min k.len 128).toNat ∧ k.path = []) := by
  cases k; simp [ofBitsK]
theorem eqP {k : Ky} : k = ofPathK k.path ↔ (k.kind = 3 ∧ k.len = ((labs k.path).length : Int) ∧ k.n = 0) := by
  cases k; simp [ofPathK]
theorem keyRight_ok (k : Ky) (hn : k.n < 2 ^ 128) (hp : k.path.length < 4294967281) : PCall P 89 [kv k] (.bool (rightK k)) := by
  refine PCall.of_awp tok mixed fn89 (Nat.le_of_ble_eq_true rfl) ?_
  have addr : (k.kind = 1 ∨ k.kind = 2) → rightK k = decide (0 ≤ k.len ∧ k.len ≤ widthK k.kind ∧ k.n = topN k.n (min k.len 128).toNat ∧ k.path = []) := fun h => by
    unfold rightK; rw [if_pos h]
  conv => whnf
  repeat' ((first | (with_reducible first | refine Box.mk ?_ | refine And.intro (fun _ => ?_) (fun _ => ?_) | refine (forceH_eq _ _).mpr ?_) | fail) <;> conv => whnf)
  all_goals try refine ⟨[], by kernel_rfl, ?_⟩
  all_goals ((conv => whnf); (repeat' ((first | (with_reducible first | refine Box.mk ?_ | refine And.intro (fun _ => ?_) (fun _ => ?_) | refine (forceH_eq _ _).mpr ?_) | fail) <;> conv => whnf)))
  · rename_i hk h0
    refine ⟨_, ACall.of_pure (width_ok k.kind) rfl ⟨rfl, rfl⟩, ?_⟩
    conv => whnf
    repeat' ((first | (with_reducible first | refine Box.mk ?_ | refine And.intro (fun _ => ?_) (fun _ => ?_) | refine (forceH_eq _ _).mpr ?_) | fail) <;> conv => whnf)
    · rename_i hw
      refine ⟨_, ACall.of_pure (bits_ok k) rfl ⟨rfl, rfl⟩, ?_⟩
      conv => whnf
      repeat' ((first | (with_reducible first | refine Box.mk ?_ | refine And.intro (fun _ => ?_) (fun _ => ?_) | refine (forceH_eq _ _).mpr ?_) | fail) <;> conv => whnf)
      refine ⟨_, ACall.of_pure (ofBits_ok k.kind k.len k.n hn) rfl ⟨rfl, rfl⟩, ?_⟩
      conv => whnf
      repeat' ((first | (with_reducible first | refine Box.mk ?_ | refine And.intro (fun _ => ?_) (fun _ => ?_) | refine (forceH_eq _ _).mpr ?_) | fail) <;> conv => whnf)
      · rename_i he
        have he := eqK.1 (kv_eq.1 he)
        exact bool_true (by rw [addr (by omega)]; exact decide_eq_true ⟨h0, hw, he.1, he.2⟩)
      · rename_i he
        have he : ¬ (k.n = topN k.n (min k.len 128).toNat ∧ k.path = []) := fun h => he (kv_eq.2 (eqK.2 h))
        exact bool_false (by rw [addr (by omega)]; exact decide_eq_false fun h => he ⟨h.2.2.1, h.2.2.2⟩)
    · rename_i hw
      exact bool_false (by rw [addr (by omega)]; exact decide_eq_false fun h => hw h.2.1)
  · rename_i hk h0
    exact bool_false (by rw [addr (by omega)]; exact decide_eq_false fun h => h0 h.1)
  · rename_i hk1 hk h0
    refine ⟨_, ACall.of_pure (width_ok k.kind) rfl ⟨rfl, rfl⟩, ?_⟩
    conv => whnf
    repeat' ((first | (with_reducible first | refine Box.mk ?_ | refine And.intro (fun _ => ?_) (fun _ => ?_) | refine (forceH_eq _ _).mpr ?_) | fail) <;> conv => whnf)
    · rename_i hw
      refine ⟨_, ACall.of_pure (bits_ok k) rfl ⟨rfl, rfl⟩, ?_⟩
      conv => whnf
      repeat' ((first | (with_reducible first | refine Box.mk ?_ | refine And.intro (fun _ => ?_) (fun _ => ?_) | refine (forceH_eq _ _).mpr ?_) | fail) <;> conv => whnf)
      refine ⟨_, ACall.of_pure (ofBits_ok k.kind k.len k.n hn) rfl ⟨rfl, rfl⟩, ?_⟩
      conv => whnf
      repeat' ((first | (with_reducible first | refine Box.mk ?_ | refine And.intro (fun _ => ?_) (fun _ => ?_) | refine (forceH_eq _ _).mpr ?_) | fail) <;> conv => whnf)
      · rename_i he
        have he := eqK.1 (kv_eq.1 he)
        exact bool_true (by rw [addr (by omega)]; exact decide_eq_true ⟨h0, hw, he.1, he.2⟩)
      · rename_i he
        have he : ¬ (k.n = topN k.n (min k.len 128).toNat ∧ k.path = []) := fun h => he (kv_eq.2 (eqK.2 h))
        exact bool_false (by rw [addr (by omega)]; exact decide_eq_false fun h => he ⟨h.2.2.1, h.2.2.2⟩)
    · rename_i hw
      exact bool_false (by rw [addr (by omega)]; exact decide_eq_false fun h => hw h.2.1)
  · rename_i hk1 hk h0
    exact bool_false (by rw [addr (by omega)]; exact decide_eq_false fun h => h0 h.1)
  · rename_i h1 h2 h3
    refine ⟨_, ACall.of_pure (right_ok k.path hp) rfl ⟨rfl, rfl⟩, ?_⟩
    have hr : rightK k = (okPath k.path && decide (k.len = ((labs k.path).length : Int) ∧ k.n = 0)) := by
      unfold rightK; rw [if_neg (by omega), if_pos h3]
    cases hb : okPath k.path
    · (conv => whnf); (repeat' ((first | (with_reducible first | refine Box.mk ?_ | refine And.intro (fun _ => ?_) (fun _ => ?_) | refine (forceH_eq _ _).mpr ?_) | fail) <;> conv => whnf))
      exact bool_false (by rw [hr, hb]; rfl)
    · (conv => whnf); (repeat' ((first | (with_reducible first | refine Box.mk ?_ | refine And.intro (fun _ => ?_) (fun _ => ?_) | refine (forceH_eq _ _).mpr ?_) | fail) <;> conv => whnf))
      refine ⟨_, ACall.of_pure (ofPath_ok k.path hp) rfl ⟨rfl, rfl⟩, ?_⟩
      (conv => whnf); (repeat' ((first | (with_reducible first | refine Box.mk ?_ | refine And.intro (fun _ => ?_) (fun _ => ?_) | refine (forceH_eq _ _).mpr ?_) | fail) <;> conv => whnf))
      · rename_i he
        have he := eqP.1 (kv_eq.1 he)
        exact bool_true (by rw [hr, hb]; exact decide_eq_true he.2)
      · rename_i he
        have he : ¬ (k.kind = 3 ∧ k.len = ((labs k.path).length : Int) ∧ k.n = 0) := fun h => he (kv_eq.2 (eqP.2 h))
        exact bool_false (by rw [hr, hb]; exact decide_eq_false fun h => he ⟨h3, h⟩)
  · rename_i h1 h2 h3
    exact bool_false (by unfold rightK; rw [if_neg (by omega), if_neg h3])
end Go.Proofs.YtgaohmfmomeflaaGreatDoor
end

section
/- key: what its functions compute, further. -/
namespace Go.Proofs.YtgaohmfmomeflaaGreatDoor
open Go.Ve

def zeroK : Ky := ⟨0, 0, 0, []⟩
def rootK (kind : Int) : Ky := if widthK kind = 0 then zeroK else ⟨kind, 0, 0, []⟩
theorem root_ok (kind : Int) : PCall P 57 [.int .i64 kind] (kv (rootK kind)) := by
  refine PCall.of_awp tok mixed fn57 (Nat.le_of_ble_eq_true rfl) ?_
  conv => whnf
  repeat' ((first | (with_reducible first | refine Box.mk ?_ | refine And.intro (fun _ => ?_) (fun _ => ?_) | refine (forceH_eq _ _).mpr ?_) | fail) <;> conv => whnf)
  refine ACall.of_pure (width_ok kind) rfl ?_
  conv => whnf
  repeat' ((first | (with_reducible first | refine Box.mk ?_ | refine And.intro (fun _ => ?_) (fun _ => ?_) | refine (forceH_eq _ _).mpr ?_) | fail) <;> conv => whnf)
  · rename_i h
    rw [rootK, if_pos h]
    show AV.agg [_, _, _, _, _] = AV.agg [_, _, _, _, _]
    simp [zeroK]
  · rename_i h
    rw [rootK, if_neg h]
    show AV.agg [_, _, _, _, _] = AV.agg [_, _, _, _, _]
    simp

def cutK (k : Ky) (n : Int) : Ky := if k.kind = 3 then ofPathK (joinD ((labs k.path).take (min (max n 0) k.len).toNat)) else ofBitsK k.kind (min (max n 0) k.len) k.n
theorem cut_ok (k : Ky) (n : Int) (hn : k.n < 2 ^ 128) (hp : k.path.length < 134217728) : PCall P 146 [kv k, .int .i64 n] (kv (cutK k n)) := by
  have hp' : k.path.length < 4294967281 := by omega
  have hj : (joinD ((labs k.path).take (min (max n 0) k.len).toNat)).length < 4294967281 := by
    have h1 := joinD_take_len (i := (min (max n 0) k.len).toNat) (labs_len k.path).2
    have h2 : (labs k.path).length * k.path.length ≤ 8 * k.path.length := Nat.mul_le_mul_right _ (labs_len k.path).1
    have := (labs_len k.path).1
    omega
  refine PCall.of_awp tok mixed fn146 (Nat.le_of_ble_eq_true rfl) ?_
  conv => whnf
  repeat' ((first | (with_reducible first | refine Box.mk ?_ | refine And.intro (fun _ => ?_) (fun _ => ?_) | refine (forceH_eq _ _).mpr ?_) | fail) <;> conv => whnf)
  · rename_i h3
    refine ACall.of_pure (top_ok k.path (min (max n 0) k.len) hp') rfl ?_
    conv => whnf
    repeat' ((first | (with_reducible first | refine Box.mk ?_ | refine And.intro (fun _ => ?_) (fun _ => ?_) | refine (forceH_eq _ _).mpr ?_) | fail) <;> conv => whnf)
    refine ACall.of_pure (ofPath_ok _ hj) rfl ?_
    conv => whnf
    repeat' ((first | (with_reducible first | refine Box.mk ?_ | refine And.intro (fun _ => ?_) (fun _ => ?_) | refine (forceH_eq _ _).mpr ?_) | fail) <;> conv => whnf)
    rw [cutK, if_pos h3]; rfl
  · rename_i h3
    refine ⟨[], by kernel_rfl, ?_⟩
    conv => whnf
    repeat' ((first | (with_reducible first | refine Box.mk ?_ | refine And.intro (fun _ => ?_) (fun _ => ?_) | refine (forceH_eq _ _).mpr ?_) | fail) <;> conv => whnf)
    refine ⟨_, ACall.of_pure (bits_ok k) rfl ⟨rfl, rfl⟩, ?_⟩
    conv => whnf
    repeat' ((first | (with_reducible first | refine Box.mk ?_ | refine And.intro (fun _ => ?_) (fun _ => ?_) | refine (forceH_eq _ _).mpr ?_) | fail) <;> conv => whnf)
    refine ⟨_, ACall.of_pure (ofBits_ok k.kind (min (max n 0) k.len) k.n hn) rfl ⟨rfl, rfl⟩, ?_⟩
    conv => whnf
    repeat' ((first | (with_reducible first | refine Box.mk ?_ | refine And.intro (fun _ => ?_) (fun _ => ?_) | refine (forceH_eq _ _).mpr ?_) | fail) <;> conv => whnf)
    rw [cutK, if_neg h3]; rfl
def cutU (k : Ky) (n : Int) : Ky := bif rightK k then cutK k n else zeroK
theorem keyCut_ok (k : Ky) (n : Int) (hn : k.n < 2 ^ 128) (hp : k.path.length < 134217728) : PCall P 117 [kv k, .int .i64 n] (kv (cutU k n)) := by
  refine PCall.of_awp tok mixed fn117 (Nat.le_of_ble_eq_true rfl) ?_
  conv => whnf
  repeat' ((first | (with_reducible first | refine Box.mk ?_ | refine And.intro (fun _ => ?_) (fun _ => ?_) | refine (forceH_eq _ _).mpr ?_) | fail) <;> conv => whnf)
  refine ACall.of_pure (keyRight_ok k hn (by omega)) rfl ?_
  cases hb : rightK k
  · (conv => whnf); (repeat' ((first | (with_reducible first | refine Box.mk ?_ | refine And.intro (fun _ => ?_) (fun _ => ?_) | refine (forceH_eq _ _).mpr ?_) | fail) <;> conv => whnf))
    rw [cutU, hb]
    show AV.agg [_, _, _, _, _] = AV.agg [_, _, _, _, _]
    simp [zeroK]
  · (conv => whnf); (repeat' ((first | (with_reducible first | refine Box.mk ?_ | refine And.intro (fun _ => ?_) (fun _ => ?_) | refine (forceH_eq _ _).mpr ?_) | fail) <;> conv => whnf))
    refine ACall.of_pure (cut_ok k n hn hp) rfl ?_
    (conv => whnf); (repeat' ((first | (with_reducible first | refine Box.mk ?_ | refine And.intro (fun _ => ?_) (fun _ => ?_) | refine (forceH_eq _ _).mpr ?_) | fail) <;> conv => whnf))
    rw [cutU, hb]; rfl
end Go.Proofs.YtgaohmfmomeflaaGreatDoor
end

section
/- key: over, and where two keys meet. -/
namespace Go.Proofs.YtgaohmfmomeflaaGreatDoor
open Go.Ve

end Go.Proofs.YtgaohmfmomeflaaGreatDoor
end

section
/- key: which key stands ahead. -/
namespace Go.Proofs.YtgaohmfmomeflaaGreatDoor
open Go.Ve

theorem nanI_ok [Dr] (a : Int) : PCall P 116 [.int .i64 a] (.bool false) := by
  refine PCall.of_awp tok mixed fn116 (Nat.le_of_ble_eq_true rfl) ?_
  conv => whnf
  repeat' ((first | (with_reducible first | refine Box.mk ?_ | refine And.intro (fun _ => ?_) (fun _ => ?_) | refine (forceH_eq _ _).mpr ?_) | fail) <;> conv => whnf)
  · rfl
  · exact absurd rfl ‹¬ a = a›
theorem nanU_ok [Dr] (a : Int) : PCall P 151 [.int .u64 a] (.bool false) := by
  refine PCall.of_awp tok mixed fn151 (Nat.le_of_ble_eq_true rfl) ?_
  conv => whnf
  repeat' ((first | (with_reducible first | refine Box.mk ?_ | refine And.intro (fun _ => ?_) (fun _ => ?_) | refine (forceH_eq _ _).mpr ?_) | fail) <;> conv => whnf)
  · rfl
  · exact absurd rfl ‹¬ a = a›
def cmpI (a b : Int) : Int := if a < b then -1 else if b < a then 1 else 0
theorem cmpI_ok [Dr] (a b : Int) : PCall P 85 [.int .i64 a, .int .i64 b] (.int .i64 (cmpI a b)) := by
  refine PCall.of_awp tok mixed fn85 (Nat.le_of_ble_eq_true rfl) ?_
  conv => whnf
  repeat' ((first | (with_reducible first | refine Box.mk ?_ | refine And.intro (fun _ => ?_) (fun _ => ?_) | refine (forceH_eq _ _).mpr ?_) | fail) <;> conv => whnf)
  refine ACall.of_pure (nanI_ok a) rfl ?_
  conv => whnf
  repeat' ((first | (with_reducible first | refine Box.mk ?_ | refine And.intro (fun _ => ?_) (fun _ => ?_) | refine (forceH_eq _ _).mpr ?_) | fail) <;> conv => whnf)
  refine ACall.of_pure (nanI_ok b) rfl ?_
  conv => whnf
  repeat' ((first | (with_reducible first | refine Box.mk ?_ | refine And.intro (fun _ => ?_) (fun _ => ?_) | refine (forceH_eq _ _).mpr ?_) | fail) <;> conv => whnf)
  all_goals (refine res1_eq (congrArg (AV.int .i64) ?_); unfold cmpI)
  · rename_i h; rw [if_pos h]
  · rename_i h h'; rw [if_neg h, if_pos h']
  · rename_i h h'; rw [if_neg h, if_neg h']
theorem cmpU_ok [Dr] (a b : Int) : PCall P 123 [.int .u64 a, .int .u64 b] (.int .i64 (cmpI a b)) := by
  refine PCall.of_awp tok mixed fn123 (Nat.le_of_ble_eq_true rfl) ?_
  conv => whnf
  repeat' ((first | (with_reducible first | refine Box.mk ?_ | refine And.intro (fun _ => ?_) (fun _ => ?_) | refine (forceH_eq _ _).mpr ?_) | fail) <;> conv => whnf)
  refine ACall.of_pure (nanU_ok a) rfl ?_
  conv => whnf
  repeat' ((first | (with_reducible first | refine Box.mk ?_ | refine And.intro (fun _ => ?_) (fun _ => ?_) | refine (forceH_eq _ _).mpr ?_) | fail) <;> conv => whnf)
  refine ACall.of_pure (nanU_ok b) rfl ?_
  conv => whnf
  repeat' ((first | (with_reducible first | refine Box.mk ?_ | refine And.intro (fun _ => ?_) (fun _ => ?_) | refine (forceH_eq _ _).mpr ?_) | fail) <;> conv => whnf)
  all_goals (refine res1_eq (congrArg (AV.int .i64) ?_); unfold cmpI)
  · rename_i h; rw [if_pos h]
  · rename_i h h'; rw [if_neg h, if_pos h']
  · rename_i h h'; rw [if_neg h, if_neg h']

/-- The first number that is not 0. -/
def orI : List Int → Int
  | [] => 0
  | x :: xs => if x = 0 then orI xs else x
def ints (l : List Int) : List (List AV) := l.map fun x => [.int .i64 x]
theorem orI_hit : ∀ {l : List Int} {i : Nat} {x : Int}, l[i]? = some x → x ≠ 0 → (∀ j y, j < i → l[j]? = some y → y = 0) → orI l = x
  | [], i, x, h, _, _ => by simp at h
  | y :: l, 0, x, h, hx, _ => by simp at h; subst h; simp [orI, hx]
  | y :: l, i + 1, x, h, hx, hn => by
    rw [orI, if_pos (hn 0 y (by omega) rfl), orI_hit (i := i) (by simpa using h) hx fun j z hj hz => hn (j + 1) z (by omega) (by simpa using hz)]
theorem orI_miss : ∀ {l : List Int}, (∀ y ∈ l, y = 0) → orI l = 0
  | [], _ => rfl
  | y :: l, h => by rw [orI, if_pos (h y List.mem_cons_self), orI_miss fun z hz => h z (List.mem_cons_of_mem _ hz)]
theorem or_ok [Dr] (l : List Int) (hl : l.length ≤ 9223372036854775807) : PCall P 84 [.sl (ints l)] (.int .i64 (orI l)) := by
  have hlen : (ints l).length = l.length := by simp [ints]
  refine PCall.of_awp tok mixed fn84 (Nat.le_of_ble_eq_true rfl) ?_
  conv => whnf
  repeat' ((first | (with_reducible first | refine Box.mk ?_ | refine And.intro (fun _ => ?_) (fun _ => ?_) | refine (forceH_eq _ _).mpr ?_) | fail) <;> conv => whnf)
  refine aloop (fun i => i ≤ l.length ∧ ∀ j y, j < i → l[j]? = some y → y = 0) (fun i : Nat => ⟨envL [(3, .int .i64 0), (6, .sl (ints l)), (7, .int .i64 l.length), (8, .int .i64 i)], []⟩) (fun i => l.length - i) 0
    ⟨Nat.zero_le _, fun j y h => by omega⟩ (weak_to ⟨rfl, rfl, by show AV.int _ _ = _; rw [hlen], rfl, trivial⟩ rfl) ?_
  rintro i ⟨hi, hz⟩
  conv => whnf
  repeat' ((first | (with_reducible first | refine Box.mk ?_ | refine And.intro (fun _ => ?_) (fun _ => ?_) | refine (forceH_eq _ _).mpr ?_) | fail) <;> conv => whnf)
  · rename_i hlt
    have hlt' : i < l.length := by omega
    refine ⟨by omega, [.int .i64 l[i]], by show (ints l)[i]? = _; simp [ints, hlt'], rfl, ?_⟩
    conv => whnf
    repeat' ((first | (with_reducible first | refine Box.mk ?_ | refine And.intro (fun _ => ?_) (fun _ => ?_) | refine (forceH_eq _ _).mpr ?_) | fail) <;> conv => whnf)
    · rename_i h0
      refine ⟨i + 1, ⟨hlt', fun j y hj hy => ?_⟩, by omega, weak_to ⟨rfl, rfl, rfl, wrap_nat (m := 1) (by omega), trivial⟩ rfl⟩
      by_cases hji : j = i
      · subst hji
        rw [List.getElem?_eq_getElem hlt'] at hy
        rw [← Option.some.inj hy]; exact h0
      · exact hz j y (by omega) hy
    · rename_i h0
      refine res1_eq (congrArg (AV.int .i64) ?_)
      rw [orI_hit (List.getElem?_eq_getElem hlt') h0 hz]
  · refine res1_eq (congrArg (AV.int .i64) ?_)
    rw [orI_miss]
    intro y hy
    obtain ⟨j, hj⟩ := List.getElem?_of_mem hy
    exact hz j y (by have := (List.getElem?_eq_some_iff.1 hj).1; omega) hj
end Go.Proofs.YtgaohmfmomeflaaGreatDoor
end

section
/- key: which key stands ahead, further. -/
namespace Go.Proofs.YtgaohmfmomeflaaGreatDoor
open Go.Ve

theorem lib_Compare [Dr] (a b : Bs) : PCall P 122 [.str a, .str b] (.int .i64 (Lib.compareBytes a b)) := by
  unfold PCall
  refine ⟨fn122.callable, fun M0 w vs hM hG hv => ?_⟩
  obtain ⟨hl, hv⟩ := hv
  obtain ⟨v0, v1, rfl⟩ : ∃ v0 v1, vs = [v0, v1] := by
    match vs, hl with
    | [a, b], _ => exact ⟨a, b, rfl⟩
  have e0 := (hv 0 _ rfl).str_inv
  have e1 := (hv 1 _ rfl).str_inv
  simp at e0 e1
  subst e0 e1
  refine (Tryz.strings_Compare ⟨a.toArray⟩ ⟨b.toArray⟩ w).mono ?_
  rintro e w' ⟨rfl, rfl⟩
  exact ⟨_, rfl, Below.refl _ _, .int _ _ _⟩

def wcmp (A B : Nat) : Int := orI [cmpI ((A / H64 : Nat) : Int) ((B / H64 : Nat) : Int), cmpI ((A % H64 : Nat) : Int) ((B % H64 : Nat) : Int)]
theorem wcmp_ok [Dr] (A B : Nat) : PCall P 92 [wv A, wv B] (.int .i64 (wcmp A B)) := by
  refine PCall.of_awp tok mixed fn92 (Nat.le_of_ble_eq_true rfl) ?_
  conv => whnf
  repeat' ((first | (with_reducible first | refine Box.mk ?_ | refine And.intro (fun _ => ?_) (fun _ => ?_) | refine (forceH_eq _ _).mpr ?_) | fail) <;> conv => whnf)
  refine ⟨[], by kernel_rfl, ?_⟩
  conv => whnf
  repeat' ((first | (with_reducible first | refine Box.mk ?_ | refine And.intro (fun _ => ?_) (fun _ => ?_) | refine (forceH_eq _ _).mpr ?_) | fail) <;> conv => whnf)
  refine ⟨_, ACall.of_pure (cmpU_ok _ _) rfl ⟨rfl, rfl⟩, ?_⟩
  conv => whnf
  repeat' ((first | (with_reducible first | refine Box.mk ?_ | refine And.intro (fun _ => ?_) (fun _ => ?_) | refine (forceH_eq _ _).mpr ?_) | fail) <;> conv => whnf)
  refine ⟨_, ACall.of_pure (cmpU_ok _ _) rfl ⟨rfl, rfl⟩, ?_⟩
  conv => whnf
  repeat' ((first | (with_reducible first | refine Box.mk ?_ | refine And.intro (fun _ => ?_) (fun _ => ?_) | refine (forceH_eq _ _).mpr ?_) | fail) <;> conv => whnf)
  refine ⟨_, ACall.of_view (or_ok [cmpI ((A / H64 : Nat) : Int) ((B / H64 : Nat) : Int), cmpI ((A % H64 : Nat) : Int) ((B % H64 : Nat) : Int)] (by simp)) rfl rfl ⟨rfl, rfl⟩, ?_⟩
  conv => whnf
  repeat' ((first | (with_reducible first | refine Box.mk ?_ | refine And.intro (fun _ => ?_) (fun _ => ?_) | refine (forceH_eq _ _).mpr ?_) | fail) <;> conv => whnf)
  rfl
def cmpK (a b : Ky) : Int := orI [cmpI a.kind b.kind, wcmp a.n b.n, Lib.compareBytes a.path b.path, cmpI a.len b.len]
theorem cmpK_ok [Dr] (a b : Ky) : PCall P 91 [kv a, kv b] (.int .i64 (cmpK a b)) := by
  refine PCall.of_awp tok mixed fn91 (Nat.le_of_ble_eq_true rfl) ?_
  conv => whnf
  repeat' ((first | (with_reducible first | refine Box.mk ?_ | refine And.intro (fun _ => ?_) (fun _ => ?_) | refine (forceH_eq _ _).mpr ?_) | fail) <;> conv => whnf)
  refine ⟨[], by kernel_rfl, ?_⟩
  conv => whnf
  repeat' ((first | (with_reducible first | refine Box.mk ?_ | refine And.intro (fun _ => ?_) (fun _ => ?_) | refine (forceH_eq _ _).mpr ?_) | fail) <;> conv => whnf)
  refine ⟨_, ACall.of_pure (cmpI_ok _ _) rfl ⟨rfl, rfl⟩, ?_⟩
  conv => whnf
  repeat' ((first | (with_reducible first | refine Box.mk ?_ | refine And.intro (fun _ => ?_) (fun _ => ?_) | refine (forceH_eq _ _).mpr ?_) | fail) <;> conv => whnf)
  refine ⟨_, ACall.of_pure (bits_ok a) rfl ⟨rfl, rfl⟩, ?_⟩
  conv => whnf
  repeat' ((first | (with_reducible first | refine Box.mk ?_ | refine And.intro (fun _ => ?_) (fun _ => ?_) | refine (forceH_eq _ _).mpr ?_) | fail) <;> conv => whnf)
  refine ⟨_, ACall.of_pure (bits_ok b) rfl ⟨rfl, rfl⟩, ?_⟩
  conv => whnf
  repeat' ((first | (with_reducible first | refine Box.mk ?_ | refine And.intro (fun _ => ?_) (fun _ => ?_) | refine (forceH_eq _ _).mpr ?_) | fail) <;> conv => whnf)
  refine ⟨_, ACall.of_pure (wcmp_ok _ _) rfl ⟨rfl, rfl⟩, ?_⟩
  conv => whnf
  repeat' ((first | (with_reducible first | refine Box.mk ?_ | refine And.intro (fun _ => ?_) (fun _ => ?_) | refine (forceH_eq _ _).mpr ?_) | fail) <;> conv => whnf)
  refine ⟨_, ACall.of_pure (lib_Compare _ _) rfl ⟨rfl, rfl⟩, ?_⟩
  conv => whnf
  repeat' ((first | (with_reducible first | refine Box.mk ?_ | refine And.intro (fun _ => ?_) (fun _ => ?_) | refine (forceH_eq _ _).mpr ?_) | fail) <;> conv => whnf)
  refine ⟨_, ACall.of_pure (cmpI_ok _ _) rfl ⟨rfl, rfl⟩, ?_⟩
  conv => whnf
  repeat' ((first | (with_reducible first | refine Box.mk ?_ | refine And.intro (fun _ => ?_) (fun _ => ?_) | refine (forceH_eq _ _).mpr ?_) | fail) <;> conv => whnf)
  refine ⟨_, ACall.of_view (or_ok [cmpI a.kind b.kind, wcmp a.n b.n, Lib.compareBytes a.path b.path, cmpI a.len b.len] (by simp)) rfl rfl ⟨rfl, rfl⟩, ?_⟩
  conv => whnf
  repeat' ((first | (with_reducible first | refine Box.mk ?_ | refine And.intro (fun _ => ?_) (fun _ => ?_) | refine (forceH_eq _ _).mpr ?_) | fail) <;> conv => whnf)
  rfl
end Go.Proofs.YtgaohmfmomeflaaGreatDoor
end

section
/- dim: what its functions compute. -/
namespace Go.Proofs.YtgaohmfmomeflaaGreatDoor
open Go.Ve

/-- A dimension: its kind, its side, its step. -/
structure Dm where
  kind : Int
  side : Int
  step : Int
  deriving DecidableEq
def dmv (d : Dm) : AV := .agg [.int .i64 d.kind, .int .i64 d.side, .int .i64 d.step]
def rightD (d : Dm) : Bool := decide ((d.side = 1 ∨ d.side = 2) ∧ 1 ≤ d.step ∧ d.step ≤ widthK d.kind)
theorem widthK_le (kind : Int) : 0 ≤ widthK kind ∧ widthK kind ≤ 128 := by
  unfold widthK; split <;> (try split) <;> (try split) <;> omega
theorem rightD_step {d : Dm} (h : rightD d = true) : (d.side = 1 ∨ d.side = 2) ∧ 1 ≤ d.step ∧ d.step ≤ widthK d.kind := of_decide_eq_true h
theorem dRight_ok (d : Dm) : PCall P 49 [dmv d] (.bool (rightD d)) := by
  have q1 := width_ok d.kind
  refine PCall.of_awp tok mixed fn49 (Nat.le_of_ble_eq_true rfl) ?_
  (conv => whnf); (repeat' ((first | (with_reducible first | refine Box.mk ?_ | refine And.intro (fun _ => ?_) (fun _ => ?_) | refine (forceH_eq _ _).mpr ?_) | refine ACall.of_pure (by assumption) (by rfl) ?_ | ((with_reducible show Exists _); refine ⟨_, ACall.of_pure (by assumption) (by rfl) ⟨rfl, rfl⟩, ?_⟩) | ((with_reducible show ∃ L, drawR L _ = true ∧ _); refine ⟨[], by kernel_rfl, ?_⟩) | ((with_reducible show _ ∧ _ ∧ _); refine ⟨by omega, by omega, ?_⟩) | fail) <;> conv => whnf))
  all_goals first
    | contradiction
    | exact bool_true (decide_eq_true ⟨by omega, by omega, by omega⟩)
    | exact bool_false (decide_eq_false fun h => by omega)
def depthD (d : Dm) : Int := bif rightD d then (widthK d.kind + d.step - 1) / d.step else 0
theorem depthD_eq {d : Dm} (h : rightD d = true) : depthD d = (widthK d.kind + d.step - 1) / d.step := by rw [depthD, h, cond_true]
theorem depthD_le {d : Dm} : 0 ≤ depthD d ∧ depthD d ≤ 128 := by
  cases h : rightD d
  · rw [depthD, h, cond_false]; omega
  · obtain ⟨_, h1, h2⟩ := rightD_step h
    have h3 := widthK_le d.kind
    rw [depthD_eq h]
    refine ⟨Int.ediv_nonneg (by omega) (by omega), ?_⟩
    have h4 : (widthK d.kind + d.step - 1) / d.step * d.step ≤ widthK d.kind + d.step - 1 := Int.ediv_mul_le _ (by omega)
    have h5 : (widthK d.kind + d.step - 1) / d.step < widthK d.kind + 1 := by
      refine Int.ediv_lt_of_lt_mul (by omega) ?_
      have := Int.mul_le_mul_of_nonneg_left h1 (show (0 : Int) ≤ widthK d.kind by omega)
      rw [Int.add_mul]
      omega
    omega
theorem dDepth_ok (d : Dm) : PCall P 56 [dmv d] (.int .i64 (depthD d)) := by
  have q1 := width_ok d.kind
  have q2 := dRight_ok d
  have hw := widthK_le d.kind
  cases hr : rightD d
  · rw [hr] at q2
    refine PCall.of_awp tok mixed fn56 (Nat.le_of_ble_eq_true rfl) ?_
    (conv => whnf); (repeat' ((first | (with_reducible first | refine Box.mk ?_ | refine And.intro (fun _ => ?_) (fun _ => ?_) | refine (forceH_eq _ _).mpr ?_) | refine ACall.of_pure (by assumption) (by rfl) ?_ | ((with_reducible show Exists _); refine ⟨_, ACall.of_pure (by assumption) (by rfl) ⟨rfl, rfl⟩, ?_⟩) | ((with_reducible show ∃ L, drawR L _ = true ∧ _); refine ⟨[], by kernel_rfl, ?_⟩) | ((with_reducible show _ ∧ _ ∧ _); refine ⟨by omega, by omega, ?_⟩) | fail) <;> conv => whnf))
    all_goals first
      | contradiction
      | (rw [depthD, hr]; rfl)
  · rw [hr] at q2
    obtain ⟨_, h1, h2⟩ := rightD_step hr
    have e1 : IntKind.i64.wrap (widthK d.kind + d.step) = widthK d.kind + d.step := wrap_i64 (by omega) (by omega)
    have e2 : IntKind.i64.wrap (widthK d.kind + d.step - 1) = widthK d.kind + d.step - 1 := wrap_i64 (by omega) (by omega)
    refine PCall.of_awp tok mixed fn56 (Nat.le_of_ble_eq_true rfl) ?_
    (conv => whnf); (repeat' ((first | (with_reducible first | refine Box.mk ?_ | refine And.intro (fun _ => ?_) (fun _ => ?_) | refine (forceH_eq _ _).mpr ?_) | refine ACall.of_pure (by assumption) (by rfl) ?_ | ((with_reducible show Exists _); refine ⟨_, ACall.of_pure (by assumption) (by rfl) ⟨rfl, rfl⟩, ?_⟩) | ((with_reducible show ∃ L, drawR L _ = true ∧ _); refine ⟨[], by kernel_rfl, ?_⟩) | ((with_reducible show _ ∧ _ ∧ _); refine ⟨by omega, by omega, ?_⟩) | fail) <;> conv => whnf))
    all_goals try contradiction
    refine ⟨by omega, ?_⟩
    (conv => whnf); (repeat' ((first | (with_reducible first | refine Box.mk ?_ | refine And.intro (fun _ => ?_) (fun _ => ?_) | refine (forceH_eq _ _).mpr ?_) | refine ACall.of_pure (by assumption) (by rfl) ?_ | ((with_reducible show Exists _); refine ⟨_, ACall.of_pure (by assumption) (by rfl) ⟨rfl, rfl⟩, ?_⟩) | ((with_reducible show ∃ L, drawR L _ = true ∧ _); refine ⟨[], by kernel_rfl, ?_⟩) | ((with_reducible show _ ∧ _ ∧ _); refine ⟨by omega, by omega, ?_⟩) | fail) <;> conv => whnf))
    refine res1_eq (congrArg (AV.int .i64) ?_)
    have h3 := @depthD_le d
    rw [depthD_eq hr] at h3 ⊢
    rw [e1, e2, Int.tdiv_eq_ediv_of_nonneg (by omega)]
    exact wrap_i64 (by omega) (by omega)
def lenD (d : Dm) (l : Int) : Int := if rightD d = true ∧ 0 ≤ l ∧ l ≤ depthD d then max 0 (widthK d.kind - l * d.step) else -1
theorem dLen_ok (d : Dm) (l : Int) : PCall P 88 [dmv d, .int .i64 l] (.int .i64 (lenD d l)) := by
  have q1 := width_ok d.kind
  have q2 := dRight_ok d
  have q3 := dDepth_ok d
  have hw := widthK_le d.kind
  have hd := @depthD_le d
  cases hr : rightD d
  · rw [hr] at q2
    refine PCall.of_awp tok mixed fn88 (Nat.le_of_ble_eq_true rfl) ?_
    (conv => whnf); (repeat' ((first | (with_reducible first | refine Box.mk ?_ | refine And.intro (fun _ => ?_) (fun _ => ?_) | refine (forceH_eq _ _).mpr ?_) | refine ACall.of_pure (by assumption) (by rfl) ?_ | ((with_reducible show Exists _); refine ⟨_, ACall.of_pure (by assumption) (by rfl) ⟨rfl, rfl⟩, ?_⟩) | ((with_reducible show ∃ L, drawR L _ = true ∧ _); refine ⟨[], by kernel_rfl, ?_⟩) | ((with_reducible show _ ∧ _ ∧ _); refine ⟨by omega, by omega, ?_⟩) | fail) <;> conv => whnf))
    all_goals first
      | contradiction
      | (rw [lenD, if_neg (fun h => by rw [hr] at h; exact absurd h.1 (by decide))]; rfl)
  · rw [hr] at q2
    obtain ⟨_, h1, h2⟩ := rightD_step hr
    generalize hdd : depthD d = dd at *
    refine PCall.of_awp tok mixed fn88 (Nat.le_of_ble_eq_true rfl) ?_
    (conv => whnf); (repeat' ((first | (with_reducible first | refine Box.mk ?_ | refine And.intro (fun _ => ?_) (fun _ => ?_) | refine (forceH_eq _ _).mpr ?_) | refine ACall.of_pure (by assumption) (by rfl) ?_ | ((with_reducible show Exists _); refine ⟨_, ACall.of_pure (by assumption) (by rfl) ⟨rfl, rfl⟩, ?_⟩) | ((with_reducible show ∃ L, drawR L _ = true ∧ _); refine ⟨[], by kernel_rfl, ?_⟩) | ((with_reducible show _ ∧ _ ∧ _); refine ⟨by omega, by omega, ?_⟩) | fail) <;> conv => whnf))
    all_goals refine res1_eq (congrArg (AV.int .i64) ?_)
    · rw [lenD, if_neg (fun h => by omega)]
    · rw [lenD, if_neg (fun h => by omega)]
    · have h3 : 0 ≤ l * d.step := Int.mul_nonneg (by omega) (by omega)
      have h4 : l * d.step ≤ 128 * 128 := Int.mul_le_mul (by omega) (by omega) (by omega) (by omega)
      rw [lenD, if_pos ⟨hr, by omega, by omega⟩, wrap_i64 (n := l * d.step) (by omega) (by omega), wrap_i64 (by omega) (by omega)]
def onD (d : Dm) (l : Int) (k : Ky) : Bool := rightK k && decide (0 ≤ lenD d l ∧ k.kind = d.kind ∧ (k.len = lenD d l ∨ (k.kind = 3 ∧ k.len < lenD d l)))
theorem dOn_ok (d : Dm) (l : Int) (k : Ky) (hn : k.n < 2 ^ 128) (hp : k.path.length < 4294967281) : PCall P 55 [dmv d, .int .i64 l, kv k] (.bool (onD d l k)) := by
  have q1 := dLen_ok d l
  have q2 := keyRight_ok k hn hp
  unfold onD
  generalize lenD d l = n at *
  generalize rightK k = r at *
  cases r
  all_goals (
    refine PCall.of_awp tok mixed fn55 (Nat.le_of_ble_eq_true rfl) ?_
    (conv => whnf); (repeat' ((first | (with_reducible first | refine Box.mk ?_ | refine And.intro (fun _ => ?_) (fun _ => ?_) | refine (forceH_eq _ _).mpr ?_) | refine ACall.of_pure (by assumption) (by rfl) ?_ | ((with_reducible show Exists _); refine ⟨_, ACall.of_pure (by assumption) (by rfl) ⟨rfl, rfl⟩, ?_⟩) | ((with_reducible show ∃ L, drawR L _ = true ∧ _); refine ⟨[], by kernel_rfl, ?_⟩) | ((with_reducible show _ ∧ _ ∧ _); refine ⟨by omega, by omega, ?_⟩) | fail) <;> conv => whnf))
    all_goals first
      | contradiction
      | rfl
      | exact bool_true (decide_eq_true (by omega))
      | exact bool_false (decide_eq_false fun h => by omega))
def cutD (d : Dm) (l : Int) (k : Ky) : Ky := if lenD d l < 0 ∨ k.kind ≠ d.kind then zeroK else cutU k (lenD d l)
theorem dCut_ok (d : Dm) (l : Int) (k : Ky) (hn : k.n < 2 ^ 128) (hp : k.path.length < 134217728) : PCall P 86 [dmv d, .int .i64 l, kv k] (kv (cutD d l k)) := by
  have q1 := dLen_ok d l
  have q2 := keyCut_ok k (lenD d l) hn hp
  unfold cutD
  generalize lenD d l = n at *
  generalize cutU k n = c at *
  refine PCall.of_awp tok mixed fn86 (Nat.le_of_ble_eq_true rfl) ?_
  (conv => whnf); (repeat' ((first | (with_reducible first | refine Box.mk ?_ | refine And.intro (fun _ => ?_) (fun _ => ?_) | refine (forceH_eq _ _).mpr ?_) | refine ACall.of_pure (by assumption) (by rfl) ?_ | ((with_reducible show Exists _); refine ⟨_, ACall.of_pure (by assumption) (by rfl) ⟨rfl, rfl⟩, ?_⟩) | ((with_reducible show ∃ L, drawR L _ = true ∧ _); refine ⟨[], by kernel_rfl, ?_⟩) | ((with_reducible show _ ∧ _ ∧ _); refine ⟨by omega, by omega, ?_⟩) | fail) <;> conv => whnf))
  · rename_i h
    rw [if_pos (.inl h)]
    show AV.agg [_, _, _, _, _] = AV.agg [_, _, _, _, _]
    simp [zeroK]
  · rename_i h h'
    rw [if_neg (by omega)]; rfl
  · rename_i h h'
    rw [if_pos (.inr h')]
    show AV.agg [_, _, _, _, _] = AV.agg [_, _, _, _, _]
    simp [zeroK]
end Go.Proofs.YtgaohmfmomeflaaGreatDoor
end

section
/- prefix: what its functions compute. -/
namespace Go.Proofs.YtgaohmfmomeflaaGreatDoor
open Go.Ve

structure Sp where
  n : Int
  d0 : Dm
  d1 : Dm
  deriving DecidableEq
structure Px where
  a0 : Int
  a1 : Int
  k0 : Ky
  k1 : Ky
  deriving DecidableEq
def scs (s : Sp) : List AV := [.int .i64 s.n, .int .i64 s.d0.kind, .int .i64 s.d0.side, .int .i64 s.d0.step, .int .i64 s.d1.kind, .int .i64 s.d1.side, .int .i64 s.d1.step]
def dcs (s : Sp) : List AV := [.int .i64 s.d0.kind, .int .i64 s.d0.side, .int .i64 s.d0.step, .int .i64 s.d1.kind, .int .i64 s.d1.side, .int .i64 s.d1.step]
def pcs (p : Px) : List AV := [.int .i64 p.a0, .int .i64 p.a1, .int .i64 p.k0.kind, .int .i64 p.k0.len, .int .u64 ((p.k0.n / H64 : Nat) : Int), .int .u64 ((p.k0.n % H64 : Nat) : Int), .str p.k0.path,
  .int .i64 p.k1.kind, .int .i64 p.k1.len, .int .u64 ((p.k1.n / H64 : Nat) : Int), .int .u64 ((p.k1.n % H64 : Nat) : Int), .str p.k1.path]
def spv (s : Sp) : AV := .agg (scs s)
def pxv (p : Px) : AV := .agg (pcs p)
def zeroD : Dm := ⟨0, 0, 0⟩
def zeroP : Px := ⟨0, 0, zeroK, zeroK⟩
theorem dm_ext {x y : Dm} (h1 : x.kind = y.kind) (h2 : x.side = y.side) (h3 : x.step = y.step) : x = y := by
  cases x; cases y; simp only at h1 h2 h3; rw [h1, h2, h3]
theorem px_ext {x y : Px} (h1 : x.a0 = y.a0) (h2 : x.a1 = y.a1) (h3 : x.k0 = y.k0) (h4 : x.k1 = y.k1) : x = y := by
  cases x; cases y; simp only at h1 h2 h3 h4; rw [h1, h2, h3, h4]
theorem px_eq {p q : Px} : (p.a0 = q.a0 ∧ p.a1 = q.a1 ∧ p.k0.kind = q.k0.kind ∧ p.k0.len = q.k0.len ∧ ((p.k0.n / H64 : Nat) : Int) = ((q.k0.n / H64 : Nat) : Int) ∧ ((p.k0.n % H64 : Nat) : Int) = ((q.k0.n % H64 : Nat) : Int) ∧ p.k0.path = q.k0.path ∧
    p.k1.kind = q.k1.kind ∧ p.k1.len = q.k1.len ∧ ((p.k1.n / H64 : Nat) : Int) = ((q.k1.n / H64 : Nat) : Int) ∧ ((p.k1.n % H64 : Nat) : Int) = ((q.k1.n % H64 : Nat) : Int) ∧ p.k1.path = q.k1.path) ↔ p = q := by
  refine ⟨fun ⟨h1, h2, h3, h4, h5, h6, h7, h8, h9, h10, h11, h12⟩ => ?_, fun h => by rw [h]; exact ⟨rfl, rfl, rfl, rfl, rfl, rfl, rfl, rfl, rfl, rfl, rfl, rfl⟩⟩
  exact px_ext h1 h2 (kv_eq.1 ⟨h3, h4, h5, h6, h7⟩) (kv_eq.1 ⟨h8, h9, h10, h11, h12⟩)
/-- A prefix as data. -/
structure POk (p : Px) : Prop where
  n0 : p.k0.n < 2 ^ 128
  n1 : p.k1.n < 2 ^ 128
  p0 : p.k0.path.length ≤ 1048576
  p1 : p.k1.path.length ≤ 1048576

def soundS (s : Sp) : Bool := decide ((s.n = 1 ∧ rightD s.d0 = true ∧ s.d1 = zeroD) ∨ (s.n = 2 ∧ rightD s.d0 = true ∧ rightD s.d1 = true))
theorem sound_ok (s : Sp) : PCall P 21 [spv s] (.bool (soundS s)) := by
  have q1 := dRight_ok s.d0
  have q2 := dRight_ok s.d1
  have ez : (s.d1.kind = 0 ∧ s.d1.side = 0 ∧ s.d1.step = 0) ↔ s.d1 = zeroD := ⟨fun h => dm_ext h.1 h.2.1 h.2.2, fun h => by rw [h]; exact ⟨rfl, rfl, rfl⟩⟩
  unfold soundS
  generalize rightD s.d0 = r0 at *
  generalize rightD s.d1 = r1 at *
  cases r0 <;> cases r1
  all_goals (
    refine PCall.of_awp tok mixed fn21 (Nat.le_of_ble_eq_true rfl) ?_
    (conv => whnf); (repeat' ((first | (with_reducible first | refine Box.mk ?_ | refine And.intro (fun _ => ?_) (fun _ => ?_) | refine (forceH_eq _ _).mpr ?_) | refine ACall.of_pure (by assumption) (by rfl) ?_ | ((with_reducible show Exists _); refine ⟨_, ACall.of_pure (by assumption) (by rfl) ⟨rfl, rfl⟩, ?_⟩) | ((with_reducible show ∃ L, drawR L _ = true ∧ _); refine ⟨[], by kernel_rfl, ?_⟩) | ((with_reducible show _ ∧ _ ∧ _); refine ⟨by omega, by omega, ?_⟩) | fail) <;> conv => whnf))
    all_goals first
      | contradiction
      | exact bool_true (decide_eq_true (.inr ⟨by assumption, rfl, rfl⟩))
      | exact bool_true (decide_eq_true (.inl ⟨by assumption, rfl, ez.1 (by assumption)⟩))
      | (refine bool_false (decide_eq_false ?_)
         rintro (⟨h1, h2, h3⟩ | ⟨h1, h2, h3⟩)
         all_goals first
           | contradiction
           | omega
           | exact absurd (ez.2 h3) (by assumption)))
def rightP (s : Sp) (p : Px) : Bool := soundS s && onD s.d0 p.a0 p.k0 && (bif decide (s.n = 1) then decide (p.a1 = 0 ∧ p.k1 = zeroK) else onD s.d1 p.a1 p.k1)
theorem sound_cases {s : Sp} (h : soundS s = true) : (s.n = 1 ∧ rightD s.d0 = true ∧ s.d1 = zeroD) ∨ (s.n = 2 ∧ rightD s.d0 = true ∧ rightD s.d1 = true) := by
  unfold soundS at h
  exact of_decide_eq_true h
theorem sound_n {s : Sp} (h : soundS s = true) : s.n = 1 ∨ s.n = 2 := by
  rcases sound_cases h with h | h
  · exact .inl h.1
  · exact .inr h.1
theorem pRight_ok (s : Sp) (p : Px) (hp : POk p) : PCall P 25 [spv s, pxv p] (.bool (rightP s p)) := by
  have p0 := hp.p0
  have p1 := hp.p1
  have q1 := sound_ok s
  have q2 := dOn_ok s.d0 p.a0 p.k0 hp.n0 (by omega)
  have q3 := dOn_ok s.d1 p.a1 p.k1 hp.n1 (by omega)
  have ez : (p.k1.kind = 0 ∧ p.k1.len = 0 ∧ ((p.k1.n / H64 : Nat) : Int) = 0 ∧ ((p.k1.n % H64 : Nat) : Int) = 0 ∧ p.k1.path = []) ↔ p.k1 = zeroK := kv_eq (b := zeroK)
  have hn := @sound_n s
  unfold rightP
  generalize onD s.d0 p.a0 p.k0 = o0 at *
  generalize onD s.d1 p.a1 p.k1 = o1 at *
  generalize soundS s = so at *
  cases so
  · refine PCall.of_awp tok mixed fn25 (Nat.le_of_ble_eq_true rfl) ?_
    (conv => whnf); (repeat' ((first | (with_reducible first | refine Box.mk ?_ | refine And.intro (fun _ => ?_) (fun _ => ?_) | refine (forceH_eq _ _).mpr ?_) | refine ACall.of_pure (by assumption) (by rfl) ?_ | ((with_reducible show Exists _); refine ⟨_, ACall.of_pure (by assumption) (by rfl) ⟨rfl, rfl⟩, ?_⟩) | ((with_reducible show ∃ L, drawR L _ = true ∧ _); refine ⟨[], by kernel_rfl, ?_⟩) | ((with_reducible show _ ∧ _ ∧ _); refine ⟨by omega, by omega, ?_⟩) | fail) <;> conv => whnf))
    all_goals first
      | contradiction
      | rfl
  · have hn := hn rfl
    refine PCall.of_awp tok mixed fn25 (Nat.le_of_ble_eq_true rfl) ?_
    (conv => whnf); (repeat' ((first | (with_reducible first | refine Box.mk ?_ | refine And.intro (fun _ => ?_) (fun _ => ?_) | refine (forceH_eq _ _).mpr ?_) | refine ACall.of_pure (by assumption) (by rfl) ?_ | ((with_reducible show Exists _); refine ⟨_, ACall.of_pure (by assumption) (by rfl) ⟨rfl, rfl⟩, ?_⟩) | ((with_reducible show ∃ L, drawR L _ = true ∧ _); refine ⟨[], by kernel_rfl, ?_⟩) | ((with_reducible show _ ∧ _ ∧ _); refine ⟨by omega, by omega, ?_⟩) | fail) <;> conv => whnf))
    all_goals try contradiction
    refine aloop (fun i => i ≤ 2 ∧ (0 < i → o0 = true) ∧ (1 < i → s.n = 2 ∧ o1 = true)) (fun i : Nat => ⟨envL [(2, .ptr 0 0), (3, .ptr 1 0), (4, .bool false), (11, .agg (dcs s)), (12, .int .i64 i)], [.box 26 (scs s), .box 34 (pcs p)]⟩)
      (fun i => 2 - i) 0 ⟨by omega, fun h => by omega, fun h => by omega⟩ (weak_to ⟨rfl, rfl, rfl, rfl, rfl, trivial⟩ rfl) ?_
    rintro i ⟨hi, h0, h1⟩
    have hc : i = 0 ∨ i = 1 ∨ i = 2 := by omega
    cases o0 <;> cases o1 <;> rcases hc with rfl | rfl | rfl
    all_goals try exact absurd (h0 (by omega)) (by decide)
    all_goals try exact absurd (h1 (by omega)).2 (by decide)
    all_goals (
      (conv => whnf); (repeat' ((first | (with_reducible first | refine Box.mk ?_ | refine And.intro (fun _ => ?_) (fun _ => ?_) | refine (forceH_eq _ _).mpr ?_) | refine ACall.of_pure (by assumption) (by rfl) ?_ | ((with_reducible show Exists _); refine ⟨_, ACall.of_pure (by assumption) (by rfl) ⟨rfl, rfl⟩, ?_⟩) | ((with_reducible show ∃ L, drawR L _ = true ∧ _); refine ⟨[], by kernel_rfl, ?_⟩) | ((with_reducible show _ ∧ _ ∧ _); refine ⟨by omega, by omega, ?_⟩) | fail) <;> conv => whnf))
      all_goals try contradiction
      all_goals try (exfalso; omega)
      all_goals first
        | rfl
        | (rw [decide_eq_true (show s.n = 1 by omega), cond_true]
           first
             | (show AV.bool true = AV.bool (decide (p.a1 = 0 ∧ p.k1 = zeroK)); exact bool_true (decide_eq_true ⟨by assumption, ez.1 (by assumption)⟩))
             | (show AV.bool false = AV.bool (decide (p.a1 = 0 ∧ p.k1 = zeroK)); exact bool_false (decide_eq_false fun h => absurd (ez.2 h.2) (by assumption)))
             | (show AV.bool false = AV.bool (decide (p.a1 = 0 ∧ p.k1 = zeroK)); exact bool_false (decide_eq_false fun h => absurd h.1 (by assumption))))
        | (rw [decide_eq_false (show ¬ s.n = 1 by omega), cond_false]; rfl)
        | (rw [decide_eq_false (show ¬ s.n = 1 from fun h => by have := (h1 (by omega)).1; omega), cond_false]; rfl)
        | exact ⟨1, ⟨by omega, fun _ => rfl, fun h => absurd h (by decide)⟩, by decide, weak_ren_to [(0, true), (1, true)] rfl rfl rfl ⟨rfl, rfl, rfl, rfl, rfl, trivial⟩⟩
        | exact ⟨2, ⟨by omega, fun _ => rfl, fun _ => ⟨by omega, rfl⟩⟩, by decide, weak_ren_to [(0, true), (1, true)] rfl rfl rfl ⟨rfl, rfl, rfl, rfl, rfl, trivial⟩⟩)
end Go.Proofs.YtgaohmfmomeflaaGreatDoor
end

section
/- key: what must come of fixed calls. -/
namespace Go.Proofs.YtgaohmfmomeflaaGreatDoor
open Go.Ve

def km : Ky := ⟨3, 2, 0, [110, 101, 116, 46, 100, 99, 49]⟩
end Go.Proofs.YtgaohmfmomeflaaGreatDoor
end

section
/- key, the document's answer: widths and bits. -/
namespace Go.Proofs.YtgaohmfmomeflaaGreatDoor
open Go.Ve

end Go.Proofs.YtgaohmfmomeflaaGreatDoor
end

section
/- key, the document's answer: a key's letters. -/
namespace Go.Proofs.YtgaohmfmomeflaaGreatDoor
open Go.Ve

def letter (N i : Nat) : Bs := if N.testBit (127 - i) then [49] else [48]
def letB (N n : Nat) : List Bs := (List.range n).map (letter N)
theorem letB_len (N n : Nat) : (letB N n).length = n := by simp [letB]
def lettersL (k : Ky) : List Bs := if k.kind = 3 then labs k.path else letB k.n k.len.toNat
end Go.Proofs.YtgaohmfmomeflaaGreatDoor
end

section
/- key, the document's answer: the walk of a key's letters. -/
namespace Go.Proofs.YtgaohmfmomeflaaGreatDoor
open Go.Ve

end Go.Proofs.YtgaohmfmomeflaaGreatDoor
end

section
/- key, the document's answer: a key out of its letters. -/
namespace Go.Proofs.YtgaohmfmomeflaaGreatDoor
open Go.Ve

end Go.Proofs.YtgaohmfmomeflaaGreatDoor
end

section
/- key, the document's answer: Right, Root, Four, Six. -/
namespace Go.Proofs.YtgaohmfmomeflaaGreatDoor
open Go.Ve

end Go.Proofs.YtgaohmfmomeflaaGreatDoor
end

section
/- label: the walk of the statement on joined labels. -/
namespace Go.Proofs.YtgaohmfmomeflaaGreatDoor
open Go.Ve

end Go.Proofs.YtgaohmfmomeflaaGreatDoor
end

section
/- label: there and back: the walk of the statement. -/
namespace Go.Proofs.YtgaohmfmomeflaaGreatDoor
open Go.Ve

theorem splitDot_app : ∀ {x : Bs} (s : Bs), (∀ c ∈ x, c ≠ 46) → splitDot (x ++ 46 :: s) = x :: splitDot s
  | [], s, _ => by simp [splitDot]
  | c :: x, s, h => by
    have hc := h c List.mem_cons_self
    simp [splitDot, hc, splitDot_app s fun d hd => h d (List.mem_cons_of_mem _ hd)]
theorem splitDot_one : ∀ {x : Bs}, (∀ c ∈ x, c ≠ 46) → splitDot x = [x]
  | [], _ => rfl
  | c :: x, h => by
    have hc := h c List.mem_cons_self
    simp [splitDot, hc, splitDot_one fun d hd => h d (List.mem_cons_of_mem _ hd)]
theorem splitDot_join : ∀ {L : List Bs}, L ≠ [] → (∀ x ∈ L, ∀ c ∈ x, c ≠ 46) → splitDot (joinD L) = L
  | [], h, _ => absurd rfl h
  | [x], _, h => splitDot_one (h x List.mem_cons_self)
  | x :: y :: r, _, h => by
    rw [joinD, splitDot_app _ (h x List.mem_cons_self), splitDot_join (by simp) fun z hz => h z (List.mem_cons_of_mem _ hz)]
theorem label_nodot {x : Bs} (h : isLabel x = true) : ∀ c ∈ x, c ≠ 46 := by
  simp only [isLabel, Bool.and_eq_true, List.all_eq_true, decide_eq_true_eq] at h
  intro c hc e
  have := h.1 c hc
  subst e
  revert this
  decide
theorem labs_join {L : List Bs} (h : ∀ x ∈ L, isLabel x = true) (h8 : L.length ≤ 8) : okPath (joinD L) = true ∧ labs (joinD L) = L := by
  by_cases hne : L = []
  · subst hne; exact ⟨rfl, rfl⟩
  · have hs := splitDot_join hne fun x hx => label_nodot (h x hx)
    have hj : joinD L ≠ [] := by
      intro e
      rw [e] at hs
      have : ([] : Bs) ∈ L := by rw [← hs]; simp [splitDot]
      have := h [] this
      simp [isLabel] at this
    obtain ⟨h1, h2⟩ := okPath_true hj (by rw [hs]; exact h) (by rw [hs]; exact h8)
    refine ⟨h1, ?_⟩
    unfold labs
    have : (joinD L).isEmpty = false := by cases e : joinD L with | nil => exact absurd e hj | cons => rfl
    rw [this, h1]; exact hs
theorem labs_lab {p : Bs} : ∀ x ∈ labs p, isLabel x = true := by
  rcases path_cases p with ⟨_, e⟩ | ⟨_, e, e3, e4⟩
  · rw [e]; simp
  · have hp : p.isEmpty = false := by cases p with | nil => exact absurd rfl e3 | cons => rfl
    simp [okPath, hp] at e4
    rw [e]; exact e4.2
theorem join_labs {p : Bs} (h : okPath p = true) : joinD (labs p) = p := by
  by_cases hp : p = []
  · subst hp; rfl
  · have : p.isEmpty = false := by cases p with | nil => exact absurd rfl hp | cons => rfl
    unfold labs
    rw [this, h]; exact joinD_split p
end Go.Proofs.YtgaohmfmomeflaaGreatDoor
end

section
/- key, plain laws: a key that may be is its kind and its letters; to be over is to begin. -/
namespace Go.Proofs.YtgaohmfmomeflaaGreatDoor
open Go.Ve

theorem topN_top {N a b : Nat} (ha : a ≤ 128) (hb : b ≤ 128) : topN (topN N a) b = topN N (min a b) := by
  have tb : ∀ M n j, (topN M n).testBit j = (decide (128 - n ≤ j) && M.testBit j) := fun M n j => by
    unfold topN
    rw [Nat.mul_comm, Nat.testBit_two_pow_mul, Nat.testBit_div_two_pow]
    by_cases h : 128 - n ≤ j
    · simp [h]
    · simp [h]
  apply Nat.eq_of_testBit_eq
  intro j
  rw [tb, tb, tb]
  by_cases h1 : 128 - a ≤ j <;> by_cases h2 : 128 - b ≤ j <;> by_cases h3 : 128 - min a b ≤ j <;> simp [h1, h2, h3] <;> omega
theorem letter_eq {N M i : Nat} : letter N i = letter M i ↔ N.testBit (127 - i) = M.testBit (127 - i) := by
  unfold letter
  cases N.testBit (127 - i) <;> cases M.testBit (127 - i) <;> simp
theorem letB_take (N n j : Nat) : (letB N n).take j = letB N (min j n) := by
  unfold letB
  rw [← List.map_take, List.take_range]
theorem letB_of {N M n : Nat} (hn : n ≤ 128) (h : topN N n = topN M n) : letB N n = letB M n := by
  have tb : ∀ M j, (topN M n).testBit j = (decide (128 - n ≤ j) && M.testBit j) := fun M j => by
    unfold topN
    rw [Nat.mul_comm, Nat.testBit_two_pow_mul, Nat.testBit_div_two_pow]
    by_cases h : 128 - n ≤ j
    · simp [h]
    · simp [h]
  unfold letB
  rw [List.map_inj_left]
  intro i hi
  have hi := List.mem_range.1 hi
  have h2 := congrArg (fun x => x.testBit (127 - i)) h
  simp only [tb] at h2
  have h3 : 128 - n ≤ 127 - i := by omega
  exact letter_eq.2 (by simpa [h3] using h2)
theorem ky_ext {x y : Ky} (h1 : x.kind = y.kind) (h2 : x.len = y.len) (h3 : x.n = y.n) (h4 : x.path = y.path) : x = y := by
  cases x; cases y; simp only at h1 h2 h3 h4; rw [h1, h2, h3, h4]
theorem letB_eq {N M n : Nat} (hN : N < 2 ^ 128) (hM : M < 2 ^ 128) (hn : n ≤ 128) : letB N n = letB M n ↔ topN N n = topN M n := by
  have tb : ∀ M j, (topN M n).testBit j = (decide (128 - n ≤ j) && M.testBit j) := fun M j => by
    unfold topN
    rw [Nat.mul_comm, Nat.testBit_two_pow_mul, Nat.testBit_div_two_pow]
    by_cases h : 128 - n ≤ j
    · simp [h]
    · simp [h]
  have h1 : letB N n = letB M n ↔ ∀ i, i < n → N.testBit (127 - i) = M.testBit (127 - i) := by
    unfold letB
    rw [List.map_inj_left]
    exact ⟨fun h i hi => letter_eq.1 (h i (List.mem_range.2 hi)), fun h i hi => letter_eq.2 (h i (List.mem_range.1 hi))⟩
  rw [h1]
  refine ⟨fun h => Nat.eq_of_testBit_eq fun j => ?_, fun h i hi => ?_⟩
  · rw [tb, tb]
    by_cases hj : 128 - n ≤ j
    · by_cases h8 : j < 128
      · have := h (127 - j) (by omega)
        rw [show 127 - (127 - j) = j by omega] at this
        rw [this]
      · rw [Nat.testBit_lt_two_pow (Nat.lt_of_lt_of_le hN (Nat.pow_le_pow_right (by decide) (by omega))), Nat.testBit_lt_two_pow (Nat.lt_of_lt_of_le hM (Nat.pow_le_pow_right (by decide) (by omega)))]
    · simp [hj]
  · have h2 := congrArg (fun x => x.testBit (127 - i)) h
    simp only [tb] at h2
    have h3 : 128 - n ≤ 127 - i := by omega
    simpa [h3] using h2
/-! ### keys that may be -/
theorem right_addr {k : Ky} (h : rightK k = true) (h3 : k.kind ≠ 3) : (k.kind = 1 ∨ k.kind = 2) ∧ 0 ≤ k.len ∧ k.len ≤ 128 ∧ k.n = topN k.n k.len.toNat ∧ k.path = [] := by
  unfold rightK at h
  by_cases hk : k.kind = 1 ∨ k.kind = 2
  · rw [if_pos hk] at h
    obtain ⟨h1, h2, h4, h5⟩ := of_decide_eq_true h
    have hw : k.len ≤ 128 := by
      unfold widthK at h2
      rcases hk with hk | hk <;> rw [hk] at h2 <;> simp at h2 <;> omega
    rw [show min k.len 128 = k.len by omega] at h4
    exact ⟨hk, h1, hw, h4, h5⟩
  · rw [if_neg hk, if_neg h3] at h; cases h
theorem right_path {k : Ky} (h : rightK k = true) (h3 : k.kind = 3) : okPath k.path = true ∧ k.len = ((labs k.path).length : Int) ∧ k.n = 0 := by
  unfold rightK at h
  rw [if_neg (by omega), if_pos h3, Bool.and_eq_true] at h
  obtain ⟨h1, h2⟩ := of_decide_eq_true h.2
  exact ⟨h.1, h1, h2⟩
theorem letters_len {k : Ky} (h : rightK k = true) : ((lettersL k).length : Int) = k.len := by
  unfold lettersL
  by_cases h3 : k.kind = 3
  · rw [if_pos h3, (right_path h h3).2.1]
  · obtain ⟨_, h1, _⟩ := right_addr h h3
    rw [if_neg h3, letB_len]; omega
theorem letters_inj {a b : Ky} (na : a.n < 2 ^ 128) (nb : b.n < 2 ^ 128) (ha : rightK a = true) (hb : rightK b = true) (hk : a.kind = b.kind) (h : lettersL a = lettersL b) : a = b := by
  have hl : a.len = b.len := by rw [← letters_len ha, ← letters_len hb, h]
  unfold lettersL at h
  by_cases h3 : a.kind = 3
  · rw [if_pos h3, if_pos (by omega)] at h
    obtain ⟨a1, a2, a3⟩ := right_path ha h3
    obtain ⟨b1, b2, b3⟩ := right_path hb (by omega)
    have hp : a.path = b.path := by rw [← join_labs a1, ← join_labs b1, h]
    exact ky_ext hk hl (by rw [a3, b3]) hp
  · rw [if_neg h3, if_neg (by omega)] at h
    obtain ⟨_, a1, a2, a3, a4⟩ := right_addr ha h3
    obtain ⟨_, b1, b2, b3, b4⟩ := right_addr hb (by omega)
    rw [hl] at h
    have hn := (letB_eq na nb (by omega)).1 h
    rw [hl] at a3
    rw [← a3, ← b3] at hn
    exact ky_ext hk hl hn (by rw [a4, b4])
theorem take_min' {α : Type} (l : List α) (n : Int) {len : Int} (h : (l.length : Int) = len) : l.take (min (max n 0) len).toNat = l.take (max n 0).toNat := by
  rw [show (min (max n 0) len).toNat = min (max n 0).toNat l.length by omega, ← List.take_take, List.take_length]
theorem cut_right {k : Ky} (h : rightK k = true) (n : Int) : rightK (cutK k n) = true ∧ (cutK k n).kind = k.kind ∧ lettersL (cutK k n) = (lettersL k).take (max n 0).toNat := by
  have hl := letters_len h
  by_cases h3 : k.kind = 3
  · obtain ⟨a1, a2, a3⟩ := right_path h h3
    have hlab : ∀ x ∈ (labs k.path).take (min (max n 0) k.len).toNat, isLabel x = true := fun x hx => labs_lab x (List.mem_of_mem_take hx)
    have h8 : ((labs k.path).take (min (max n 0) k.len).toNat).length ≤ 8 := Nat.le_trans (by rw [List.length_take]; exact Nat.min_le_right _ _) (labs_len k.path).1
    obtain ⟨j1, j2⟩ := labs_join hlab h8
    have e : cutK k n = ofPathK (joinD ((labs k.path).take (min (max n 0) k.len).toNat)) := by rw [cutK, if_pos h3]
    rw [e]
    refine ⟨?_, h3.symm, ?_⟩
    · unfold rightK
      rw [if_neg (by show ¬ ((3 : Int) = 1 ∨ (3 : Int) = 2); decide), if_pos (by rfl)]
      show (okPath (joinD _) && _) = true
      rw [j1, Bool.true_and]
      exact decide_eq_true ⟨rfl, rfl⟩
    · unfold lettersL
      rw [if_pos (by rfl), if_pos h3]
      show labs (joinD _) = _
      rw [j2, take_min' _ _ a2.symm]
  · obtain ⟨a0, a1, a2, a3, a4⟩ := right_addr h h3
    have e : cutK k n = ofBitsK k.kind (min (max n 0) k.len) k.n := by rw [cutK, if_neg h3]
    have e2 : (min (min (max n 0) k.len) 128).toNat = (min (max n 0) k.len).toNat := by omega
    have hw : k.len ≤ widthK k.kind := by
      unfold rightK at h
      rw [if_pos a0] at h
      exact (of_decide_eq_true h).2.1
    rw [e]
    refine ⟨?_, rfl, ?_⟩
    · unfold rightK
      rw [if_pos (by exact a0)]
      refine decide_eq_true ⟨by show 0 ≤ min _ _; omega, by show min _ _ ≤ widthK k.kind; omega, ?_, rfl⟩
      show topN k.n _ = topN (topN k.n _) _
      rw [topN_top (by omega) (by show (min (min (max n 0) k.len) 128).toNat ≤ 128; omega)]
      show topN k.n (min (min (max n 0) k.len) 128).toNat = topN k.n (min (min (min (max n 0) k.len) 128).toNat (min (min (max n 0) k.len) 128).toNat)
      rw [Nat.min_self]
    · unfold lettersL
      rw [if_neg (by exact h3), if_neg h3]
      show letB (topN k.n (min (min (max n 0) k.len) 128).toNat) (min (max n 0) k.len).toNat = _
      rw [letB_take, e2, show (min (max n 0) k.len).toNat = min (max n 0).toNat k.len.toNat by omega]
      exact letB_of (by omega) (by rw [topN_top (by omega) (by omega), Nat.min_self])
theorem cut_n {k : Ky} (h : k.n < 2 ^ 128) (n : Int) : (cutK k n).n < 2 ^ 128 := by
  unfold cutK
  split
  · exact Nat.two_pow_pos 128
  · exact topN_lt h
end Go.Proofs.YtgaohmfmomeflaaGreatDoor
end

section
/- key, plain laws: where two keys meet, and how keys are ordered. -/
namespace Go.Proofs.YtgaohmfmomeflaaGreatDoor
open Go.Ve

end Go.Proofs.YtgaohmfmomeflaaGreatDoor
end

section
/- key, plain laws: how keys are ordered. -/
namespace Go.Proofs.YtgaohmfmomeflaaGreatDoor
open Go.Ve

theorem cmpI_lt {a b : Int} : cmpI a b < 0 ↔ a < b := by unfold cmpI; split <;> (try split) <;> omega
theorem cmpI_eq {a b : Int} : cmpI a b = 0 ↔ a = b := by unfold cmpI; split <;> (try split) <;> omega
theorem cmpI_le {a b : Int} : cmpI a b ≤ 0 ↔ a ≤ b := by unfold cmpI; split <;> (try split) <;> omega
theorem half_lt {A B : Nat} : A < B ↔ (A / H64 < B / H64 ∨ (A / H64 = B / H64 ∧ A % H64 < B % H64)) := by
  have h1 := Nat.div_add_mod A H64
  have h2 := Nat.div_add_mod B H64
  refine ⟨fun h => ?_, fun h => ?_⟩
  · rcases Nat.lt_or_ge (A / H64) (B / H64) with h3 | h3
    · exact .inl h3
    · have h4 : A / H64 = B / H64 := Nat.le_antisymm (Nat.div_le_div_right (Nat.le_of_lt h)) h3
      rw [h4] at h1
      exact .inr ⟨h4, by omega⟩
  · rcases h with h | ⟨h, h'⟩
    · exact Nat.lt_of_not_le fun h3 => absurd (Nat.div_le_div_right (c := H64) h3) (by omega)
    · rw [h] at h1; omega
theorem wcmp_cases (A B : Nat) : (A < B ∧ wcmp A B = -1) ∨ (A = B ∧ wcmp A B = 0) ∨ (B < A ∧ wcmp A B = 1) := by
  have h1 := @half_lt A B
  have h2 := @half_lt B A
  unfold wcmp orI orI orI cmpI
  rcases Nat.lt_trichotomy A B with h | h | h
  · refine .inl ⟨h, ?_⟩
    rcases h1.1 h with h3 | ⟨h3, h4⟩
    · rw [if_neg (by rw [if_pos (by omega)]; decide), if_pos (by omega)]
    · rw [if_pos (by rw [if_neg (by omega), if_neg (by omega)]), if_neg (by rw [if_pos (by omega)]; decide), if_pos (by omega)]
  · subst h
    refine .inr (.inl ⟨rfl, ?_⟩)
    simp
  · refine .inr (.inr ⟨h, ?_⟩)
    rcases h2.1 h with h3 | ⟨h3, h4⟩
    · rw [if_neg (by rw [if_neg (by omega), if_pos (by omega)]; decide), if_neg (by omega), if_pos (by omega)]
    · rw [if_pos (by rw [if_neg (by omega), if_neg (by omega)]), if_neg (by rw [if_neg (by omega), if_pos (by omega)]; decide), if_neg (by omega), if_pos (by omega)]
theorem cb_self : ∀ (a : Bs), Lib.compareBytes a a = 0
  | [] => rfl
  | c :: a => by rw [Lib.compareBytes, if_neg (UInt8.lt_irrefl c), if_neg (UInt8.lt_irrefl c), cb_self a]
theorem wcmp_zero {A B : Nat} : wcmp A B = 0 ↔ A = B := by
  rcases wcmp_cases A B with ⟨h, e⟩ | ⟨h, e⟩ | ⟨h, e⟩ <;> rw [e] <;> omega
theorem cmpK_self (a : Ky) : cmpK a a = 0 := by
  unfold cmpK
  rw [cmpI_eq.2 rfl, wcmp_zero.2 rfl, cb_self, cmpI_eq.2 rfl]; rfl
end Go.Proofs.YtgaohmfmomeflaaGreatDoor
end

section
/- key: arguments read as data. -/
namespace Go.Proofs.YtgaohmfmomeflaaGreatDoor
open Go.Ve

theorem lit_rng {k : IntKind} {n : Int} (h : (Lit.int k n).wf = true) : k.min ≤ n ∧ n ≤ k.max := by
  simpa [Lit.wf] using h
theorem u64_lit {n : Int} (h : (Lit.int .u64 n).wf = true) : ∃ m : Nat, n = (m : Int) ∧ m < H64 := by
  have h1 : (0 : Int) ≤ n ∧ n ≤ 18446744073709551615 := lit_rng h
  exact ⟨n.toNat, by omega, by show n.toNat < 18446744073709551616; omega⟩
theorem i64_lit {n : Int} (h : (Lit.int .i64 n).wf = true) : -9223372036854775808 ≤ n ∧ n ≤ 9223372036854775807 := lit_rng h
theorem halvesA {a b : Nat} (hb : b < H64) : (a * H64 + b) / H64 = a ∧ (a * H64 + b) % H64 = b := by
  refine ⟨?_, ?_⟩
  · rw [Nat.mul_comm, Nat.mul_add_div (by decide), Nat.div_eq_of_lt hb, Nat.add_zero]
  · rw [Nat.mul_comm, Nat.mul_add_mod, Nat.mod_eq_of_lt hb]
theorem halves_lt {a b : Nat} (ha : a < H64) (hb : b < H64) : a * H64 + b < 2 ^ 128 := by
  have h1 : (a + 1) * H64 ≤ H64 * H64 := Nat.mul_le_mul_right _ ha
  rw [hh, Nat.add_mul, Nat.one_mul] at h1
  omega
/-- A key as data. -/
structure KOk (B : Nat) (k : Ky) : Prop where
  n : k.n < 2 ^ 128
  path : k.path.length ≤ B
  kind : -9223372036854775808 ≤ k.kind ∧ k.kind ≤ 9223372036854775807
  len : -9223372036854775808 ≤ k.len ∧ k.len ≤ 9223372036854775807
theorem key_wf {B : Nat} {xs : List AV} (h : Wf ty B 31 xs) : ∃ k : Ky, xs = [.int .i64 k.kind, .int .i64 k.len, .int .u64 ((k.n / H64 : Nat) : Int), .int .u64 ((k.n % H64 : Nat) : Int), .str k.path] ∧ KOk B k := by
  have h0 := h.struct_inv rfl
  obtain ⟨x1, r1, rfl, hk, h1⟩ := h0.cons_inv
  obtain ⟨x2, r2, rfl, hl, h2⟩ := h1.cons_inv
  obtain ⟨x3, r3, rfl, ha, h3⟩ := h2.cons_inv
  obtain ⟨x4, r4, rfl, hb, h4⟩ := h3.cons_inv
  obtain ⟨x5, r5, rfl, hp, h5⟩ := h4.cons_inv
  obtain rfl := h5.nil_inv
  obtain ⟨kd, rfl, hk2⟩ := hk.int_inv rfl
  obtain ⟨ln, rfl, hl2⟩ := hl.int_inv rfl
  obtain ⟨a', rfl, ha2⟩ := ha.int_inv rfl
  obtain ⟨b', rfl, hb2⟩ := hb.int_inv rfl
  obtain ⟨p, rfl, hp2⟩ := hp.str_inv rfl
  obtain ⟨a, rfl, ha3⟩ := u64_lit ha2
  obtain ⟨b, rfl, hb3⟩ := u64_lit hb2
  obtain ⟨e1, e2⟩ := halvesA (a := a) hb3
  exact ⟨⟨kd, ln, a * H64 + b, p⟩, by show _ = [_, _, AV.int _ (((a * H64 + b) / H64 : Nat) : Int), AV.int _ (((a * H64 + b) % H64 : Nat) : Int), _]; rw [e1, e2]; rfl, halves_lt ha3 hb3, hp2, i64_lit hk2, i64_lit hl2⟩
end Go.Proofs.YtgaohmfmomeflaaGreatDoor
end

section
/- key: the outright statements' walks. -/
namespace Go.Proofs.YtgaohmfmomeflaaGreatDoor
open Go.Ve

end Go.Proofs.YtgaohmfmomeflaaGreatDoor
end

section
/- key: the outright statements' walks, further. -/
namespace Go.Proofs.YtgaohmfmomeflaaGreatDoor
open Go.Ve

theorem cutU_len (k : Ky) (n : Int) : (cutU k n).path.length ≤ 1048576 := by
  unfold cutU
  cases h : rightK k
  · exact Nat.zero_le _
  · show (cutK k n).path.length ≤ 1048576
    unfold cutK
    split
    · rename_i h3
      show (joinD _).length ≤ 1048576
      have h1 := joinD_take_len (l := labs k.path) (B := 16) (i := (min (max n 0) k.len).toNat) (fun x hx => isLabel_len (labs_lab x hx))
      have h8 := (labs_len k.path).1
      omega
    · exact Nat.zero_le _
theorem cutU_n {k : Ky} (hn : k.n < 2 ^ 128) (n : Int) : (cutU k n).n < 2 ^ 128 := by
  unfold cutU
  cases h : rightK k
  · exact Nat.two_pow_pos 128
  · exact cut_n hn n
theorem cut_cut {k : Ky} (hn : k.n < 2 ^ 128) (h : rightK k = true) (n m : Int) : cutU (cutU k n) m = cutU k (if m < n then m else n) := by
  have e : ∀ j, cutU k j = cutK k j := fun j => by unfold cutU; rw [h]; rfl
  obtain ⟨c1, c2, c3⟩ := cut_right h n
  have e2 : cutU (cutK k n) m = cutK (cutK k n) m := by unfold cutU; rw [c1]; rfl
  rw [e, e, e2]
  obtain ⟨d1, d2, d3⟩ := cut_right c1 m
  obtain ⟨f1, f2, f3⟩ := cut_right h (if m < n then m else n)
  refine letters_inj (cut_n (cut_n hn n) m) (cut_n hn _) d1 f1 (by rw [d2, c2, f2]) ?_
  rw [d3, c3, f3, List.take_take]
  congr 1; split <;> omega
end Go.Proofs.YtgaohmfmomeflaaGreatDoor
end

section
/- prefix: what its functions compute, further. -/
namespace Go.Proofs.YtgaohmfmomeflaaGreatDoor
open Go.Ve

theorem pxv_zero : pxv zeroP = .agg [.int .i64 0, .int .i64 0, .int .i64 0, .int .i64 0, .int .u64 0, .int .u64 0, .str [], .int .i64 0, .int .i64 0, .int .u64 0, .int .u64 0, .str []] := by
  simp [pxv, pcs, zeroP, zeroK]
def kzs : List AV := [.int .i64 0, .int .i64 0, .int .u64 0, .int .u64 0, .str []]
def kcs (k : Ky) : List AV := [.int .i64 k.kind, .int .i64 k.len, .int .u64 ((k.n / H64 : Nat) : Int), .int .u64 ((k.n % H64 : Nat) : Int), .str k.path]
def orN (s : Sp) (p : Px) : Px := bif rightP s p then p else zeroP
theorem orNone_ok (s : Sp) (p : Px) (hp : POk p) : PCall P 87 [spv s, pxv p] (.tup [pxv (orN s p), .bool (rightP s p)]) := by
  have q1 := pRight_ok s p hp
  unfold orN
  generalize rightP s p = r at *
  cases r
  · rw [cond_false, pxv_zero]
    refine PCall.of_awp tok mixed fn87 (Nat.le_of_ble_eq_true rfl) ?_
    (conv => whnf); (repeat' ((first | (with_reducible first | refine Box.mk ?_ | refine And.intro (fun _ => ?_) (fun _ => ?_) | refine (forceH_eq _ _).mpr ?_) | refine ACall.of_pure (by assumption) (by rfl) ?_ | ((with_reducible show Exists _); refine ⟨_, ACall.of_pure (by assumption) (by rfl) ⟨rfl, rfl⟩, ?_⟩) | ((with_reducible show ∃ L, drawR L _ = true ∧ _); refine ⟨[], by kernel_rfl, ?_⟩) | ((with_reducible show _ ∧ _ ∧ _); refine ⟨by omega, by omega, ?_⟩) | fail) <;> conv => whnf))
    all_goals first
      | contradiction
      | rfl
  · rw [cond_true]
    refine PCall.of_awp tok mixed fn87 (Nat.le_of_ble_eq_true rfl) ?_
    (conv => whnf); (repeat' ((first | (with_reducible first | refine Box.mk ?_ | refine And.intro (fun _ => ?_) (fun _ => ?_) | refine (forceH_eq _ _).mpr ?_) | refine ACall.of_pure (by assumption) (by rfl) ?_ | ((with_reducible show Exists _); refine ⟨_, ACall.of_pure (by assumption) (by rfl) ⟨rfl, rfl⟩, ?_⟩) | ((with_reducible show ∃ L, drawR L _ = true ∧ _); refine ⟨[], by kernel_rfl, ?_⟩) | ((with_reducible show _ ∧ _ ∧ _); refine ⟨by omega, by omega, ?_⟩) | fail) <;> conv => whnf))
    all_goals first
      | contradiction
      | rfl
def upP (s : Sp) (p : Px) (i j : Int) : Px := bif rightP s p && decide (p.a0 ≤ i ∧ p.a1 ≤ j) then orN s ⟨i, j, cutD s.d0 i p.k0, cutD s.d1 j p.k1⟩ else zeroP
theorem cutD_n {d : Dm} {l : Int} {k : Ky} (hn : k.n < 2 ^ 128) : (cutD d l k).n < 2 ^ 128 := by
  unfold cutD; split
  · exact Nat.two_pow_pos 128
  · exact cutU_n hn _
theorem cutD_path (d : Dm) (l : Int) (k : Ky) : (cutD d l k).path.length ≤ 1048576 := by
  unfold cutD; split
  · exact Nat.zero_le _
  · exact cutU_len k _
theorem POk.cut {p : Px} (hp : POk p) (d0 d1 : Dm) (i j : Int) : POk ⟨i, j, cutD d0 i p.k0, cutD d1 j p.k1⟩ := ⟨cutD_n hp.n0, cutD_n hp.n1, cutD_path _ _ _, cutD_path _ _ _⟩
def upH (s : Sp) (p : Px) (i j : Int) (x y : Ky) : Nat → Hp
  | 0 => [.box 26 (scs s), .box 34 (pcs p), .box 28 [.int .i64 i, .int .i64 j], .box 34 (.int .i64 0 :: .int .i64 0 :: (kzs ++ kzs)), .box 34 (.int .i64 i :: .int .i64 j :: (kzs ++ kzs))]
  | 1 => [.box 26 (scs s), .box 34 (pcs p), .box 28 [.int .i64 i, .int .i64 j], .box 34 (.int .i64 0 :: .int .i64 0 :: (kzs ++ kzs)), .box 34 (.int .i64 i :: .int .i64 j :: (kcs x ++ kzs))]
  | _ => [.box 26 (scs s), .box 34 (pcs p), .box 28 [.int .i64 i, .int .i64 j], .box 34 (.int .i64 0 :: .int .i64 0 :: (kzs ++ kzs)), .box 34 (.int .i64 i :: .int .i64 j :: (kcs x ++ kcs y))]
theorem up_ok (s : Sp) (p : Px) (i j : Int) (hp : POk p) : PCall P 54 [spv s, pxv p, .agg [.int .i64 i, .int .i64 j]] (pxv (upP s p i j)) := by
  have p0 := hp.p0
  have p1 := hp.p1
  have q1 := pRight_ok s p hp
  have q2 := dCut_ok s.d0 i p.k0 hp.n0 (by omega)
  have q3 := dCut_ok s.d1 j p.k1 hp.n1 (by omega)
  have q4 := orNone_ok s _ (hp.cut s.d0 s.d1 i j)
  unfold upP
  generalize cutD s.d0 i p.k0 = x at *
  generalize cutD s.d1 j p.k1 = y at *
  generalize orN s ⟨i, j, x, y⟩ = o at *
  generalize rightP s ⟨i, j, x, y⟩ = r2 at *
  generalize rightP s p = r at *
  have no : (r && decide (p.a0 ≤ i ∧ p.a1 ≤ j)) = false → (.agg (.int .i64 0 :: .int .i64 0 :: (kzs ++ kzs)) : AV) = pxv (bif r && decide (p.a0 ≤ i ∧ p.a1 ≤ j) then o else zeroP) := fun h => by rw [h, cond_false, pxv_zero]; rfl
  have yes : (r && decide (p.a0 ≤ i ∧ p.a1 ≤ j)) = true → pxv o = pxv (bif r && decide (p.a0 ≤ i ∧ p.a1 ≤ j) then o else zeroP) := fun h => by rw [h, cond_true]
  cases r
  · refine PCall.of_awp tok mixed fn54 (Nat.le_of_ble_eq_true rfl) ?_
    (conv => whnf); (repeat' ((first | (with_reducible first | refine Box.mk ?_ | refine And.intro (fun _ => ?_) (fun _ => ?_) | refine (forceH_eq _ _).mpr ?_) | refine ACall.of_pure (by assumption) (by rfl) ?_ | ((with_reducible show Exists _); refine ⟨_, ACall.of_pure (by assumption) (by rfl) ⟨rfl, rfl⟩, ?_⟩) | ((with_reducible show ∃ L, drawR L _ = true ∧ _); refine ⟨[], by kernel_rfl, ?_⟩) | ((with_reducible show _ ∧ _ ∧ _); refine ⟨by omega, by omega, ?_⟩) | fail) <;> conv => whnf))
    all_goals first
      | contradiction
      | exact no rfl
  · refine PCall.of_awp tok mixed fn54 (Nat.le_of_ble_eq_true rfl) ?_
    (conv => whnf); (repeat' ((first | (with_reducible first | refine Box.mk ?_ | refine And.intro (fun _ => ?_) (fun _ => ?_) | refine (forceH_eq _ _).mpr ?_) | refine ACall.of_pure (by assumption) (by rfl) ?_ | ((with_reducible show Exists _); refine ⟨_, ACall.of_pure (by assumption) (by rfl) ⟨rfl, rfl⟩, ?_⟩) | ((with_reducible show ∃ L, drawR L _ = true ∧ _); refine ⟨[], by kernel_rfl, ?_⟩) | ((with_reducible show _ ∧ _ ∧ _); refine ⟨by omega, by omega, ?_⟩) | fail) <;> conv => whnf))
    all_goals try contradiction
    · exact no (by rw [Bool.true_and]; exact decide_eq_false fun h => by omega)
    · exact no (by rw [Bool.true_and]; exact decide_eq_false fun h => by omega)
    · refine aloop (fun c => c ≤ 2) (fun c : Nat => ⟨envL [(3, .ptr 0 0), (4, .ptr 1 0), (5, .ptr 2 0), (6, .ptr 3 0), (7, .ptr 4 0), (34, .agg (dcs s)), (35, .int .i64 c)], upH s p i j x y c⟩)
        (fun c => 2 - c) 0 (by omega) (weak_to ⟨rfl, rfl, rfl, rfl, rfl, rfl, rfl, trivial⟩ rfl) ?_
      intro c hc
      have hc : c = 0 ∨ c = 1 ∨ c = 2 := by omega
      rcases hc with rfl | rfl | rfl
      all_goals (
        (conv => whnf); (repeat' ((first | (with_reducible first | refine Box.mk ?_ | refine And.intro (fun _ => ?_) (fun _ => ?_) | refine (forceH_eq _ _).mpr ?_) | refine ACall.of_pure (by assumption) (by rfl) ?_ | ((with_reducible show Exists _); refine ⟨_, ACall.of_pure (by assumption) (by rfl) ⟨rfl, rfl⟩, ?_⟩) | ((with_reducible show ∃ L, drawR L _ = true ∧ _); refine ⟨[], by kernel_rfl, ?_⟩) | ((with_reducible show _ ∧ _ ∧ _); refine ⟨by omega, by omega, ?_⟩) | fail) <;> conv => whnf))
        all_goals try contradiction
        all_goals first
          | exact ⟨1, by omega, by decide, weak_ren_to [(0, true), (1, true), (2, true), (3, true), (4, true)] rfl rfl rfl ⟨rfl, rfl, rfl, rfl, rfl, rfl, rfl, trivial⟩⟩
          | exact ⟨2, by omega, by decide, weak_ren_to [(0, true), (1, true), (2, true), (3, true), (4, true)] rfl rfl rfl ⟨rfl, rfl, rfl, rfl, rfl, rfl, rfl, trivial⟩⟩
          | exact yes (by rw [Bool.true_and]; exact decide_eq_true ⟨by omega, by omega⟩))
def overP (s : Sp) (p q : Px) : Bool := rightP s p && rightP s q && decide (q.a0 ≤ p.a0 ∧ q.a1 ≤ p.a1 ∧ p = upP s q p.a0 p.a1)
theorem pOver_ok (s : Sp) (p q : Px) (hp : POk p) (hq : POk q) : PCall P 24 [spv s, pxv p, pxv q] (.bool (overP s p q)) := by
  have q1 := pRight_ok s p hp
  have q2 := pRight_ok s q hq
  have q3 := up_ok s q p.a0 p.a1 hq
  unfold overP
  generalize upP s q p.a0 p.a1 = u at *
  generalize rightP s p = r1 at *
  generalize rightP s q = r2 at *
  cases r1 <;> cases r2
  all_goals (
    refine PCall.of_awp tok mixed fn24 (Nat.le_of_ble_eq_true rfl) ?_
    (conv => whnf); (repeat' ((first | (with_reducible first | refine Box.mk ?_ | refine And.intro (fun _ => ?_) (fun _ => ?_) | refine (forceH_eq _ _).mpr ?_) | refine ACall.of_pure (by assumption) (by rfl) ?_ | ((with_reducible show Exists _); refine ⟨_, ACall.of_pure (by assumption) (by rfl) ⟨rfl, rfl⟩, ?_⟩) | ((with_reducible show ∃ L, drawR L _ = true ∧ _); refine ⟨[], by kernel_rfl, ?_⟩) | ((with_reducible show _ ∧ _ ∧ _); refine ⟨by omega, by omega, ?_⟩) | fail) <;> conv => whnf))
    all_goals first
      | contradiction
      | rfl
      | exact bool_true (decide_eq_true ⟨by omega, by omega, px_eq.1 (by assumption)⟩)
      | exact bool_false (decide_eq_false fun h => absurd (px_eq.2 h.2.2) (by assumption))
      | exact bool_false (decide_eq_false fun h => by omega))
end Go.Proofs.YtgaohmfmomeflaaGreatDoor
end

section
/- prefix: Top, Height, Cross, Cmp. -/
namespace Go.Proofs.YtgaohmfmomeflaaGreatDoor
open Go.Ve

def topP (s : Sp) : Px := bif soundS s then ⟨depthD s.d0, depthD s.d1, rootK s.d0.kind, rootK s.d1.kind⟩ else zeroP
def topH (s : Sp) (a b : Int) (x y : Ky) : Nat → Hp
  | 0 => [.box 26 (scs s), .box 34 (.int .i64 0 :: .int .i64 0 :: (kzs ++ kzs)), .box 34 (.int .i64 0 :: .int .i64 0 :: (kzs ++ kzs))]
  | 1 => [.box 26 (scs s), .box 34 (.int .i64 0 :: .int .i64 0 :: (kzs ++ kzs)), .box 34 (.int .i64 a :: .int .i64 0 :: (kcs x ++ kzs))]
  | _ => [.box 26 (scs s), .box 34 (.int .i64 0 :: .int .i64 0 :: (kzs ++ kzs)), .box 34 (.int .i64 a :: .int .i64 b :: (kcs x ++ kcs y))]
theorem top_okP (s : Sp) : PCall P 26 [spv s] (pxv (topP s)) := by
  have q1 := sound_ok s
  have q2 := dDepth_ok s.d0
  have q3 := dDepth_ok s.d1
  have q4 := root_ok s.d0.kind
  have q5 := root_ok s.d1.kind
  unfold topP
  generalize soundS s = so at *
  generalize depthD s.d0 = a at *
  generalize depthD s.d1 = b at *
  generalize rootK s.d0.kind = x at *
  generalize rootK s.d1.kind = y at *
  cases so
  · rw [cond_false, pxv_zero]
    refine PCall.of_awp tok mixed fn26 (Nat.le_of_ble_eq_true rfl) ?_
    (conv => whnf); (repeat' ((first | (with_reducible first | refine Box.mk ?_ | refine And.intro (fun _ => ?_) (fun _ => ?_) | refine (forceH_eq _ _).mpr ?_) | refine ACall.of_pure (by assumption) (by rfl) ?_ | ((with_reducible show Exists _); refine ⟨_, ACall.of_pure (by assumption) (by rfl) ⟨rfl, rfl⟩, ?_⟩) | ((with_reducible show ∃ L, drawR L _ = true ∧ _); refine ⟨[], by kernel_rfl, ?_⟩) | ((with_reducible show _ ∧ _ ∧ _); refine ⟨by omega, by omega, ?_⟩) | fail) <;> conv => whnf))
    all_goals first
      | contradiction
      | rfl
  · rw [cond_true]
    refine PCall.of_awp tok mixed fn26 (Nat.le_of_ble_eq_true rfl) ?_
    (conv => whnf); (repeat' ((first | (with_reducible first | refine Box.mk ?_ | refine And.intro (fun _ => ?_) (fun _ => ?_) | refine (forceH_eq _ _).mpr ?_) | refine ACall.of_pure (by assumption) (by rfl) ?_ | ((with_reducible show Exists _); refine ⟨_, ACall.of_pure (by assumption) (by rfl) ⟨rfl, rfl⟩, ?_⟩) | ((with_reducible show ∃ L, drawR L _ = true ∧ _); refine ⟨[], by kernel_rfl, ?_⟩) | ((with_reducible show _ ∧ _ ∧ _); refine ⟨by omega, by omega, ?_⟩) | fail) <;> conv => whnf))
    all_goals try contradiction
    refine aloop (fun c => c ≤ 2) (fun c : Nat => ⟨envL [(1, .ptr 0 0), (2, .ptr 1 0), (3, .ptr 2 0), (11, .agg (dcs s)), (12, .int .i64 c)], topH s a b x y c⟩)
      (fun c => 2 - c) 0 (by omega) (weak_to ⟨rfl, rfl, rfl, rfl, rfl, trivial⟩ rfl) ?_
    intro c hc
    have hc : c = 0 ∨ c = 1 ∨ c = 2 := by omega
    rcases hc with rfl | rfl | rfl
    all_goals (
      (conv => whnf); (repeat' ((first | (with_reducible first | refine Box.mk ?_ | refine And.intro (fun _ => ?_) (fun _ => ?_) | refine (forceH_eq _ _).mpr ?_) | refine ACall.of_pure (by assumption) (by rfl) ?_ | ((with_reducible show Exists _); refine ⟨_, ACall.of_pure (by assumption) (by rfl) ⟨rfl, rfl⟩, ?_⟩) | ((with_reducible show ∃ L, drawR L _ = true ∧ _); refine ⟨[], by kernel_rfl, ?_⟩) | ((with_reducible show _ ∧ _ ∧ _); refine ⟨by omega, by omega, ?_⟩) | fail) <;> conv => whnf))
      all_goals try contradiction
      all_goals first
        | exact ⟨1, by omega, by decide, weak_ren_to [(0, true), (1, true), (2, true)] rfl rfl rfl ⟨rfl, rfl, rfl, rfl, rfl, trivial⟩⟩
        | exact ⟨2, by omega, by decide, weak_ren_to [(0, true), (1, true), (2, true)] rfl rfl rfl ⟨rfl, rfl, rfl, rfl, rfl, trivial⟩⟩
        | rfl)
theorem right_bounds {s : Sp} {p : Px} (h : rightP s p = true) : 0 ≤ p.a0 ∧ p.a0 ≤ 128 ∧ 0 ≤ p.a1 ∧ p.a1 ≤ 128 := by
  unfold rightP at h
  rw [Bool.and_eq_true, Bool.and_eq_true] at h
  obtain ⟨⟨_, h0⟩, h1⟩ := h
  have lv : ∀ {d : Dm} {l : Int} {k : Ky}, onD d l k = true → 0 ≤ l ∧ l ≤ 128 := fun {d l k} h => by
    unfold onD at h
    rw [Bool.and_eq_true] at h
    obtain ⟨h2, _⟩ := of_decide_eq_true h.2
    have hd := @depthD_le d
    unfold lenD at h2
    split at h2
    · rename_i h3; omega
    · omega
  have h2 := lv h0
  by_cases hn : s.n = 1
  · rw [decide_eq_true hn, cond_true] at h1
    have := of_decide_eq_true h1
    omega
  · rw [decide_eq_false hn, cond_false] at h1
    have := lv h1
    omega
def heightP (s : Sp) (p : Px) : Int := bif rightP s p then p.a0 + p.a1 else 0
theorem height_ok (s : Sp) (p : Px) (hp : POk p) : PCall P 43 [spv s, pxv p] (.int .i64 (heightP s p)) := by
  have q1 := pRight_ok s p hp
  have hb := @right_bounds s p
  unfold heightP
  generalize rightP s p = r at *
  cases r
  all_goals (
    refine PCall.of_awp tok mixed fn43 (Nat.le_of_ble_eq_true rfl) ?_
    (conv => whnf); (repeat' ((first | (with_reducible first | refine Box.mk ?_ | refine And.intro (fun _ => ?_) (fun _ => ?_) | refine (forceH_eq _ _).mpr ?_) | refine ACall.of_pure (by assumption) (by rfl) ?_ | ((with_reducible show Exists _); refine ⟨_, ACall.of_pure (by assumption) (by rfl) ⟨rfl, rfl⟩, ?_⟩) | ((with_reducible show ∃ L, drawR L _ = true ∧ _); refine ⟨[], by kernel_rfl, ?_⟩) | ((with_reducible show _ ∧ _ ∧ _); refine ⟨by omega, by omega, ?_⟩) | fail) <;> conv => whnf))
    all_goals first
      | contradiction
      | rfl
      | (have := hb rfl
         exact res1_eq (congrArg (AV.int .i64) (wrap_i64 (by omega) (by omega)))))
def cmpP (p q : Px) : Int := if p = q then 0 else orI [orI [cmpI p.a0 q.a0, cmpI p.a1 q.a1], cmpK p.k0 q.k0, cmpK p.k1 q.k1]
theorem pCmp_ok [Dr] (p q : Px) : PCall P 59 [pxv p, pxv q] (.int .i64 (cmpP p q)) := by
  have c1 := cmpI_ok p.a0 q.a0
  have c2 := cmpI_ok p.a1 q.a1
  have c3 := cmpK_ok p.k0 q.k0
  have c4 := cmpK_ok p.k1 q.k1
  have c5 := or_ok [cmpI p.a0 q.a0, cmpI p.a1 q.a1] (by simp)
  have c6 := or_ok [orI [cmpI p.a0 q.a0, cmpI p.a1 q.a1], cmpK p.k0 q.k0, cmpK p.k1 q.k1] (by simp)
  unfold cmpP
  generalize cmpI p.a0 q.a0 = w0 at *
  generalize cmpI p.a1 q.a1 = w1 at *
  generalize cmpK p.k0 q.k0 = w2 at *
  generalize cmpK p.k1 q.k1 = w3 at *
  generalize orI [w0, w1] = w4 at *
  refine PCall.of_awp tok mixed fn59 (Nat.le_of_ble_eq_true rfl) ?_
  (conv => whnf); (repeat' ((first | (with_reducible first | refine Box.mk ?_ | refine And.intro (fun _ => ?_) (fun _ => ?_) | refine (forceH_eq _ _).mpr ?_) | refine ACall.of_pure (by assumption) (by rfl) ?_ | ((with_reducible show Exists _); refine ⟨_, ACall.of_pure (by assumption) (by rfl) ⟨rfl, rfl⟩, ?_⟩) | ((with_reducible show ∃ L, drawR L _ = true ∧ _); refine ⟨[], by kernel_rfl, ?_⟩) | ((with_reducible show _ ∧ _ ∧ _); refine ⟨by omega, by omega, ?_⟩) | fail) <;> conv => whnf))
  · rw [if_pos (px_eq.1 (by assumption))]; rfl
  · refine ⟨_, ACall.of_view c5 rfl rfl ⟨rfl, rfl⟩, ?_⟩
    (conv => whnf); (repeat' ((first | (with_reducible first | refine Box.mk ?_ | refine And.intro (fun _ => ?_) (fun _ => ?_) | refine (forceH_eq _ _).mpr ?_) | refine ACall.of_pure (by assumption) (by rfl) ?_ | ((with_reducible show Exists _); refine ⟨_, ACall.of_pure (by assumption) (by rfl) ⟨rfl, rfl⟩, ?_⟩) | ((with_reducible show ∃ L, drawR L _ = true ∧ _); refine ⟨[], by kernel_rfl, ?_⟩) | ((with_reducible show _ ∧ _ ∧ _); refine ⟨by omega, by omega, ?_⟩) | fail) <;> conv => whnf))
    refine ⟨_, ACall.of_view c6 rfl rfl ⟨rfl, rfl⟩, ?_⟩
    (conv => whnf); (repeat' ((first | (with_reducible first | refine Box.mk ?_ | refine And.intro (fun _ => ?_) (fun _ => ?_) | refine (forceH_eq _ _).mpr ?_) | refine ACall.of_pure (by assumption) (by rfl) ?_ | ((with_reducible show Exists _); refine ⟨_, ACall.of_pure (by assumption) (by rfl) ⟨rfl, rfl⟩, ?_⟩) | ((with_reducible show ∃ L, drawR L _ = true ∧ _); refine ⟨[], by kernel_rfl, ?_⟩) | ((with_reducible show _ ∧ _ ∧ _); refine ⟨by omega, by omega, ?_⟩) | fail) <;> conv => whnf))
    rw [if_neg (fun h => absurd (px_eq.2 h) (by assumption))]; rfl
end Go.Proofs.YtgaohmfmomeflaaGreatDoor
end

section
/- grid: the nodes in their order (plain). -/
namespace Go.Proofs.YtgaohmfmomeflaaGreatDoor
open Go.Ve

def gA (s : Sp) : Nat := (bif soundS s then depthD s.d0 else 0).toNat
def gB (s : Sp) : Nat := (bif soundS s then depthD s.d1 else 0).toNat
theorem g_le (s : Sp) : gA s ≤ 128 ∧ gB s ≤ 128 := by
  have h0 := @depthD_le s.d0
  have h1 := @depthD_le s.d1
  unfold gA gB
  cases soundS s
  · exact ⟨Nat.zero_le _, Nat.zero_le _⟩
  · simp only [cond_true]; omega
theorem top_g (s : Sp) : (topP s).a0 = (gA s : Int) ∧ (topP s).a1 = (gB s : Int) := by
  have h0 := @depthD_le s.d0
  have h1 := @depthD_le s.d1
  unfold topP gA gB
  cases soundS s
  · exact ⟨rfl, rfl⟩
  · simp only [cond_true]; omega
def ncs (p : Nat × Nat) : List AV := [.int .i64 p.1, .int .i64 p.2]
/-- How many nodes a height has; these; all. -/
def cntN (a b h : Nat) : Nat := min h a + 1 - (h - b)
def rowN (a b h : Nat) : List (Nat × Nat) := (List.range (cntN a b h)).map fun t => (h - b + t, h - (h - b + t))
def uptoN (a b h : Nat) : List (Nat × Nat) := (List.range h).flatMap (rowN a b)
def nodesN (a b : Nat) : List (Nat × Nat) := uptoN a b (a + b + 1)
theorem uptoN_succ (a b h : Nat) : uptoN a b (h + 1) = uptoN a b h ++ rowN a b h := by simp [uptoN, List.range_succ]
theorem rowN_len (a b h : Nat) : (rowN a b h).length = cntN a b h := by simp [rowN]
theorem rowN_take {a b h t : Nat} (ht : t < cntN a b h) : (rowN a b h).take (t + 1) = (rowN a b h).take t ++ [(h - b + t, h - (h - b + t))] := by
  rw [List.take_add_one]
  congr 1
  simp [rowN, ht]
theorem uptoN_pre {a b : Nat} : ∀ {h h' : Nat}, h ≤ h' → uptoN a b h <+: uptoN a b h' := by
  intro h h' hh
  obtain ⟨k, rfl⟩ := Nat.le.dest hh
  clear hh
  induction k with
  | zero => exact List.prefix_refl _
  | succ k ih =>
    rw [← Nat.add_assoc, uptoN_succ]
    exact ih.trans (List.prefix_append _ _)
theorem cntN_le (a b h : Nat) : cntN a b h ≤ a + 1 := by unfold cntN; omega
theorem uptoN_len (a b : Nat) : ∀ h, (uptoN a b h).length ≤ h * (a + 1)
  | 0 => by simp [uptoN]
  | h + 1 => by
    have := uptoN_len a b h
    have h2 := cntN_le a b h
    rw [uptoN_succ, List.length_append, rowN_len, Nat.add_mul]
    omega
theorem nodesN_len {a b : Nat} (ha : a ≤ 128) (hb : b ≤ 128) : (nodesN a b).length ≤ 33153 := by
  have h := uptoN_len a b (a + b + 1)
  have : (a + b + 1) * (a + 1) ≤ 257 * 129 := Nat.mul_le_mul (by omega) (by omega)
  unfold nodesN; omega
theorem part_pre {a b h t : Nat} (hh : h ≤ a + b) (ht : t < cntN a b h) : (uptoN a b h ++ (rowN a b h).take t) ++ [(h - b + t, h - (h - b + t))] <+: nodesN a b := by
  have h1 : (uptoN a b h ++ (rowN a b h).take t) ++ [(h - b + t, h - (h - b + t))] <+: uptoN a b (h + 1) := by
    rw [List.append_assoc, ← rowN_take ht, uptoN_succ]
    exact (List.prefix_append_right_inj _).2 (List.take_prefix _ _)
  exact h1.trans (uptoN_pre (by omega))
end Go.Proofs.YtgaohmfmomeflaaGreatDoor
end

section
/- grid: places and nodes (plain). -/
namespace Go.Proofs.YtgaohmfmomeflaaGreatDoor
open Go.Ve

theorem rowN_get {a b h t : Nat} : (rowN a b h)[t]? = if t < cntN a b h then some (h - b + t, h - (h - b + t)) else none := by
  unfold rowN
  split
  · rename_i ht; simp [ht]
  · rename_i ht; simp; omega
/-- Where a node stands. -/
def placeN (a b : Nat) (p : Nat × Nat) : Nat := (uptoN a b (p.1 + p.2)).length + (p.1 - (p.1 + p.2 - b))
theorem get_upto {a b : Nat} : ∀ (n k : Nat) (p : Nat × Nat), (uptoN a b n)[k]? = some p → p.1 ≤ a ∧ p.2 ≤ b ∧ p.1 + p.2 < n ∧ placeN a b p = k
  | 0, k, p, h => by simp [uptoN] at h
  | n + 1, k, p, h => by
    rw [uptoN_succ] at h
    by_cases hk : k < (uptoN a b n).length
    · rw [List.getElem?_append_left hk] at h
      obtain ⟨h1, h2, h3, h4⟩ := get_upto n k p h
      exact ⟨h1, h2, by omega, h4⟩
    · rw [List.getElem?_append_right (by omega), rowN_get] at h
      split at h
      · rename_i ht
        have hd : cntN a b n = min n a + 1 - (n - b) := rfl
        simp only [Option.some.injEq] at h
        subst h
        have e : n - b + (k - (uptoN a b n).length) + (n - (n - b + (k - (uptoN a b n).length))) = n := by omega
        refine ⟨by show n - b + _ ≤ a; omega, by show n - (n - b + _) ≤ b; omega, by show _ + _ < _; omega, ?_⟩
        show (uptoN a b (n - b + (k - (uptoN a b n).length) + (n - (n - b + (k - (uptoN a b n).length))))).length + (n - b + (k - (uptoN a b n).length) - (n - b + (k - (uptoN a b n).length) + (n - (n - b + (k - (uptoN a b n).length))) - b)) = k
        rw [e]; omega
      · cases h
theorem node_get {a b k : Nat} {p : Nat × Nat} (h : (nodesN a b)[k]? = some p) : p.1 ≤ a ∧ p.2 ≤ b ∧ placeN a b p = k := by
  obtain ⟨h1, h2, _, h4⟩ := get_upto _ k p h
  exact ⟨h1, h2, h4⟩
theorem place_get {a b : Nat} {p : Nat × Nat} (h1 : p.1 ≤ a) (h2 : p.2 ≤ b) : (nodesN a b)[placeN a b p]? = some p := by
  obtain ⟨i, j⟩ := p
  have h1 : i ≤ a := h1
  have h2 : j ≤ b := h2
  have hpre := uptoN_pre (a := a) (b := b) (h := i + j + 1) (h' := a + b + 1) (by omega)
  have hd : cntN a b (i + j) = min (i + j) a + 1 - (i + j - b) := rfl
  have hrow : (rowN a b (i + j))[i - (i + j - b)]? = some (i, j) := by
    rw [rowN_get, if_pos (by omega)]
    simp only [Option.some.injEq, Prod.mk.injEq]
    omega
  have hin : (uptoN a b (i + j + 1))[placeN a b (i, j)]? = some (i, j) := by
    unfold placeN
    rw [uptoN_succ, List.getElem?_append_right (by show _ ≤ (uptoN a b (i + j)).length + _; omega)]
    show (rowN a b (i + j))[(uptoN a b (i + j)).length + (i - (i + j - b)) - (uptoN a b (i + j)).length]? = _
    rw [show (uptoN a b (i + j)).length + (i - (i + j - b)) - (uptoN a b (i + j)).length = i - (i + j - b) by omega]
    exact hrow
  obtain ⟨t, ht⟩ := hpre
  unfold nodesN
  rw [← ht, List.getElem?_append_left (List.getElem?_eq_some_iff.1 hin).1]
  exact hin
def nds (s : Sp) : List (Nat × Nat) := bif soundS s then nodesN (gA s) (gB s) else []
theorem nds_yes {s : Sp} (h : soundS s = true) : nds s = nodesN (gA s) (gB s) := by rw [nds, h, cond_true]
theorem nds_no {s : Sp} (h : soundS s = false) : nds s = [] := by rw [nds, h, cond_false]
theorem nds_len (s : Sp) : (nds s).length ≤ 33153 := by
  obtain ⟨g1, g2⟩ := g_le s
  cases h : soundS s
  · rw [nds_no h]; exact Nat.zero_le _
  · rw [nds_yes h]; exact nodesN_len g1 g2
end Go.Proofs.YtgaohmfmomeflaaGreatDoor
end

section
/- prefix, plain laws: one dimension's order. -/
namespace Go.Proofs.YtgaohmfmomeflaaGreatDoor
open Go.Ve

theorem onD_iff {d : Dm} {l : Int} {k : Ky} : onD d l k = true ↔ rightK k = true ∧ 0 ≤ lenD d l ∧ k.kind = d.kind ∧ (k.len = lenD d l ∨ (k.kind = 3 ∧ k.len < lenD d l)) := by
  unfold onD; rw [Bool.and_eq_true, decide_eq_true_iff]
theorem len_ok_iff {d : Dm} {l : Int} : 0 ≤ lenD d l ↔ rightD d = true ∧ 0 ≤ l ∧ l ≤ depthD d := by
  unfold lenD
  split
  · rename_i h; exact ⟨fun _ => h, fun _ => by omega⟩
  · rename_i h; exact ⟨fun h' => by omega, fun h' => absurd h' h⟩
theorem lenD_anti {d : Dm} {a b : Int} (ha : 0 ≤ lenD d a) (hb : 0 ≤ lenD d b) (h : b ≤ a) : lenD d a ≤ lenD d b := by
  have h1 := len_ok_iff.1 ha
  have h2 := len_ok_iff.1 hb
  unfold lenD
  rw [if_pos h1, if_pos h2]
  have := Int.mul_le_mul_of_nonneg_right h (show 0 ≤ d.step by have := (rightD_step h1.1).2.1; omega)
  omega
theorem on_zero {d : Dm} {l : Int} : onD d l zeroK = false := by
  cases h : onD d l zeroK with
  | false => rfl
  | true => exact absurd (onD_iff.1 h).1 (by decide)
theorem cutD_eq {d : Dm} {l : Int} {k : Ky} (h : 0 ≤ lenD d l) (hk : k.kind = d.kind) : cutD d l k = cutU k (lenD d l) := by
  unfold cutD; rw [if_neg (by omega)]
theorem cutU_eq {k : Ky} (h : rightK k = true) (n : Int) : cutU k n = cutK k n := by unfold cutU; rw [h, cond_true]
theorem cut_all {k : Ky} (hn : k.n < 2 ^ 128) (h : rightK k = true) {n : Int} (hl : k.len ≤ n) : cutU k n = k := by
  rw [cutU_eq h]
  obtain ⟨c1, c2, c3⟩ := cut_right h n
  have := letters_len h
  refine letters_inj (cut_n hn n) hn c1 h c2 ?_
  rw [c3, List.take_of_length_le (by omega)]
theorem cut_self {d : Dm} {l : Int} {k : Ky} (hn : k.n < 2 ^ 128) (h : onD d l k = true) : cutD d l k = k := by
  obtain ⟨h1, h2, h3, h4⟩ := onD_iff.1 h
  rw [cutD_eq h2 h3]
  exact cut_all hn h1 (by omega)
theorem cut_len {k : Ky} (h : rightK k = true) (n : Int) (h0 : 0 ≤ n) : (cutU k n).len = min n k.len := by
  rw [cutU_eq h]
  obtain ⟨c1, c2, c3⟩ := cut_right h n
  have h1 := letters_len h
  have h2 := letters_len c1
  rw [c3, List.length_take] at h2
  omega
/-- Cut to a greater level, a key stands on that. -/
theorem cut_on {d : Dm} {a b : Int} {k : Ky} (h : onD d b k = true) (ha : 0 ≤ lenD d a) (hab : b ≤ a) : onD d a (cutD d a k) = true := by
  obtain ⟨h1, h2, h3, h4⟩ := onD_iff.1 h
  have hle := lenD_anti ha h2 hab
  have hl := cut_len h1 (lenD d a) ha
  rw [cutD_eq ha h3]
  rw [cutU_eq h1] at hl ⊢
  obtain ⟨c1, c2, c3⟩ := cut_right h1 (lenD d a)
  exact onD_iff.2 ⟨c1, ha, by rw [c2, h3], by rw [c2]; omega⟩
theorem cut_twice {d : Dm} {a b c : Int} {k : Ky} (hn : k.n < 2 ^ 128) (h : onD d c k = true) (ha : 0 ≤ lenD d a) (hb : 0 ≤ lenD d b) (hab : b ≤ a) : cutD d a (cutD d b k) = cutD d a k := by
  obtain ⟨h1, h2, h3, h4⟩ := onD_iff.1 h
  have hle := lenD_anti ha hb hab
  have hk : (cutD d b k).kind = d.kind := by
    rw [cutD_eq hb h3, cutU_eq h1, (cut_right h1 _).2.1, h3]
  rw [cutD_eq ha hk, cutD_eq ha h3, cutD_eq hb h3, cut_cut hn h1]
  split
  · rfl
  · rw [show lenD d b = lenD d a by omega]
/-! ### one dimension: the one over the other -/
/-- A level and a key of a dimension over another. -/
def RD (d : Dm) (a : Int) (k : Ky) (b : Int) (x : Ky) : Prop := onD d a k = true ∧ onD d b x = true ∧ b ≤ a ∧ k = cutD d a x
theorem RD.refl {d : Dm} {a : Int} {k : Ky} (hn : k.n < 2 ^ 128) (h : onD d a k = true) : RD d a k a k := ⟨h, h, Int.le_refl _, (cut_self hn h).symm⟩
theorem RD.same {d : Dm} {a : Int} {k x : Ky} (hx : x.n < 2 ^ 128) (h : RD d a k a x) : k = x := by rw [h.2.2.2, cut_self hx h.2.1]
theorem RD.trans {d : Dm} {a b c : Int} {k x y : Ky} (hy : y.n < 2 ^ 128) (h1 : RD d a k b x) (h2 : RD d b x c y) : RD d a k c y := by
  have ha := (onD_iff.1 h1.1).2.1
  have hb := (onD_iff.1 h2.1).2.1
  refine ⟨h1.1, h2.2.1, Int.le_trans h2.2.2.1 h1.2.2.1, ?_⟩
  rw [h1.2.2.2, h2.2.2.2, cut_twice hy h2.2.1 ha hb h1.2.2.1]
/-- Two that are over one: the one of the greater level is over the other. -/
theorem RD.chain {d : Dm} {a b c : Int} {k x y : Ky} (hy : y.n < 2 ^ 128) (h1 : RD d a k c y) (h2 : RD d b x c y) (hab : b ≤ a) : RD d a k b x := by
  have ha := (onD_iff.1 h1.1).2.1
  have hb := (onD_iff.1 h2.1).2.1
  refine ⟨h1.1, h2.1, hab, ?_⟩
  rw [h1.2.2.2, h2.2.2.2, cut_twice hy h2.2.1 ha hb hab]
theorem RD.of_cut {d : Dm} {a b : Int} {x : Ky} (h : onD d b x = true) (ha : 0 ≤ lenD d a) (hab : b ≤ a) : RD d a (cutD d a x) b x := ⟨cut_on h ha hab, h, hab, rfl⟩
theorem root_right {d : Dm} (h : rightD d = true) : rightK (rootK d.kind) = true ∧ (rootK d.kind).kind = d.kind ∧ (rootK d.kind).len = 0 ∧ lettersL (rootK d.kind) = [] ∧ (rootK d.kind).n < 2 ^ 128 := by
  obtain ⟨_, h1, h2⟩ := rightD_step h
  have hw : widthK d.kind ≠ 0 := by omega
  have hr : rootK d.kind = ⟨d.kind, 0, 0, []⟩ := by rw [rootK, if_neg hw]
  rw [hr]
  have hk : d.kind = 1 ∨ d.kind = 2 ∨ d.kind = 3 := by
    unfold widthK at hw
    by_cases k1 : d.kind = 1
    · exact .inl k1
    · by_cases k2 : d.kind = 2
      · exact .inr (.inl k2)
      · by_cases k3 : d.kind = 3
        · exact .inr (.inr k3)
        · rw [if_neg k1, if_neg k2, if_neg k3] at hw; exact absurd rfl hw
  refine ⟨?_, rfl, rfl, ?_, Nat.two_pow_pos 128⟩
  · rcases hk with k | k | k <;> rw [k] <;> decide
  · rcases hk with k | k | k <;> rw [k] <;> decide
theorem depth_len {d : Dm} (h : rightD d = true) : lenD d (depthD d) = 0 := by
  have hd := @depthD_le d
  rw [lenD, if_pos ⟨h, hd.1, Int.le_refl _⟩, depthD_eq h]
  obtain ⟨_, h1, h2⟩ := rightD_step h
  have h3 := Int.lt_ediv_add_one_mul_self (widthK d.kind + d.step - 1) (show 0 < d.step by omega)
  rw [Int.add_mul] at h3
  omega
/-- The root is over whatever stands on a level. -/
theorem RD.top {d : Dm} {b : Int} {x : Ky} (hx : x.n < 2 ^ 128) (h : onD d b x = true) : RD d (depthD d) (rootK d.kind) b x := by
  obtain ⟨h1, h2, h3, h4⟩ := onD_iff.1 h
  obtain ⟨g1, g2, g3⟩ := len_ok_iff.1 h2
  obtain ⟨r1, r2, r3, r4, r5⟩ := root_right g1
  have hl := depth_len g1
  refine ⟨onD_iff.2 ⟨r1, by omega, r2, by omega⟩, h, g3, ?_⟩
  rw [cutD_eq (by omega) h3, hl, cutU_eq h1]
  obtain ⟨c1, c2, c3⟩ := cut_right h1 0
  refine letters_inj r5 (cut_n hx 0) r1 c1 (by rw [r2, c2, h3]) ?_
  rw [c3, r4]; rfl
end Go.Proofs.YtgaohmfmomeflaaGreatDoor
end

section
/- prefix, plain laws: prefixes over each other. -/
namespace Go.Proofs.YtgaohmfmomeflaaGreatDoor
open Go.Ve

/-- The second dimension's relation; where there is one dimension alone: both have nothing. -/
def R1 (s : Sp) (a : Int) (k : Ky) (b : Int) (x : Ky) : Prop := if s.n = 1 then a = 0 ∧ k = zeroK ∧ b = 0 ∧ x = zeroK else RD s.d1 a k b x
structure DirOk (R : Int → Ky → Int → Ky → Prop) : Prop where
  l : ∀ {a b : Int} {k x : Ky}, k.n < 2 ^ 128 → R a k b x → R a k a k
  r : ∀ {a b : Int} {k x : Ky}, x.n < 2 ^ 128 → R a k b x → R b x b x
  le : ∀ {a b : Int} {k x : Ky}, R a k b x → b ≤ a
  same : ∀ {a : Int} {k x : Ky}, x.n < 2 ^ 128 → R a k a x → k = x
  trans : ∀ {a b c : Int} {k x y : Ky}, y.n < 2 ^ 128 → R a k b x → R b x c y → R a k c y
  chain : ∀ {a b c : Int} {k x y : Ky}, y.n < 2 ^ 128 → R a k c y → R b x c y → b ≤ a → R a k b x
theorem dirD (d : Dm) : DirOk (RD d) := ⟨fun h1 h => RD.refl h1 h.1, fun h1 h => RD.refl h1 h.2.1, fun h => h.2.2.1, fun h1 h => h.same h1, fun h1 h h' => h.trans h1 h', fun h1 h h' h2 => h.chain h1 h' h2⟩
theorem dir1 (s : Sp) : DirOk (R1 s) := by
  by_cases hn : s.n = 1
  · have e : R1 s = fun a k b x => a = 0 ∧ k = zeroK ∧ b = 0 ∧ x = zeroK := by
      funext a k b x; unfold R1; rw [if_pos hn]
    rw [e]
    exact ⟨fun _ h => ⟨h.1, h.2.1, h.1, h.2.1⟩, fun _ h => ⟨h.2.2.1, h.2.2.2, h.2.2.1, h.2.2.2⟩, fun h => by rw [h.1, h.2.2.1]; exact Int.le_refl _, fun _ h => h.2.1.trans h.2.2.2.symm,
      fun _ h h' => ⟨h.1, h.2.1, h'.2.2.1, h'.2.2.2⟩, fun _ h h' _ => ⟨h.1, h.2.1, h'.1, h'.2.1⟩⟩
  · have e : R1 s = RD s.d1 := by funext a k b x; unfold R1; rw [if_neg hn]
    rw [e]; exact dirD _
theorem rightP_iff {s : Sp} {p : Px} (hp : POk p) : rightP s p = true ↔ soundS s = true ∧ RD s.d0 p.a0 p.k0 p.a0 p.k0 ∧ R1 s p.a1 p.k1 p.a1 p.k1 := by
  unfold rightP R1
  rw [Bool.and_eq_true, Bool.and_eq_true]
  by_cases hn : s.n = 1
  · rw [decide_eq_true hn, cond_true, if_pos hn, decide_eq_true_iff]
    exact ⟨fun ⟨⟨h1, h2⟩, h3, h4⟩ => ⟨h1, RD.refl hp.n0 h2, h3, h4, h3, h4⟩, fun ⟨h1, h2, h3, h4, _⟩ => ⟨⟨h1, h2.1⟩, h3, h4⟩⟩
  · rw [decide_eq_false hn, cond_false, if_neg hn]
    exact ⟨fun ⟨⟨h1, h2⟩, h3⟩ => ⟨h1, RD.refl hp.n0 h2, RD.refl hp.n1 h3⟩, fun ⟨h1, h2, h3⟩ => ⟨⟨h1, h2.1⟩, h3.1⟩⟩
theorem zero_notright (s : Sp) : rightP s zeroP = false := by
  unfold rightP
  rw [show onD s.d0 zeroP.a0 zeroP.k0 = false from on_zero, Bool.and_false, Bool.false_and]
theorem lenD_zero (l : Int) : lenD zeroD l = -1 := by
  unfold lenD; rw [if_neg (fun h => absurd h.1 (by decide))]
theorem sound_one {s : Sp} (h : soundS s = true) (hn : s.n = 1) : s.d1 = zeroD := by
  rcases sound_cases h with h | h
  · exact h.2.2
  · omega
theorem up_eq {s : Sp} {q : Px} {i j : Int} (h : rightP s q = true) (h1 : q.a0 ≤ i) (h2 : q.a1 ≤ j) : upP s q i j = orN s ⟨i, j, cutD s.d0 i q.k0, cutD s.d1 j q.k1⟩ := by
  unfold upP; rw [h, decide_eq_true ⟨h1, h2⟩]; rfl
theorem over_iffP {s : Sp} {p q : Px} (hp : POk p) (hq : POk q) : overP s p q = true ↔ soundS s = true ∧ RD s.d0 p.a0 p.k0 q.a0 q.k0 ∧ R1 s p.a1 p.k1 q.a1 q.k1 := by
  unfold overP
  rw [Bool.and_eq_true, Bool.and_eq_true, rightP_iff hp, rightP_iff hq, decide_eq_true_iff]
  refine ⟨fun ⟨⟨⟨h1, h2, h3⟩, ⟨_, h4, h5⟩⟩, h6, h7, h8⟩ => ?_, fun ⟨h1, h2, h3⟩ => ?_⟩
  · have hr : rightP s p = true := (rightP_iff hp).2 ⟨h1, h2, h3⟩
    rw [up_eq ((rightP_iff hq).2 ⟨h1, h4, h5⟩) h6 h7] at h8
    unfold orN at h8
    cases hr2 : rightP s ⟨p.a0, p.a1, cutD s.d0 p.a0 q.k0, cutD s.d1 p.a1 q.k1⟩
    · rw [hr2, cond_false] at h8
      rw [h8, zero_notright] at hr; cases hr
    · rw [hr2, cond_true] at h8
      have e0 : p.k0 = cutD s.d0 p.a0 q.k0 := congrArg Px.k0 h8
      have e1 : p.k1 = cutD s.d1 p.a1 q.k1 := congrArg Px.k1 h8
      refine ⟨h1, ⟨h2.1, h4.1, h6, e0⟩, ?_⟩
      unfold R1 at h3 h5 ⊢
      by_cases hn : s.n = 1
      · rw [if_pos hn] at h3 h5 ⊢
        exact ⟨h3.1, h3.2.1, h5.1, h5.2.1⟩
      · rw [if_neg hn] at h3 h5 ⊢
        exact ⟨h3.1, h5.1, h7, e1⟩
  · have g1 := (dirD s.d0).l hp.n0 h2
    have g2 := (dirD s.d0).r hq.n0 h2
    have g3 := (dir1 s).l hp.n1 h3
    have g4 := (dir1 s).r hq.n1 h3
    have k1 := (dirD s.d0).le h2
    have k2 := (dir1 s).le h3
    refine ⟨⟨⟨h1, g1, g3⟩, ⟨h1, g2, g4⟩⟩, k1, k2, ?_⟩
    rw [up_eq ((rightP_iff hq).2 ⟨h1, g2, g4⟩) k1 k2]
    have e1 : p.k1 = cutD s.d1 p.a1 q.k1 := by
      unfold R1 at h3
      by_cases hn : s.n = 1
      · rw [if_pos hn] at h3
        rw [sound_one h1 hn, h3.2.1]
        unfold cutD; rw [if_pos (.inl (by rw [lenD_zero]; decide))]
      · rw [if_neg hn] at h3
        exact h3.2.2.2
    have e : (⟨p.a0, p.a1, cutD s.d0 p.a0 q.k0, cutD s.d1 p.a1 q.k1⟩ : Px) = p := px_ext rfl rfl h2.2.2.2.symm e1.symm
    rw [e]
    unfold orN
    rw [(rightP_iff hp).2 ⟨h1, g1, g3⟩, cond_true]
theorem topP_ok (s : Sp) : POk (topP s) := by
  have hz : ∀ kind, (rootK kind).n = 0 ∧ (rootK kind).path = [] := fun kind => by unfold rootK; split <;> exact ⟨rfl, rfl⟩
  unfold topP
  cases soundS s
  · exact ⟨Nat.two_pow_pos 128, Nat.two_pow_pos 128, Nat.zero_le _, Nat.zero_le _⟩
  · refine ⟨?_, ?_, ?_, ?_⟩
    · show (rootK _).n < _; rw [(hz _).1]; exact Nat.two_pow_pos 128
    · show (rootK _).n < _; rw [(hz _).1]; exact Nat.two_pow_pos 128
    · show (rootK _).path.length ≤ _; rw [(hz _).2]; exact Nat.zero_le _
    · show (rootK _).path.length ≤ _; rw [(hz _).2]; exact Nat.zero_le _
theorem over_topP {s : Sp} {p : Px} (hp : POk p) : overP s (topP s) p = rightP s p := by
  rw [Bool.eq_iff_iff, over_iffP (topP_ok s) hp, rightP_iff hp]
  refine ⟨fun ⟨h1, h2, h3⟩ => ⟨h1, (dirD _).r hp.n0 h2, (dir1 s).r hp.n1 h3⟩, fun ⟨h1, h2, h3⟩ => ⟨h1, ?_, ?_⟩⟩
  · unfold topP; rw [h1, cond_true]; exact RD.top hp.n0 h2.1
  · unfold topP; rw [h1, cond_true]
    unfold R1 at h3 ⊢
    by_cases hn : s.n = 1
    · rw [if_pos hn] at h3 ⊢
      rw [sound_one h1 hn]
      exact ⟨show depthD zeroD = 0 by decide, show rootK zeroD.kind = zeroK by decide, h3.1, h3.2.1⟩
    · rw [if_neg hn] at h3 ⊢
      exact RD.top hp.n1 h3.1
theorem over_reflP {s : Sp} {p : Px} (hp : POk p) : overP s p p = rightP s p := by
  rw [Bool.eq_iff_iff, over_iffP hp hp, rightP_iff hp]
theorem over_antiP {s : Sp} {p q : Px} (hp : POk p) (hq : POk q) (h1 : overP s p q = true) (h2 : overP s q p = true) : p = q := by
  obtain ⟨_, a1, a2⟩ := (over_iffP hp hq).1 h1
  obtain ⟨_, b1, b2⟩ := (over_iffP hq hp).1 h2
  have e0 : p.a0 = q.a0 := Int.le_antisymm ((dirD _).le b1) ((dirD _).le a1)
  have e1 : p.a1 = q.a1 := Int.le_antisymm ((dir1 s).le b2) ((dir1 s).le a2)
  rw [e0] at a1
  rw [e1] at a2
  exact px_ext e0 e1 ((dirD _).same hq.n0 a1) ((dir1 s).same hq.n1 a2)
theorem over_transP {s : Sp} {p q x : Px} (hp : POk p) (hq : POk q) (hx : POk x) (h1 : overP s p q = true) (h2 : overP s q x = true) : overP s p x = true := by
  obtain ⟨s1, a1, a2⟩ := (over_iffP hp hq).1 h1
  obtain ⟨_, b1, b2⟩ := (over_iffP hq hx).1 h2
  exact (over_iffP hp hx).2 ⟨s1, (dirD _).trans hx.n0 a1 b1, (dir1 s).trans hx.n1 a2 b2⟩
end Go.Proofs.YtgaohmfmomeflaaGreatDoor
end

section
/- key: the statements on where keys meet and how they are ordered. -/
namespace Go.Proofs.YtgaohmfmomeflaaGreatDoor
open Go.Ve

/-! ### the document's order -/
theorem less_cb : ∀ (a b : Bs), Op.bytesLess a b = true ↔ Lib.compareBytes a b = -1
  | [], [] => by decide
  | [], _ :: _ => by simp [Op.bytesLess, Lib.compareBytes]
  | _ :: _, [] => by simp [Op.bytesLess, Lib.compareBytes]
  | c :: a, d :: b => by
    rw [Op.bytesLess, Lib.compareBytes, Bool.or_eq_true, Bool.and_eq_true, less_cb a b, decide_eq_true_iff, beq_iff_eq]
    by_cases h1 : c < d
    · simp [h1]
    · by_cases h2 : d < c
      · rw [if_neg h1, if_pos h2]
        refine ⟨fun h => ?_, fun h => by omega⟩
        rcases h with h | ⟨h, _⟩
        · exact absurd h h1
        · subst h; exact absurd h2 h1
      · rw [if_neg h1, if_neg h2]
        have e : c = d := UInt8.le_antisymm (UInt8.not_lt.1 h2) (UInt8.not_lt.1 h1)
        exact ⟨fun h => (h.resolve_left h1).2, fun h => .inr ⟨e, h⟩⟩
theorem cb_range : ∀ (a b : Bs), Lib.compareBytes a b = -1 ∨ (Lib.compareBytes a b = 0 ∧ a = b) ∨ Lib.compareBytes a b = 1
  | [], [] => .inr (.inl ⟨rfl, rfl⟩)
  | [], _ :: _ => .inl rfl
  | _ :: _, [] => .inr (.inr rfl)
  | c :: a, d :: b => by
    rw [Lib.compareBytes]
    by_cases h1 : c < d
    · rw [if_pos h1]; exact .inl rfl
    · by_cases h2 : d < c
      · rw [if_neg h1, if_pos h2]; exact .inr (.inr rfl)
      · rw [if_neg h1, if_neg h2]
        have e : c = d := UInt8.le_antisymm (UInt8.not_lt.1 h2) (UInt8.not_lt.1 h1)
        rcases cb_range a b with h | ⟨h, h'⟩ | h
        · exact .inl h
        · exact .inr (.inl ⟨h, by rw [e, h']⟩)
        · exact .inr (.inr h)
theorem cmpI_range (a b : Int) : (cmpI a b = -1 ∧ a < b) ∨ (cmpI a b = 0 ∧ a = b) ∨ (cmpI a b = 1 ∧ b < a) := by
  unfold cmpI
  by_cases h1 : a < b
  · rw [if_pos h1]; exact .inl ⟨rfl, h1⟩
  · by_cases h2 : b < a
    · rw [if_neg h1, if_pos h2]; exact .inr (.inr ⟨rfl, h2⟩)
    · rw [if_neg h1, if_neg h2]; exact .inr (.inl ⟨rfl, by omega⟩)
/-- The order, in the words of the document's answer. -/
theorem cmpK_cases (a b : Ky) : cmpK a b = if a = b then 0 else
    if a.kind < b.kind ∨ (a.kind = b.kind ∧ (((a.n / H64 : Nat) : Int) < ((b.n / H64 : Nat) : Int) ∨ (((a.n / H64 : Nat) : Int) = ((b.n / H64 : Nat) : Int) ∧ (((a.n % H64 : Nat) : Int) < ((b.n % H64 : Nat) : Int) ∨ (((a.n % H64 : Nat) : Int) = ((b.n % H64 : Nat) : Int) ∧ (Op.bytesLess a.path b.path = true ∨ (a.path = b.path ∧ a.len < b.len))))))) then -1 else 1 := by
  by_cases he : a = b
  · rw [if_pos he, he, cmpK_self]
  · rw [if_neg he]
    have hn := wcmp_cases a.n b.n
    have h1 := @half_lt a.n b.n
    have h2 := @half_lt b.n a.n
    have hs := less_cb a.path b.path
    have hne : ¬ (a.kind = b.kind ∧ a.n = b.n ∧ a.path = b.path ∧ a.len = b.len) := fun ⟨e1, e2, e3, e4⟩ => he (ky_ext e1 e4 e2 e3)
    unfold cmpK
    rcases cmpI_range a.kind b.kind with ⟨k1, k2⟩ | ⟨k1, k2⟩ | ⟨k1, k2⟩
    · rw [k1, orI, if_neg (by decide), if_pos (.inl k2)]
    · rw [k1, orI, if_pos rfl]
      rcases hn with ⟨n1, n2⟩ | ⟨n1, n2⟩ | ⟨n1, n2⟩
      · rw [n2, orI, if_neg (by decide), if_pos]
        rcases h1.1 n1 with h | ⟨h, h'⟩
        · exact .inr ⟨k2, .inl (by omega)⟩
        · exact .inr ⟨k2, .inr ⟨by omega, .inl (by omega)⟩⟩
      · rw [n2, orI, if_pos rfl]
        rcases cb_range a.path b.path with p1 | ⟨p1, p2⟩ | p1
        · rw [p1, orI, if_neg (by decide), if_pos]
          exact .inr ⟨k2, .inr ⟨by rw [n1], .inr ⟨by rw [n1], .inl (hs.2 p1)⟩⟩⟩
        · rw [p1, orI, if_pos rfl]
          rcases cmpI_range a.len b.len with ⟨l1, l2⟩ | ⟨l1, l2⟩ | ⟨l1, l2⟩
          · rw [l1, orI, if_neg (by decide), if_pos]
            exact .inr ⟨k2, .inr ⟨by rw [n1], .inr ⟨by rw [n1], .inr ⟨p2, l2⟩⟩⟩⟩
          · exact absurd ⟨k2, n1, p2, l2⟩ hne
          · rw [l1, orI, if_neg (by decide), if_neg]
            rintro (h | ⟨_, h | ⟨_, h | ⟨_, h | ⟨_, h⟩⟩⟩⟩)
            · omega
            · rw [n1] at h; omega
            · rw [n1] at h; omega
            · rw [hs, p1] at h; omega
            · omega
        · rw [p1, orI, if_neg (by decide), if_neg]
          rintro (h | ⟨_, h | ⟨_, h | ⟨_, h | ⟨h, _⟩⟩⟩⟩)
          · omega
          · rw [n1] at h; omega
          · rw [n1] at h; omega
          · rw [hs, p1] at h; omega
          · rw [h, cb_self] at p1; omega
      · rw [n2, orI, if_neg (by decide), if_neg]
        have h3 := h2.1 n1
        rintro (h | ⟨_, h | ⟨h, h' | ⟨h', _⟩⟩⟩) <;> omega
    · rw [k1, orI, if_neg (by decide), if_neg]
      rintro (h | ⟨h, _⟩) <;> omega
end Go.Proofs.YtgaohmfmomeflaaGreatDoor
end

section
/- prefix, plain laws: the one on a node, the crossing, the order. -/
namespace Go.Proofs.YtgaohmfmomeflaaGreatDoor
open Go.Ve

theorem over_up {s : Sp} {p q : Px} : overP s q p = (rightP s q && rightP s p && decide (upP s p q.a0 q.a1 = q)) := by
  unfold overP
  cases hq : rightP s q
  · rfl
  · cases hp : rightP s p
    · rfl
    · rw [Bool.and_self, Bool.true_and, Bool.true_and, Bool.eq_iff_iff, decide_eq_true_iff, decide_eq_true_iff]
      refine ⟨fun h => h.2.2.symm, fun h => ?_⟩
      by_cases hc : p.a0 ≤ q.a0 ∧ p.a1 ≤ q.a1
      · exact ⟨hc.1, hc.2, h.symm⟩
      · have : upP s p q.a0 q.a1 = zeroP := by unfold upP; rw [decide_eq_false hc, Bool.and_false, cond_false]
        rw [this] at h
        rw [← h, zero_notright] at hq; cases hq
theorem right_top {s : Sp} {p : Px} (h : rightP s p = true) : p.a0 ≤ (topP s).a0 ∧ p.a1 ≤ (topP s).a1 := by
  unfold rightP at h
  rw [Bool.and_eq_true, Bool.and_eq_true] at h
  obtain ⟨⟨h1, h2⟩, h3⟩ := h
  unfold topP
  rw [h1, cond_true]
  refine ⟨(len_ok_iff.1 (onD_iff.1 h2).2.1).2.2, ?_⟩
  by_cases hn : s.n = 1
  · rw [decide_eq_true hn, cond_true] at h3
    rw [sound_one h1 hn, (of_decide_eq_true h3).1]
    show (0 : Int) ≤ depthD zeroD
    decide
  · rw [decide_eq_false hn, cond_false] at h3
    exact (len_ok_iff.1 (onD_iff.1 h3).2.1).2.2
theorem up_some {s : Sp} {p : Px} {i j : Int} (hp : POk p) (h : rightP s p = true ∧ p.a0 ≤ i ∧ p.a1 ≤ j ∧ i ≤ (topP s).a0 ∧ j ≤ (topP s).a1) :
    (upP s p i j).a0 = i ∧ (upP s p i j).a1 = j ∧ overP s (upP s p i j) p = true := by
  obtain ⟨hr, h1, h2, h3, h4⟩ := h
  obtain ⟨g1, g2, g3⟩ := (rightP_iff hp).1 hr
  have hb := right_bounds hr
  have hc := hp.cut s.d0 s.d1 i j
  have hO : overP s ⟨i, j, cutD s.d0 i p.k0, cutD s.d1 j p.k1⟩ p = true := by
    unfold topP at h3 h4
    rw [g1, cond_true] at h3 h4
    have h3 : i ≤ depthD s.d0 := h3
    have h4 : j ≤ depthD s.d1 := h4
    refine (over_iffP hc hp).2 ⟨g1, RD.of_cut g2.1 ?_ h1, ?_⟩
    · exact len_ok_iff.2 ⟨(len_ok_iff.1 (onD_iff.1 g2.1).2.1).1, (show (0 : Int) ≤ i by omega), h3⟩
    · unfold R1 at g3 ⊢
      by_cases hn : s.n = 1
      · rw [if_pos hn] at g3 ⊢
        have hz := sound_one g1 hn
        rw [hz] at h4
        have hd : depthD zeroD = 0 := by decide
        rw [hd] at h4
        refine ⟨by show j = 0; omega, ?_, g3.1, g3.2.1⟩
        show cutD s.d1 j p.k1 = zeroK
        rw [hz]; unfold cutD; rw [if_pos (.inl (by rw [lenD_zero]; decide))]
      · rw [if_neg hn] at g3 ⊢
        exact RD.of_cut g3.1 (len_ok_iff.2 ⟨(len_ok_iff.1 (onD_iff.1 g3.1).2.1).1, (show (0 : Int) ≤ j by omega), h4⟩) h2
  have hR : rightP s ⟨i, j, cutD s.d0 i p.k0, cutD s.d1 j p.k1⟩ = true := by
    have := hO; unfold overP at this; rw [Bool.and_eq_true, Bool.and_eq_true] at this; exact this.1.1
  have e : upP s p i j = ⟨i, j, cutD s.d0 i p.k0, cutD s.d1 j p.k1⟩ := by rw [up_eq hr h1 h2, orN, hR, cond_true]
  rw [e]; exact ⟨rfl, rfl, hO⟩

/-! ### the crossing -/
section
variable {R : Int → Ky → Int → Ky → Prop} {a b c : Int} {k x y : Ky}
end
end Go.Proofs.YtgaohmfmomeflaaGreatDoor
end

section
/- key, the document's answer: Cut. -/
namespace Go.Proofs.YtgaohmfmomeflaaGreatDoor
open Go.Ve

end Go.Proofs.YtgaohmfmomeflaaGreatDoor
end

section
/- key: the keys over a key, gone through. -/
namespace Go.Proofs.YtgaohmfmomeflaaGreatDoor
open Go.Ve

def kcl (l : List Ky) : List (List AV) := l.map kcs
theorem kcl_get (l : List Ky) (i : Nat) : (kcl l)[i]? = (l[i]?).map kcs := by simp [kcl]
end Go.Proofs.YtgaohmfmomeflaaGreatDoor
end

section
/- grid: those over a prefix, and its parents (plain). -/
namespace Go.Proofs.YtgaohmfmomeflaaGreatDoor
open Go.Ve

def pcl (l : List Px) : List (List AV) := l.map pcs
def pvl (l : List Px) : AV := match l with
  | [] => .nils
  | x :: r => .sl (pcl (x :: r))
theorem pcl_snoc (l : List Px) (x : Px) : pcl l ++ [pcs x] = pcl (l ++ [x]) := by simp [pcl]
theorem pcl_len (l : List Px) : (pcl l).length = l.length := by simp [pcl]
theorem pcl_get (l : List Px) (i : Nat) : (pcl l)[i]? = (l[i]?).map pcs := by simp [pcl]
theorem pvl_sl {l : List Px} (h : l ≠ []) : pvl l = .sl (pcl l) := by cases l with
  | nil => exact absurd rfl h
  | cons x r => rfl
/-- A row that is filled from its beginning on. -/
def fillR (n i : Nat) (f : Nat → List AV) (z : List AV) : List (List AV) := (List.range n).map fun j => if j < i then f j else z
theorem fillR_zero (n : Nat) (f : Nat → List AV) (z : List AV) : fillR n 0 f z = List.replicate n z := by
  unfold fillR
  simp only [Nat.not_lt_zero, if_false]
  rw [List.map_const', List.length_range]
theorem fillR_len (n i : Nat) (f : Nat → List AV) (z : List AV) : (fillR n i f z).length = n := by simp [fillR]
theorem fillR_get {n i : Nat} {f : Nat → List AV} {z : List AV} (h : i < n) : (fillR n i f z)[i]? = some z := by simp [fillR, h]
theorem fillR_set {n i : Nat} {f : Nat → List AV} {z : List AV} : (fillR n i f z).set i (f i) = fillR n (i + 1) f z := by
  apply List.ext_getElem?
  intro j
  rw [List.getElem?_set]
  by_cases hj : i = j
  · subst hj
    rw [fillR_len, if_pos rfl]
    by_cases hi : i < n
    · rw [if_pos hi]
      simp [fillR, List.getElem?_range hi]
    · rw [if_neg hi, List.getElem?_eq_none (by rw [fillR_len]; omega)]
  · rw [if_neg hj]
    by_cases hn : j < n
    · simp only [fillR, List.getElem?_map, List.getElem?_range hn, Option.map_some]
      congr 1
      by_cases h1 : j < i
      · rw [if_pos h1, if_pos (by omega)]
      · rw [if_neg h1, if_neg (by omega)]
    · rw [List.getElem?_eq_none (by rw [fillR_len]; omega), List.getElem?_eq_none (by rw [fillR_len]; omega)]
theorem fillR_all (n : Nat) (f : Nat → List AV) (z : List AV) : fillR n n f z = (List.range n).map f := by
  unfold fillR
  apply List.map_congr_left
  intro j hj
  rw [if_pos (List.mem_range.1 hj)]

/-- A key on each level. -/
def kov (d : Dm) (k : Ky) : List Ky := (List.range ((depthD d).toNat + 1)).map fun i => cutD d (i : Nat) k
theorem kov_get {d : Dm} {k : Ky} {i : Nat} (h : (i : Int) ≤ depthD d) : (kcl (kov d k))[i]? = some (kcs (cutD d (i : Nat) k)) := by
  have := @depthD_le d
  rw [kcl_get, kov, List.getElem?_map, List.getElem?_range (by omega)]
  rfl
theorem kov_fill (d : Dm) (k : Ky) : kcl (kov d k) = (List.range ((depthD d).toNat + 1)).map fun i => kcs (cutD d (i : Nat) k) := by
  rw [kov, kcl, List.map_map]; rfl

def upAt (s : Sp) (p : Px) (q : Nat × Nat) : Px := ⟨q.1, q.2, cutD s.d0 q.1 p.k0, cutD s.d1 q.2 p.k1⟩
def overN (p : Px) (q : Nat × Nat) : Bool := decide (p.a0 ≤ q.1 ∧ p.a1 ≤ q.2)
def accA (s : Sp) (p : Px) (l : List (Nat × Nat)) : List Px := (l.filter (overN p)).map (upAt s p)
def allP (s : Sp) (p : Px) : List Px := bif rightP s p then accA s p (nds s) else []
theorem accA_snoc_yes {s : Sp} {p : Px} {l : List (Nat × Nat)} {q : Nat × Nat} (h : overN p q = true) : accA s p (l ++ [q]) = accA s p l ++ [upAt s p q] := by
  simp [accA, List.filter_append, h]
theorem accA_snoc_no {s : Sp} {p : Px} {l : List (Nat × Nat)} {q : Nat × Nat} (h : overN p q = false) : accA s p (l ++ [q]) = accA s p l := by
  simp [accA, List.filter_append, h]
theorem accA_len (s : Sp) (p : Px) (l : List (Nat × Nat)) : (accA s p l).length ≤ l.length := by
  unfold accA; rw [List.length_map]; exact List.length_filter_le _ _
theorem upAt_ok {s : Sp} {p : Px} (hp : POk p) (q : Nat × Nat) : POk (upAt s p q) := hp.cut _ _ _ _
theorem right_sound {s : Sp} {p : Px} (h : rightP s p = true) : soundS s = true := by
  unfold rightP at h
  rw [Bool.and_eq_true, Bool.and_eq_true] at h
  exact h.1.1
/-- On a node that is not below its own, the one over it. -/
theorem upAt_yes {s : Sp} {p : Px} (hp : POk p) (hr : rightP s p = true) {q : Nat × Nat} (hq : q ∈ nds s) (h : overN p q = true) :
    upP s p q.1 q.2 = upAt s p q ∧ overP s (upAt s p q) p = true := by
  have hs := right_sound hr
  rw [nds_yes hs] at hq
  obtain ⟨k, hk⟩ := List.getElem?_of_mem hq
  obtain ⟨h1, h2, _⟩ := node_get hk
  have h := of_decide_eq_true h
  obtain ⟨t0, t1⟩ := top_g s
  have hu := up_some hp (i := q.1) (j := q.2) ⟨hr, h.1, h.2, by rw [t0]; omega, by rw [t1]; omega⟩
  have e : upP s p q.1 q.2 = upAt s p q := by
    have h3 := up_eq hr h.1 h.2
    rw [h3] at hu ⊢
    unfold orN at hu ⊢
    cases hb : rightP s ⟨(q.1 : Int), (q.2 : Int), cutD s.d0 q.1 p.k0, cutD s.d1 q.2 p.k1⟩
    · rw [hb, cond_false] at hu
      have := hu.2.2
      rw [over_up, zero_notright] at this; cases this
    · rw [cond_true]; rfl
  exact ⟨e, e ▸ hu.2.2⟩
theorem over_right {s : Sp} {p q : Px} (h : overP s q p = true) : rightP s q = true ∧ rightP s p = true := by
  rw [over_up, Bool.and_eq_true, Bool.and_eq_true] at h
  exact h.1
theorem allP_mem {s : Sp} {p x : Px} (hp : POk p) : x ∈ allP s p ↔ overP s x p = true := by
  constructor
  · intro h
    unfold allP at h
    cases hr : rightP s p
    · rw [hr, cond_false] at h; cases h
    · rw [hr, cond_true, accA, List.mem_map] at h
      obtain ⟨q, hq, rfl⟩ := h
      obtain ⟨h1, h2⟩ := List.mem_filter.1 hq
      exact (upAt_yes hp hr h1 h2).2
  · intro h
    obtain ⟨hx, hr⟩ := over_right h
    have hs := right_sound hr
    obtain ⟨t0, t1⟩ := top_g s
    have htx := right_top hx
    have hbx := right_bounds hx
    have h0 := h
    rw [over_up, Bool.and_eq_true, Bool.and_eq_true] at h
    have hu := of_decide_eq_true h.2
    have hle : p.a0 ≤ x.a0 ∧ p.a1 ≤ x.a1 := by
      unfold overP at h0
      rw [Bool.and_eq_true] at h0
      have := of_decide_eq_true h0.2
      exact ⟨this.1, this.2.1⟩
    have hmem : ((x.a0.toNat, x.a1.toNat) : Nat × Nat) ∈ nds s := by
      rw [nds_yes hs]
      exact List.mem_of_getElem? (place_get (by show x.a0.toNat ≤ _; omega) (by show x.a1.toNat ≤ _; omega))
    have hov : overN p (x.a0.toNat, x.a1.toNat) = true := decide_eq_true (by show p.a0 ≤ (x.a0.toNat : Int) ∧ p.a1 ≤ (x.a1.toNat : Int); omega)
    have e := (upAt_yes hp hr hmem hov).1
    have e2 : upAt s p (x.a0.toNat, x.a1.toNat) = x := by
      rw [← e]
      show upP s p (x.a0.toNat : Int) (x.a1.toNat : Int) = x
      rw [show (x.a0.toNat : Int) = x.a0 by omega, show (x.a1.toNat : Int) = x.a1 by omega]
      exact hu
    unfold allP
    rw [hr, cond_true, accA, List.mem_map]
    exact ⟨_, List.mem_filter.2 ⟨hmem, hov⟩, e2⟩
theorem allP_len (s : Sp) (p : Px) : (allP s p).length ≤ 33153 := by
  unfold allP
  cases rightP s p
  · exact Nat.zero_le _
  · rw [cond_true]; exact Nat.le_trans (accA_len _ _ _) (nds_len s)
theorem allP_ok {s : Sp} {p : Px} (hp : POk p) : ∀ x ∈ allP s p, POk x := by
  intro x hx
  unfold allP at hx
  cases hr : rightP s p
  · rw [hr, cond_false] at hx; cases hx
  · rw [hr, cond_true, accA, List.mem_map] at hx
    obtain ⟨q, _, rfl⟩ := hx
    exact upAt_ok hp q
end Go.Proofs.YtgaohmfmomeflaaGreatDoor
end

section
/- prefix, plain laws: the order is one. -/
namespace Go.Proofs.YtgaohmfmomeflaaGreatDoor
open Go.Ve

structure TO {α : Type} (c : α → α → Int) : Prop where
  neg : ∀ a b, c a b = -c b a
  rng : ∀ a b, -1 ≤ c a b ∧ c a b ≤ 1
  tr : ∀ a b d, c a b ≤ 0 → c b d ≤ 0 → c a d ≤ 0
section
variable {α β : Type} {c c1 c2 : α → α → Int}
theorem TO.strict (h : TO c) {a b d : α} (h1 : c a b < 0) (h2 : c b d ≤ 0) : c a d < 0 := by
  rcases Int.lt_or_le (c a d) 0 with h3 | h3
  · exact h3
  · have e1 := h.neg a d
    have e2 := h.tr b d a h2 (by omega)
    have e3 := h.neg a b
    omega
theorem TO.strict' (h : TO c) {a b d : α} (h1 : c a b ≤ 0) (h2 : c b d < 0) : c a d < 0 := by
  rcases Int.lt_or_le (c a d) 0 with h3 | h3
  · exact h3
  · have e1 := h.neg a d
    have e2 := h.tr d a b (by omega) h1
    have e3 := h.neg b d
    omega
theorem TO.zero (h : TO c) {a b d : α} (h1 : c a b = 0) (h2 : c b d = 0) : c a d = 0 := by
  have e1 := h.tr a b d (by omega) (by omega)
  have e2 := h.neg a b
  have e3 := h.neg b d
  have e4 := h.tr d b a (by omega) (by omega)
  have e5 := h.neg a d
  omega
theorem TO.lx (h1 : TO c1) (h2 : TO c2) : TO (fun a b => if c1 a b = 0 then c2 a b else c1 a b) := by
  refine ⟨fun a b => ?_, fun a b => ?_, fun a b d k1 k2 => ?_⟩
  · have e1 := h1.neg a b
    have e2 := h2.neg a b
    show (if c1 a b = 0 then c2 a b else c1 a b) = -(if c1 b a = 0 then c2 b a else c1 b a)
    split <;> split <;> omega
  · have e1 := h1.rng a b
    have e2 := h2.rng a b
    show -1 ≤ (if c1 a b = 0 then c2 a b else c1 a b) ∧ (if c1 a b = 0 then c2 a b else c1 a b) ≤ 1
    split <;> omega
  · have k1 : (if c1 a b = 0 then c2 a b else c1 a b) ≤ 0 := k1
    have k2 : (if c1 b d = 0 then c2 b d else c1 b d) ≤ 0 := k2
    show (if c1 a d = 0 then c2 a d else c1 a d) ≤ 0
    by_cases g1 : c1 a b = 0
    · rw [if_pos g1] at k1
      by_cases g2 : c1 b d = 0
      · rw [if_pos g2] at k2
        rw [if_pos (h1.zero g1 g2)]
        exact h2.tr a b d k1 k2
      · rw [if_neg g2] at k2
        have := h1.strict' (a := a) (b := b) (d := d) (by omega) (by omega)
        rw [if_neg (by omega)]; omega
    · rw [if_neg g1] at k1
      have hb : c1 b d ≤ 0 := by
        by_cases g2 : c1 b d = 0
        · omega
        · rw [if_neg g2] at k2; exact k2
      have := h1.strict (a := a) (b := b) (d := d) (by omega) hb
      rw [if_neg (by omega)]; omega
theorem TO.comap (h : TO c) (f : β → α) : TO (fun a b => c (f a) (f b)) := ⟨fun _ _ => h.neg _ _, fun _ _ => h.rng _ _, fun _ _ _ => h.tr _ _ _⟩
end
theorem to_cmpI : TO cmpI := by
  refine ⟨fun a b => ?_, fun a b => ?_, fun a b d h1 h2 => ?_⟩
  · unfold cmpI; split <;> split <;> (try split) <;> (try split) <;> omega
  · unfold cmpI; split <;> (try split) <;> omega
  · rw [cmpI_le] at *; omega
theorem to_wcmp : TO wcmp := by
  refine ⟨fun a b => ?_, fun a b => ?_, fun a b d h1 h2 => ?_⟩
  · rcases wcmp_cases a b with ⟨h, e⟩ | ⟨h, e⟩ | ⟨h, e⟩ <;> rcases wcmp_cases b a with ⟨h', e'⟩ | ⟨h', e'⟩ | ⟨h', e'⟩ <;> rw [e, e'] <;> omega
  · rcases wcmp_cases a b with ⟨h, e⟩ | ⟨h, e⟩ | ⟨h, e⟩ <;> rw [e] <;> omega
  · rcases wcmp_cases a b with ⟨h, e⟩ | ⟨h, e⟩ | ⟨h, e⟩ <;> rcases wcmp_cases b d with ⟨h', e'⟩ | ⟨h', e'⟩ | ⟨h', e'⟩ <;> rcases wcmp_cases a d with ⟨h2', e2⟩ | ⟨h2', e2⟩ | ⟨h2', e2⟩ <;> rw [e] at h1 <;> rw [e'] at h2 <;> rw [e2] <;> omega
theorem cb_neg : ∀ (a b : Bs), Lib.compareBytes a b = -Lib.compareBytes b a
  | [], [] => rfl
  | [], _ :: _ => rfl
  | _ :: _, [] => rfl
  | x :: a, y :: b => by
    have ih := cb_neg a b
    rw [Lib.compareBytes, Lib.compareBytes]
    by_cases h1 : x < y
    · rw [if_pos h1, if_neg (UInt8.lt_asymm h1), if_pos h1]
    · by_cases h2 : y < x
      · rw [if_neg h1, if_pos h2, if_pos h2]; rfl
      · rw [if_neg h1, if_neg h2, if_neg h2, if_neg h1, ih]
theorem cb_tr : ∀ (a b d : Bs), Lib.compareBytes a b ≤ 0 → Lib.compareBytes b d ≤ 0 → Lib.compareBytes a d ≤ 0
  | [], _, [], _, _ => by decide
  | [], _, _ :: _, _, _ => by rw [Lib.compareBytes]; decide
  | _ :: _, [], _, h, _ => by rw [Lib.compareBytes] at h; omega
  | _ :: _, _ :: _, [], _, h => by rw [Lib.compareBytes] at h; omega
  | x :: a, y :: b, z :: d, h1, h2 => by
    have ih := cb_tr a b d
    rw [Lib.compareBytes] at h1 h2 ⊢
    have hx : ∀ {u v : UInt8}, u < v ↔ u.toNat < v.toNat := fun {u v} => Iff.rfl
    simp only [hx] at h1 h2 ⊢
    by_cases g1 : x.toNat < y.toNat
    · by_cases g2 : y.toNat < z.toNat
      · rw [if_pos (by omega)]; decide
      · by_cases g3 : z.toNat < y.toNat
        · rw [if_neg g2, if_pos g3] at h2; omega
        · rw [if_pos (by omega)]; decide
    · by_cases g1' : y.toNat < x.toNat
      · rw [if_neg g1, if_pos g1'] at h1; omega
      · rw [if_neg g1, if_neg g1'] at h1
        by_cases g2 : y.toNat < z.toNat
        · rw [if_pos (by omega)]; decide
        · by_cases g3 : z.toNat < y.toNat
          · rw [if_neg g2, if_pos g3] at h2; omega
          · rw [if_neg g2, if_neg g3] at h2
            rw [if_neg (by omega), if_neg (by omega)]
            exact ih h1 h2
theorem to_cb : TO Lib.compareBytes := ⟨cb_neg, fun a b => by rcases cb_range a b with h | ⟨h, _⟩ | h <;> omega, cb_tr⟩
theorem to_cmpK : TO cmpK := by
  have h := (to_cmpI.comap Ky.kind).lx ((to_wcmp.comap Ky.n).lx ((to_cb.comap Ky.path).lx (to_cmpI.comap Ky.len)))
  have e : cmpK = fun a b => if cmpI a.kind b.kind = 0 then (if wcmp a.n b.n = 0 then (if Lib.compareBytes a.path b.path = 0 then cmpI a.len b.len else Lib.compareBytes a.path b.path) else wcmp a.n b.n) else cmpI a.kind b.kind := by
    funext a b
    unfold cmpK
    rw [orI, orI, orI, orI]
    by_cases h : cmpI a.len b.len = 0
    · rw [if_pos h, h]; rfl
    · rw [if_neg h]
  rw [e]; exact h
theorem cmpK_zero {a b : Ky} (h : cmpK a b = 0) : a = b := by
  rw [cmpK_cases] at h
  by_cases e : a = b
  · exact e
  · rw [if_neg e] at h
    split at h <;> omega
def lexP (p q : Px) : Int := if (if cmpI p.a0 q.a0 = 0 then cmpI p.a1 q.a1 else cmpI p.a0 q.a0) = 0 then (if cmpK p.k0 q.k0 = 0 then cmpK p.k1 q.k1 else cmpK p.k0 q.k0) else (if cmpI p.a0 q.a0 = 0 then cmpI p.a1 q.a1 else cmpI p.a0 q.a0)
theorem to_lexP : TO lexP := ((to_cmpI.comap Px.a0).lx (to_cmpI.comap Px.a1)).lx ((to_cmpK.comap Px.k0).lx (to_cmpK.comap Px.k1))
theorem or2 (x y : Int) : orI [x, y] = if x = 0 then y else x := by
  rw [orI, orI]
  by_cases h : y = 0
  · rw [if_pos h, h]; rfl
  · rw [if_neg h]
theorem cmpP_lex (p q : Px) : cmpP p q = lexP p q := by
  unfold cmpP
  by_cases h : p = q
  · rw [if_pos h, h]
    unfold lexP
    rw [cmpI_eq.2 rfl, cmpI_eq.2 rfl, cmpK_self, cmpK_self]
    rfl
  · rw [if_neg h, orI, or2, or2]; rfl
theorem to_cmpP : TO cmpP := by
  have e : cmpP = lexP := by funext p q; exact cmpP_lex p q
  rw [e]; exact to_lexP
theorem cmpP_zero {p q : Px} : cmpP p q = 0 ↔ p = q := by
  refine ⟨fun h => ?_, fun h => by unfold cmpP; rw [if_pos h]⟩
  rw [cmpP_lex] at h
  unfold lexP at h
  by_cases h0 : cmpI p.a0 q.a0 = 0
  · rw [if_pos h0] at h
    by_cases h1 : cmpI p.a1 q.a1 = 0
    · rw [if_pos h1] at h
      by_cases h2 : cmpK p.k0 q.k0 = 0
      · rw [if_pos h2] at h
        exact px_ext (cmpI_eq.1 h0) (cmpI_eq.1 h1) (cmpK_zero h2) (cmpK_zero h)
      · rw [if_neg h2] at h; exact absurd h h2
    · rw [if_neg h1] at h; exact absurd h h1
  · rw [if_neg h0, if_neg h0] at h; exact absurd h h0
end Go.Proofs.YtgaohmfmomeflaaGreatDoor
end

section
/- model, plain laws: lists that stand in order; what is put, what it weighs. -/
namespace Go.Proofs.YtgaohmfmomeflaaGreatDoor
open Go.Ve

section
variable {α : Type} {c : α → α → Int}
/-- Strictly in order. -/
def Ord (c : α → α → Int) (l : List α) : Prop := l.Pairwise fun x y => c x y < 0
theorem TO.self (hc : TO c) (x : α) : c x x = 0 := by have := hc.neg x x; omega
theorem Ord.ext (hc : TO c) : ∀ {l l' : List α}, Ord c l → Ord c l' → (∀ x, x ∈ l ↔ x ∈ l') → l = l'
  | [], [], _, _, _ => rfl
  | [], y :: ys, _, _, h => absurd ((h y).2 List.mem_cons_self) List.not_mem_nil
  | x :: xs, [], _, _, h => absurd ((h x).1 List.mem_cons_self) List.not_mem_nil
  | x :: xs, y :: ys, h1, h2, h => by
    have a1 := List.pairwise_cons.1 h1
    have a2 := List.pairwise_cons.1 h2
    have e : x = y := by
      rcases List.mem_cons.1 ((h x).1 List.mem_cons_self) with e | m1
      · exact e
      · rcases List.mem_cons.1 ((h y).2 List.mem_cons_self) with e | m2
        · exact e.symm
        · have k1 := a2.1 x m1
          have k2 := a1.1 y m2
          have := hc.neg x y
          omega
    subst e
    have : xs = ys := Ord.ext hc a1.2 a2.2 fun z => by
      constructor
      · intro hz
        rcases List.mem_cons.1 ((h z).1 (List.mem_cons_of_mem _ hz)) with rfl | m
        · have := a1.1 z hz; rw [hc.self] at this; omega
        · exact m
      · intro hz
        rcases List.mem_cons.1 ((h z).2 (List.mem_cons_of_mem _ hz)) with rfl | m
        · have := a2.1 z hz; rw [hc.self] at this; omega
        · exact m
    rw [this]
theorem Ord.nodup (hc : TO c) {l : List α} (h : Ord c l) : l.Nodup := h.imp fun {x y} h e => by rw [e, hc.self] at h; omega
/-- A list put in order. -/
def srt (c : α → α → Int) (l : List α) : List α := l.mergeSort fun x y => decide (c x y ≤ 0)
theorem srt_perm (l : List α) : (srt c l).Perm l := List.mergeSort_perm _ _
theorem srt_mem {l : List α} {x : α} : x ∈ srt c l ↔ x ∈ l := (srt_perm l).mem_iff
theorem srt_len (l : List α) : (srt c l).length = l.length := (srt_perm l).length_eq
theorem srt_ord (hc : TO c) (h0 : ∀ x y, c x y = 0 → x = y) {l : List α} (hn : l.Nodup) : Ord c (srt c l) := by
  have h1 : (srt c l).Pairwise fun x y => decide (c x y ≤ 0) = true := by
    refine List.pairwise_mergeSort (fun a b d h1 h2 => ?_) (fun a b => ?_) l
    · exact decide_eq_true (hc.tr a b d (of_decide_eq_true h1) (of_decide_eq_true h2))
    · have := hc.neg a b
      rw [Bool.or_eq_true, decide_eq_true_iff, decide_eq_true_iff]
      omega
  have h2 : (srt c l).Nodup := (srt_perm l).nodup_iff.2 hn
  refine (List.Pairwise.and h1 h2).imp fun {x y} h => ?_
  have h3 := of_decide_eq_true h.1
  rcases Int.lt_or_eq_of_le h3 with h4 | h4
  · exact h4
  · exact absurd (h0 _ _ h4) h.2
end

/-! ### what is put -/
abbrev Ml := List (Px × Nat)
def keysM (l : Ml) : List Px := l.map Prod.fst
def look : Ml → Px → Nat
  | [], _ => 0
  | x :: r, p => if x.1 = p then x.2 else look r p
def addM : Ml → Px → Nat → Ml
  | [], p, w => [(p, w)]
  | x :: r, p, w => if x.1 = p then (x.1, x.2 + w) :: r else x :: addM r p w
/-- What those weigh of which something is so. -/
def sumF (f : Px → Bool) (l : Ml) : Nat := (l.map fun x => bif f x.1 then x.2 else 0).sum
abbrev totM (l : Ml) : Nat := sumF (fun _ => true) l
abbrev wgt (s : Sp) (l : Ml) (p : Px) : Nat := sumF (overP s p) l
theorem sumF_cons (f : Px → Bool) (x : Px × Nat) (l : Ml) : sumF f (x :: l) = (bif f x.1 then x.2 else 0) + sumF f l := by simp [sumF]
theorem sumF_nil (f : Px → Bool) : sumF f [] = 0 := rfl
theorem sumF_app (f : Px → Bool) (l r : Ml) : sumF f (l ++ r) = sumF f l + sumF f r := by simp [sumF]
theorem sumF_mono {f g : Px → Bool} : ∀ {l : Ml}, (∀ x ∈ l, f x.1 = true → g x.1 = true) → sumF f l ≤ sumF g l
  | [], _ => Nat.le_refl _
  | x :: l, h => by
    rw [sumF_cons, sumF_cons]
    have h1 := sumF_mono (l := l) fun y hy => h y (List.mem_cons_of_mem _ hy)
    have h2 := h x List.mem_cons_self
    cases hf : f x.1
    · rw [cond_false]; omega
    · rw [h2 hf, cond_true]; omega
theorem sumF_congr {f g : Px → Bool} {l : Ml} (h : ∀ x ∈ l, f x.1 = g x.1) : sumF f l = sumF g l := by
  unfold sumF
  rw [List.map_congr_left fun x hx => by rw [h x hx]]
theorem sumF_le (f : Px → Bool) (l : Ml) : sumF f l ≤ totM l := sumF_mono fun _ _ _ => rfl
theorem sumF_addM (f : Px → Bool) (p : Px) (w : Nat) : ∀ l : Ml, sumF f (addM l p w) = sumF f l + (bif f p then w else 0)
  | [] => by simp [addM, sumF]
  | x :: l => by
    unfold addM
    split
    · rename_i h
      rw [sumF_cons, sumF_cons]
      show (bif f x.1 then x.2 + w else 0) + _ = _
      rw [h]
      cases f p <;> simp <;> omega
    · rw [sumF_cons, sumF_cons, sumF_addM f p w l]; omega
theorem look_none : ∀ {l : Ml} {p : Px}, p ∉ keysM l → look l p = 0
  | [], _, _ => rfl
  | x :: l, p, h => by
    rw [keysM, List.map_cons, List.mem_cons, not_or] at h
    rw [look, if_neg (fun e => h.1 e.symm)]
    exact look_none h.2
theorem look_mem {l : Ml} (hn : (keysM l).Nodup) {x : Px × Nat} (h : x ∈ l) : look l x.1 = x.2 := by
  induction l with
  | nil => cases h
  | cons y l ih =>
    have hn' := List.nodup_cons.1 (show (y.1 :: keysM l).Nodup from hn)
    rw [look]
    rcases List.mem_cons.1 h with rfl | h
    · rw [if_pos rfl]
    · rw [if_neg fun e : y.1 = x.1 => hn'.1 (by rw [e]; exact List.mem_map.2 ⟨x, h, rfl⟩)]
      exact ih hn'.2 h
theorem look_key {l : Ml} {p : Px} (h : 0 < look l p) : p ∈ keysM l := by
  rcases Decidable.em (p ∈ keysM l) with h1 | h1
  · exact h1
  · rw [look_none h1] at h; omega
theorem keys_addM (p : Px) (w : Nat) : ∀ l : Ml, keysM (addM l p w) = if p ∈ keysM l then keysM l else keysM l ++ [p]
  | [] => by simp [addM, keysM]
  | x :: l => by
    unfold addM
    split
    · rename_i h
      rw [if_pos (show p ∈ keysM (x :: l) by rw [← h]; exact List.mem_cons_self)]; rfl
    · rename_i h
      show x.1 :: keysM (addM l p w) = _
      rw [keys_addM p w l]
      by_cases e : p ∈ keysM l
      · rw [if_pos e, if_pos (show p ∈ keysM (x :: l) from List.mem_cons_of_mem _ e)]; rfl
      · rw [if_neg e, if_neg (fun e2 : p ∈ keysM (x :: l) => by
          rcases List.mem_cons.1 (show p ∈ x.1 :: keysM l from e2) with e3 | e3
          · exact h e3.symm
          · exact e e3)]; rfl
theorem nodup_addM {l : Ml} (h : (keysM l).Nodup) (p : Px) (w : Nat) : (keysM (addM l p w)).Nodup := by
  rw [keys_addM]
  split
  · exact h
  · rename_i e
    rw [List.nodup_append]
    exact ⟨h, by simp, fun a ha b hb e2 => e (by rw [← List.mem_singleton.1 hb, ← e2]; exact ha)⟩
theorem mem_keys_addM {l : Ml} {p : Px} {w : Nat} {q : Px} : q ∈ keysM (addM l p w) ↔ q ∈ keysM l ∨ q = p := by
  rw [keys_addM]
  split
  · rename_i e
    exact ⟨.inl, fun h => h.elim id fun h => h ▸ e⟩
  · rw [List.mem_append, List.mem_singleton]

/-- All that is put, one behind the other. -/
def putF (l : Ml) (t : Ml) : Ml := t.foldl (fun l x => addM l x.1 x.2) l
abbrev putAll (t : Ml) : Ml := putF [] t
theorem putF_cons (l : Ml) (x : Px × Nat) (t : Ml) : putF l (x :: t) = putF (addM l x.1 x.2) t := rfl
theorem putF_snoc (l : Ml) (t : Ml) (x : Px × Nat) : putF l (t ++ [x]) = addM (putF l t) x.1 x.2 := by simp [putF]
theorem sumF_putF (f : Px → Bool) : ∀ (t l : Ml), sumF f (putF l t) = sumF f l + sumF f t
  | [], l => rfl
  | x :: t, l => by rw [putF_cons, sumF_putF f t, sumF_addM, sumF_cons]; omega
theorem nodup_putF : ∀ (t : Ml) {l : Ml}, (keysM l).Nodup → (keysM (putF l t)).Nodup
  | [], _, h => h
  | _ :: t, _, h => nodup_putF t (nodup_addM h _ _)
theorem nodup_putAll (t : Ml) : (keysM (putAll t)).Nodup := nodup_putF t List.nodup_nil
theorem mem_keys_putF {q : Px} : ∀ (t : Ml) {l : Ml}, q ∈ keysM (putF l t) ↔ q ∈ keysM l ∨ q ∈ keysM t
  | [], l => by simp [putF, keysM]
  | x :: t, l => by
    rw [putF_cons, mem_keys_putF t, mem_keys_addM]
    show _ ↔ _ ∨ q ∈ x.1 :: keysM t
    rw [List.mem_cons, or_assoc]
theorem sumF_putAll (f : Px → Bool) (t : Ml) : sumF f (putAll t) = sumF f t := by rw [sumF_putF, sumF_nil, Nat.zero_add]

/-! ### what weighs something, in order -/
def heavyK (l : Ml) : List Px := (srt cmpP (keysM l)).filter fun p => decide (0 < look l p)
def loadsM (l : Ml) : Ml := (heavyK l).map fun p => (p, look l p)
theorem heavyK_mem {l : Ml} {p : Px} : p ∈ heavyK l ↔ 0 < look l p := by
  unfold heavyK
  rw [List.mem_filter, srt_mem, decide_eq_true_iff]
  exact ⟨fun h => h.2, fun h => ⟨look_key h, h⟩⟩
theorem loadsM_mem {l : Ml} {x : Px × Nat} : x ∈ loadsM l ↔ x.2 = look l x.1 ∧ 0 < x.2 := by
  unfold loadsM
  rw [List.mem_map]
  constructor
  · rintro ⟨p, hp, rfl⟩
    exact ⟨rfl, heavyK_mem.1 hp⟩
  · intro ⟨h1, h2⟩
    exact ⟨x.1, heavyK_mem.2 (by rw [← h1]; exact h2), by rw [← h1]⟩
theorem keys_loadsM (l : Ml) : keysM (loadsM l) = heavyK l := by
  unfold keysM loadsM
  rw [List.map_map]
  exact List.map_id _
theorem sum_keys (f : Px → Bool) {l : Ml} (hn : (keysM l).Nodup) : sumF f l = ((keysM l).map fun p => bif f p then look l p else 0).sum := by
  unfold sumF keysM
  rw [List.map_map]
  congr 1
  exact List.map_congr_left fun x hx => by
    show _ = bif f x.1 then look l x.1 else 0
    rw [look_mem hn hx]
theorem sum_filter {α : Type} (g : α → Nat) (b : α → Bool) : ∀ {l : List α}, (∀ x ∈ l, b x = false → g x = 0) → ((l.filter b).map g).sum = (l.map g).sum
  | [], _ => rfl
  | x :: l, h => by
    have ih := sum_filter g b (l := l) fun y hy => h y (List.mem_cons_of_mem _ hy)
    cases hb : b x
    · rw [List.filter_cons_of_neg (by rw [hb]; simp), ih, List.map_cons, List.sum_cons, h x List.mem_cons_self hb]; omega
    · rw [List.filter_cons_of_pos hb, List.map_cons, List.map_cons, List.sum_cons, List.sum_cons, ih]
theorem sumF_loadsM (f : Px → Bool) {l : Ml} (hn : (keysM l).Nodup) : sumF f (loadsM l) = sumF f l := by
  rw [sum_keys f hn]
  have e1 : sumF f (loadsM l) = ((heavyK l).map fun p => bif f p then look l p else 0).sum := by
    unfold sumF loadsM; rw [List.map_map]; rfl
  rw [e1, heavyK, sum_filter _ _ fun p _ hp => ?_]
  · exact ((srt_perm _).map _).sum_nat
  · have h0 : look l p = 0 := by have := of_decide_eq_false hp; omega
    rw [h0]; cases f p <;> rfl
theorem sumF_pos {f : Px → Bool} : ∀ {l : Ml}, 0 < sumF f l ↔ ∃ x ∈ l, f x.1 = true ∧ 0 < x.2
  | [] => by simp [sumF]
  | x :: l => by
    rw [sumF_cons]
    have ih := sumF_pos (f := f) (l := l)
    constructor
    · intro h
      by_cases h1 : 0 < sumF f l
      · obtain ⟨y, h2, h3⟩ := ih.1 h1
        exact ⟨y, List.mem_cons_of_mem _ h2, h3⟩
      · cases hf : f x.1
        · rw [hf, cond_false] at h; omega
        · rw [hf, cond_true] at h
          exact ⟨x, List.mem_cons_self, hf, by omega⟩
    · rintro ⟨y, hy, h1, h2⟩
      rcases List.mem_cons.1 hy with rfl | hy
      · rw [h1, cond_true]; omega
      · have := ih.2 ⟨y, hy, h1, h2⟩; omega
theorem loadsM_len {l : Ml} : (loadsM l).length ≤ l.length := by
  unfold loadsM heavyK
  rw [List.length_map]
  refine Nat.le_trans (List.length_filter_le _ _) ?_
  rw [srt_len, keysM, List.length_map]; exact Nat.le_refl _
theorem addM_len (p : Px) (w : Nat) : ∀ (l : Ml), (addM l p w).length ≤ l.length + 1
  | [] => Nat.le_refl _
  | x :: l => by
    unfold addM
    split
    · exact Nat.le_succ _
    · have := addM_len p w l
      simp only [List.length_cons]; omega
theorem putF_len : ∀ (t l : Ml), (putF l t).length ≤ l.length + t.length
  | [], _ => Nat.le_refl _
  | x :: t, l => by
    rw [putF_cons]
    have h1 := putF_len t (addM l x.1 x.2)
    have h2 := addM_len x.1 x.2 l
    rw [List.length_cons]; omega
/-! ### every prefix over what weighs something -/
def hgtP (p q : Px) : Int := if cmpI (IntKind.i64.wrap (p.a0 + p.a1)) (IntKind.i64.wrap (q.a0 + q.a1)) = 0 then cmpP p q else cmpI (IntKind.i64.wrap (p.a0 + p.a1)) (IntKind.i64.wrap (q.a0 + q.a1))
theorem to_hgtP : TO hgtP := (to_cmpI.comap fun p : Px => IntKind.i64.wrap (p.a0 + p.a1)).lx to_cmpP
theorem hgtP_zero {p q : Px} (h : hgtP p q = 0) : p = q := by
  unfold hgtP at h
  by_cases e : cmpI (IntKind.i64.wrap (p.a0 + p.a1)) (IntKind.i64.wrap (q.a0 + q.a1)) = 0
  · rw [if_pos e] at h; exact cmpP_zero.1 h
  · rw [if_neg e] at h; exact absurd h e
def upsM (s : Sp) (l : Ml) : List Px := l.flatMap fun x => allP s x.1
def cntL (l : List Px) : Ml := putAll (l.map fun p => (p, 1))
def ovM (s : Sp) (l : Ml) : List Px := srt hgtP (keysM (cntL (upsM s (loadsM l))))
theorem ovM_ord (s : Sp) (l : Ml) : Ord hgtP (ovM s l) := srt_ord to_hgtP (fun _ _ h => hgtP_zero h) (nodup_putAll _)
def MOk (l : Ml) : Prop := ∀ p ∈ keysM l, POk p
theorem MOk.loads {l : Ml} (h : MOk l) : MOk (loadsM l) := fun p hp => by
  rw [keys_loadsM, heavyK_mem] at hp
  exact h p (look_key hp)
theorem MOk.at {l : Ml} (h : MOk l) {x : Px × Nat} (hx : x ∈ l) : POk x.1 := h _ (List.mem_map.2 ⟨x, hx, rfl⟩)
theorem upsM_mem {s : Sp} {l : Ml} (h : MOk l) {q : Px} : q ∈ upsM s l ↔ ∃ x ∈ l, overP s q x.1 = true := by
  unfold upsM
  rw [List.mem_flatMap]
  constructor
  · rintro ⟨x, hx, hq⟩; exact ⟨x, hx, (allP_mem (h.at hx)).1 hq⟩
  · rintro ⟨x, hx, hq⟩; exact ⟨x, hx, (allP_mem (h.at hx)).2 hq⟩
theorem ovM_mem {s : Sp} {l : Ml} (h : MOk l) (hn : (keysM l).Nodup) {q : Px} : q ∈ ovM s l ↔ 0 < wgt s l q := by
  unfold ovM cntL
  rw [srt_mem, mem_keys_putF]
  have : (q ∈ keysM (List.map (fun p => (p, 1)) (upsM s (loadsM l)))) ↔ q ∈ upsM s (loadsM l) := by
    unfold keysM
    rw [List.map_map]
    show q ∈ List.map id _ ↔ _
    rw [List.map_id]
  rw [this, upsM_mem h.loads, show wgt s l q = sumF (overP s q) (loadsM l) from (sumF_loadsM _ hn).symm, sumF_pos]
  constructor
  · rintro (h1 | ⟨x, h1, h2⟩)
    · cases h1
    · exact ⟨x, h1, h2, (loadsM_mem.1 h1).2⟩
  · rintro ⟨x, h1, h2, _⟩; exact .inr ⟨x, h1, h2⟩
theorem upsM_ok {s : Sp} {l : Ml} (h : MOk l) : ∀ q ∈ upsM s l, POk q := fun q hq => by
  obtain ⟨x, hx, hq⟩ := List.mem_flatMap.1 hq
  exact allP_ok (h.at hx) q hq
theorem ovM_ok {s : Sp} {l : Ml} (h : MOk l) : ∀ q ∈ ovM s l, POk q := fun q hq => by
  unfold ovM cntL at hq
  rw [srt_mem, mem_keys_putF] at hq
  rcases hq with hq | hq
  · cases hq
  · refine upsM_ok (s := s) h.loads q ?_
    unfold keysM at hq
    rw [List.map_map] at hq
    simpa using hq
theorem upsM_len (s : Sp) : ∀ (l : Ml), (upsM s l).length ≤ l.length * 33153
  | [] => Nat.le_refl _
  | x :: l => by
    have h1 := upsM_len s l
    have h2 := allP_len s x.1
    show ((x :: l).flatMap _).length ≤ _
    rw [List.flatMap_cons, List.length_append, List.length_cons]
    show _ + (upsM s l).length ≤ _
    omega
theorem ovM_len (s : Sp) (l : Ml) : (ovM s l).length ≤ l.length * 33153 := by
  unfold ovM cntL
  rw [srt_len, keysM, List.length_map]
  have h1 : (putF [] ((upsM s (loadsM l)).map fun p => (p, 1))).length ≤ _ := putF_len ((upsM s (loadsM l)).map fun p => (p, 1)) []
  have h2 := upsM_len s (loadsM l)
  have h3 := loadsM_len (l := l)
  have h4 : (loadsM l).length * 33153 ≤ l.length * 33153 := Nat.mul_le_mul_right _ h3
  rw [List.length_map] at h1
  simp only [List.length_nil] at h1
  show (putF [] _).length ≤ _
  omega
end Go.Proofs.YtgaohmfmomeflaaGreatDoor
end

section
/- grid: what its functions compute. -/
namespace Go.Proofs.YtgaohmfmomeflaaGreatDoor
open Go.Ve

theorem ends_ok (s : Sp) : PCall P 135 [spv s] (.agg [.int .i64 (gA s), .int .i64 (gB s)]) := by
  have q1 := top_okP s
  obtain ⟨t0, t1⟩ := top_g s
  rw [← t0, ← t1]
  generalize topP s = t at *
  refine PCall.of_awp tok mixed fn135 (Nat.le_of_ble_eq_true rfl) ?_
  (conv => whnf); (repeat' ((first | with_reducible refine Box.mk ?_ | with_reducible refine And.intro (fun _ => ?_) (fun _ => ?_) | ((with_reducible show AYld _ _ _ _ _); refine AYld.of tok mixed ?_) | with_reducible refine (forceH_eq _ _).mpr ?_ | refine ACall.of_pure (by assumption) (by rfl) ?_ | ((with_reducible show Exists _); refine ⟨_, ACall.of_pure (by assumption) (by rfl) ⟨rfl, rfl⟩, ?_⟩) | ((with_reducible show ∃ L, drawR L _ = true ∧ _); refine ⟨[], by kernel_rfl, ?_⟩) | ((with_reducible show _ ∧ _ ∧ _); refine ⟨by omega, by omega, ?_⟩) | fail) <;> conv => whnf))
  rfl
theorem tall_ok (s : Sp) : PCall P 111 [spv s] (.int .i64 ((gA s + gB s : Nat) : Int)) := by
  have q2 := ends_ok s
  obtain ⟨g1, g2⟩ := g_le s
  generalize gA s = a at *
  generalize gB s = b at *
  refine PCall.of_awp tok mixed fn111 (Nat.le_of_ble_eq_true rfl) ?_
  (conv => whnf); (repeat' ((first | with_reducible refine Box.mk ?_ | with_reducible refine And.intro (fun _ => ?_) (fun _ => ?_) | ((with_reducible show AYld _ _ _ _ _); refine AYld.of tok mixed ?_) | with_reducible refine (forceH_eq _ _).mpr ?_ | refine ACall.of_pure (by assumption) (by rfl) ?_ | ((with_reducible show Exists _); refine ⟨_, ACall.of_pure (by assumption) (by rfl) ⟨rfl, rfl⟩, ?_⟩) | ((with_reducible show ∃ L, drawR L _ = true ∧ _); refine ⟨[], by kernel_rfl, ?_⟩) | ((with_reducible show _ ∧ _ ∧ _); refine ⟨by omega, by omega, ?_⟩) | fail) <;> conv => whnf))
  exact res1_eq (wrap_nat (by omega))
theorem span_ok (s : Sp) (h : Nat) (hh : h ≤ 1000) : PCall P 112 [spv s, .int .i64 h] (.tup [.int .i64 ((h - gB s : Nat) : Int), .int .i64 ((min h (gA s) : Nat) : Int)]) := by
  have q2 := ends_ok s
  obtain ⟨g1, g2⟩ := g_le s
  generalize gA s = a at *
  generalize gB s = b at *
  refine PCall.of_awp tok mixed fn112 (Nat.le_of_ble_eq_true rfl) ?_
  (conv => whnf); (repeat' ((first | with_reducible refine Box.mk ?_ | with_reducible refine And.intro (fun _ => ?_) (fun _ => ?_) | ((with_reducible show AYld _ _ _ _ _); refine AYld.of tok mixed ?_) | with_reducible refine (forceH_eq _ _).mpr ?_ | refine ACall.of_pure (by assumption) (by rfl) ?_ | ((with_reducible show Exists _); refine ⟨_, ACall.of_pure (by assumption) (by rfl) ⟨rfl, rfl⟩, ?_⟩) | ((with_reducible show ∃ L, drawR L _ = true ∧ _); refine ⟨[], by kernel_rfl, ?_⟩) | ((with_reducible show _ ∧ _ ∧ _); refine ⟨by omega, by omega, ?_⟩) | fail) <;> conv => whnf))
  have e1 : max 0 (IntKind.i64.wrap ((h : Int) - b)) = ((h - b : Nat) : Int) := by rw [wrap_i64 (by omega) (by omega)]; omega
  have e2 : min (h : Int) a = ((min h a : Nat) : Int) := by omega
  rw [← e1, ← e2]; rfl
theorem gWalk_ok (s : Sp) : PCall P 80 [spv s] (.fn 110 [.cptr (scs s)]) := by
  refine PCall.of_awp tok mixed fn80 (Nat.le_of_ble_eq_true rfl) ?_
  (conv => whnf); (repeat' ((first | with_reducible refine Box.mk ?_ | with_reducible refine And.intro (fun _ => ?_) (fun _ => ?_) | ((with_reducible show AYld _ _ _ _ _); refine AYld.of tok mixed ?_) | with_reducible refine (forceH_eq _ _).mpr ?_ | refine ACall.of_pure (by assumption) (by rfl) ?_ | ((with_reducible show Exists _); refine ⟨_, ACall.of_pure (by assumption) (by rfl) ⟨rfl, rfl⟩, ?_⟩) | ((with_reducible show ∃ L, drawR L _ = true ∧ _); refine ⟨[], by kernel_rfl, ?_⟩) | ((with_reducible show _ ∧ _ ∧ _); refine ⟨by omega, by omega, ?_⟩) | fail) <;> conv => whnf))
  rfl
theorem walk_iter (s : Sp) (hs : soundS s = true) (id : Nat) (H0 : Hp) (I : List (Nat × Nat) → Hp → Prop) (K : Hp → Prop) (h0 : I [] H0)
    (hstep : ∀ pre p H, pre ++ [p] <+: nodesN (gA s) (gB s) → I pre H → AYld P id [.int .i64 (pre.length : Int), .agg (ncs p)] H (fun r H' =>
      (r = .bool true ∧ ∃ L H'', okL H'.length L = true ∧ preL 0 H0.length L = true ∧ gOf L 0 id = some id ∧ heapOf (gOf L 0) H' L = H'' ∧ I (pre ++ [p]) H'') ∨ (r = .bool false ∧ K H')))
    (hend : ∀ H, I (nodesN (gA s) (gB s)) H → K H) : ACall P 110 [.own id, .cptr (scs s)] H0 (fun _ H' => K H') := by
  have q1 := sound_ok s
  have q2 := tall_ok s
  have q3 := fun h hh => span_ok s h hh
  rw [hs] at q1
  obtain ⟨g1, g2⟩ := g_le s
  have hN := nodesN_len g1 g2
  generalize gA s = a at *
  generalize gB s = b at *
  have e1 : IntKind.i64.wrap (((a + b : Nat) : Int) + 1) = ((a + b + 1 : Nat) : Int) := by rw [wrap_i64 (by omega) (by omega)]; omega
  refine ACall.of_awp tok mixed fn110 (Nat.le_of_ble_eq_true rfl) ?_
  (conv => whnf); (repeat' ((first | with_reducible refine Box.mk ?_ | with_reducible refine And.intro (fun _ => ?_) (fun _ => ?_) | ((with_reducible show AYld _ _ _ _ _); refine AYld.of tok mixed ?_) | with_reducible refine (forceH_eq _ _).mpr ?_ | refine ACall.of_pure (by assumption) (by rfl) ?_ | ((with_reducible show Exists _); refine ⟨_, ACall.of_pure (by assumption) (by rfl) ⟨rfl, rfl⟩, ?_⟩) | ((with_reducible show ∃ L, drawR L _ = true ∧ _); refine ⟨[], by kernel_rfl, ?_⟩) | ((with_reducible show _ ∧ _ ∧ _); refine ⟨by omega, by omega, ?_⟩) | fail) <;> conv => whnf))
  all_goals try contradiction
  refine aloop (fun x : Nat × Hp => x.1 ≤ a + b + 1 ∧ I (uptoN a b x.1) x.2)
    (fun x => ⟨envL [(0, .own id), (1, .cptr (scs s)), (3, .int .i64 ((uptoN a b x.1).length : Int)), (13, .int .i64 (IntKind.i64.wrap (((a + b : Nat) : Int) + 1))), (14, .int .i64 (x.1 : Int))], x.2⟩)
    (fun x => a + b + 1 - x.1) (0, H0) ⟨by omega, h0⟩ (weak_to ⟨rfl, rfl, rfl, rfl, rfl, trivial⟩ rfl) ?_
  rintro ⟨h, H⟩ ⟨hh, hI⟩
  have hh : h ≤ a + b + 1 := hh
  have hI : I (uptoN a b h) H := hI
  have q4 := q3 h (by omega)
  have hul := uptoN_len a b h
  have hlenN : (uptoN a b h).length ≤ 33153 := by
    have := (uptoN_pre (a := a) (b := b) hh).length_le
    unfold nodesN at hN; omega
  (conv => whnf); (repeat' ((first | (with_reducible first | refine Box.mk ?_ | refine And.intro (fun _ => ?_) (fun _ => ?_) | refine (forceH_eq _ _).mpr ?_) | refine ACall.of_pure (by assumption) (by rfl) ?_ | ((with_reducible show Exists _); refine ⟨_, ACall.of_pure (by assumption) (by rfl) ⟨rfl, rfl⟩, ?_⟩) | ((with_reducible show ∃ L, drawR L _ = true ∧ _); refine ⟨[], by kernel_rfl, ?_⟩) | ((with_reducible show _ ∧ _ ∧ _); refine ⟨by omega, by omega, ?_⟩) | fail) <;> conv => whnf))
  · rename_i hlt
    rw [e1] at hlt
    have hlt : h < a + b + 1 := by omega
    refine aloop (fun y : Nat × Hp => y.1 ≤ cntN a b h ∧ I (uptoN a b h ++ (rowN a b h).take y.1) y.2)
      (fun y => ⟨envL [(0, .own id), (1, .cptr (scs s)), (3, .int .i64 ((uptoN a b h ++ (rowN a b h).take y.1).length : Int)), (4, .int .i64 (h : Int)), (6, .int .i64 ((min h a : Nat) : Int)), (7, .int .i64 ((h - b + y.1 : Nat) : Int)), (13, .int .i64 (IntKind.i64.wrap (((a + b : Nat) : Int) + 1))), (14, .int .i64 (h : Int))], y.2⟩)
      (fun y => cntN a b h - y.1) (0, H) ⟨Nat.zero_le _, by rw [List.take_zero, List.append_nil]; exact hI⟩
      (weak_to ⟨rfl, rfl, congrArg (AV.int .i64) (by rw [List.take_zero, List.append_nil]), rfl, rfl, rfl, rfl, rfl, trivial⟩ rfl) ?_
    rintro ⟨t, H2⟩ ⟨ht, hI2⟩
    have ht : t ≤ cntN a b h := ht
    have hI2 : I (uptoN a b h ++ (rowN a b h).take t) H2 := hI2
    have hpl : (uptoN a b h ++ (rowN a b h).take t).length = (uptoN a b h).length + t := by rw [List.length_append, List.length_take, rowN_len]; omega
    have hcl := cntN_le a b h
    have hcd : cntN a b h = min h a + 1 - (h - b) := rfl
    (conv => whnf); (repeat' ((first | (with_reducible first | refine Box.mk ?_ | refine And.intro (fun _ => ?_) (fun _ => ?_) | refine (forceH_eq _ _).mpr ?_) | refine ACall.of_pure (by assumption) (by rfl) ?_ | ((with_reducible show Exists _); refine ⟨_, ACall.of_pure (by assumption) (by rfl) ⟨rfl, rfl⟩, ?_⟩) | ((with_reducible show ∃ L, drawR L _ = true ∧ _); refine ⟨[], by kernel_rfl, ?_⟩) | ((with_reducible show _ ∧ _ ∧ _); refine ⟨by omega, by omega, ?_⟩) | fail) <;> conv => whnf))
    · rename_i hle
      have htl : t < cntN a b h := by omega
      have e3 : IntKind.i64.wrap ((h : Int) - ((h - b + t : Nat) : Int)) = ((h - (h - b + t) : Nat) : Int) := by rw [wrap_i64 (by omega) (by omega)]; omega
      have hst := hstep _ (h - b + t, h - (h - b + t)) H2 (part_pre (by omega) htl) hI2
      have ha : [AV.int .i64 (((uptoN a b h ++ (rowN a b h).take t).length : Nat) : Int), AV.agg [AV.int .i64 ((h - b + t : Nat) : Int), AV.int .i64 (IntKind.i64.wrap ((h : Int) - ((h - b + t : Nat) : Int)))]] = [AV.int .i64 (((uptoN a b h ++ (rowN a b h).take t).length : Nat) : Int), AV.agg (ncs (h - b + t, h - (h - b + t)))] := by rw [e3]; rfl
      refine AYld.mono (ha ▸ hst) ?_
      rintro r H' (⟨rfl, L, H'', k1, k2, k3, k4, k5⟩ | ⟨rfl, hK⟩)
      · have hown : renV (gOf L 0) (.own id) = .own id := by
          show (match gOf L 0 id with | some j => AV.own j | none => AV.undef) = AV.own id
          rw [k3]
        (conv => whnf); (repeat' ((first | (with_reducible first | refine Box.mk ?_ | refine And.intro (fun _ => ?_) (fun _ => ?_) | refine (forceH_eq _ _).mpr ?_) | refine ACall.of_pure (by assumption) (by rfl) ?_ | ((with_reducible show Exists _); refine ⟨_, ACall.of_pure (by assumption) (by rfl) ⟨rfl, rfl⟩, ?_⟩) | ((with_reducible show ∃ L, drawR L _ = true ∧ _); refine ⟨[], by kernel_rfl, ?_⟩) | ((with_reducible show _ ∧ _ ∧ _); refine ⟨by omega, by omega, ?_⟩) | fail) <;> conv => whnf))
        refine ⟨(t + 1, H''), ⟨htl, ?_⟩, by show cntN a b h - (t + 1) < cntN a b h - t; omega, weak_ren_to L k1 k2 k4 ⟨hown, rfl, congrArg (AV.int .i64) ?_, rfl, rfl, congrArg (AV.int .i64) ?_, rfl, rfl, trivial⟩⟩
        · show I (uptoN a b h ++ (rowN a b h).take (t + 1)) H''
          rw [rowN_take htl, ← List.append_assoc]; exact k5
        · dsimp only
          rw [wrap_i64 (by omega) (by omega), rowN_take htl, ← List.append_assoc, List.length_append (bs := [_])]
          simp
        · dsimp only
          rw [wrap_i64 (by omega) (by omega)]; omega
      · (conv => whnf); (repeat' ((first | (with_reducible first | refine Box.mk ?_ | refine And.intro (fun _ => ?_) (fun _ => ?_) | refine (forceH_eq _ _).mpr ?_) | refine ACall.of_pure (by assumption) (by rfl) ?_ | ((with_reducible show Exists _); refine ⟨_, ACall.of_pure (by assumption) (by rfl) ⟨rfl, rfl⟩, ?_⟩) | ((with_reducible show ∃ L, drawR L _ = true ∧ _); refine ⟨[], by kernel_rfl, ?_⟩) | ((with_reducible show _ ∧ _ ∧ _); refine ⟨by omega, by omega, ?_⟩) | fail) <;> conv => whnf))
        exact hK
    · rename_i hle
      have htc : t = cntN a b h := by omega
      have hall : uptoN a b h ++ (rowN a b h).take t = uptoN a b (h + 1) := by rw [htc, ← rowN_len, List.take_length, uptoN_succ]
      rw [hall] at hI2
      refine ⟨(h + 1, H2), ⟨by show h + 1 ≤ a + b + 1; omega, hI2⟩, by show a + b + 1 - (h + 1) < a + b + 1 - h; omega, weak_to ⟨rfl, rfl, congrArg (AV.int .i64) (by rw [hall]), rfl, congrArg (AV.int .i64) (by rw [wrap_i64 (by omega) (by omega)]; show (h : Int) + 1 = ((h + 1 : Nat) : Int); omega), trivial⟩ rfl⟩
  · rename_i hlt
    rw [e1] at hlt
    have : h = a + b + 1 := by omega
    subst this
    exact hend H hI
end Go.Proofs.YtgaohmfmomeflaaGreatDoor
end

section
/- dim, the document's answer: the list of lengths. -/
namespace Go.Proofs.YtgaohmfmomeflaaGreatDoor
open Go.Ve

end Go.Proofs.YtgaohmfmomeflaaGreatDoor
end

section
/- dim, the document's answer: Right, Depth, Len, On, Cut. -/
namespace Go.Proofs.YtgaohmfmomeflaaGreatDoor
open Go.Ve

end Go.Proofs.YtgaohmfmomeflaaGreatDoor
end

section
/- prefix, the document's answer: Sound, Right, Leaf, Top. -/
namespace Go.Proofs.YtgaohmfmomeflaaGreatDoor
open Go.Ve

end Go.Proofs.YtgaohmfmomeflaaGreatDoor
end

section
/- grid: the nodes as lists; the document's answer for these. -/
namespace Go.Proofs.YtgaohmfmomeflaaGreatDoor
open Go.Ve

/-- The nodes gone through; the heap of the caller by what has come. -/
theorem walk_iterH (s : Sp) (hs : soundS s = true) (id : Nat) (H0 : Hp) (Hs : List (Nat × Nat) → Hp → Hp) (K : Hp → Prop) (h0 : Hs [] H0 = H0)
    (hstep : ∀ pre p, pre ++ [p] <+: nodesN (gA s) (gB s) → AYld P id [.int .i64 (pre.length : Int), .agg (ncs p)] (Hs pre H0) (fun r H' =>
      (r = .bool true ∧ ∃ L, okL H'.length L = true ∧ preL 0 H0.length L = true ∧ gOf L 0 id = some id ∧ heapOf (gOf L 0) H' L = Hs (pre ++ [p]) H0) ∨ (r = .bool false ∧ K H')))
    (hend : K (Hs (nodesN (gA s) (gB s)) H0)) : ACall P 110 [.own id, .cptr (scs s)] H0 (fun _ H' => K H') := by
  refine walk_iter s hs id H0 (fun pre H => H = Hs pre H0) K h0.symm (fun pre p H hp hI => ?_) (fun H hI => by rw [hI]; exact hend)
  rw [hI]
  refine (hstep pre p hp).mono fun r H' hr => ?_
  rcases hr with ⟨h1, L, h2, h3, h4, h5⟩ | hr
  · exact .inl ⟨h1, L, _, h2, h3, h4, h5, rfl⟩
  · exact .inr hr

end Go.Proofs.YtgaohmfmomeflaaGreatDoor
end

section
/- grid: places; the document's answers for heights and places; equal lists. -/
namespace Go.Proofs.YtgaohmfmomeflaaGreatDoor
open Go.Ve

end Go.Proofs.YtgaohmfmomeflaaGreatDoor
end

section
/- prefix, the document's answer: Over, Up; and the statements that they serve. -/
namespace Go.Proofs.YtgaohmfmomeflaaGreatDoor
open Go.Ve

end Go.Proofs.YtgaohmfmomeflaaGreatDoor
end

section
/- prefix, the document's answer: Up. -/
namespace Go.Proofs.YtgaohmfmomeflaaGreatDoor
open Go.Ve

end Go.Proofs.YtgaohmfmomeflaaGreatDoor
end

section
/- grid: All; the document's answer for it; equal lists of prefixes. -/
namespace Go.Proofs.YtgaohmfmomeflaaGreatDoor
open Go.Ve

theorem keysOver0_ok (s : Sp) (p : Px) (hp : POk p) : PCall P 79 [spv s, pxv p, .int .i64 0] (.sl (kcl (kov s.d0 p.k0))) := by
  have p0 := hp.p0
  have q1 := dDepth_ok s.d0
  have q2 := fun l => dCut_ok s.d0 l p.k0 hp.n0 (by omega)
  have hd := @depthD_le s.d0
  rw [kov_fill]
  generalize hn : (depthD s.d0).toNat = n at *
  have e1 : IntKind.i64.wrap (depthD s.d0 + 1) = ((n + 1 : Nat) : Int) := by rw [wrap_i64 (by omega) (by omega)]; omega
  have hfl := fun i f => fillR_len (n + 1) i f kzs
  obtain ⟨f, hf⟩ : ∃ f : Nat → List AV, f = fun i => kcs (cutD s.d0 (i : Nat) p.k0) := ⟨_, rfl⟩
  rw [← hf, ← fillR_all (n + 1) f kzs]
  refine PCall.of_awp tok mixed fn79 (Nat.le_of_ble_eq_true rfl) ?_
  (conv => whnf); (repeat' ((first | with_reducible refine Box.mk ?_ | with_reducible refine And.intro (fun _ => ?_) (fun _ => ?_) | ((with_reducible show AYld _ _ _ _ _); refine AYld.of tok mixed ?_) | with_reducible refine (forceH_eq _ _).mpr ?_ | refine ACall.of_pure (by assumption) (by rfl) ?_ | ((with_reducible show Exists _); refine ⟨_, ACall.of_pure (by assumption) (by rfl) ⟨rfl, rfl⟩, ?_⟩) | ((with_reducible show ∃ L, drawR L _ = true ∧ _); refine ⟨[], by kernel_rfl, ?_⟩) | ((with_reducible show _ ∧ _ ∧ _); refine ⟨by omega, by omega, ?_⟩) | fail) <;> conv => whnf))
  rw [e1]
  refine ⟨by show ((n + 1 : Nat) : Int) * 48 ≤ _; omega, by omega, ?_⟩
  (conv => whnf); (repeat' ((first | with_reducible refine Box.mk ?_ | with_reducible refine And.intro (fun _ => ?_) (fun _ => ?_) | ((with_reducible show AYld _ _ _ _ _); refine AYld.of tok mixed ?_) | with_reducible refine (forceH_eq _ _).mpr ?_ | refine ACall.of_pure (by assumption) (by rfl) ?_ | ((with_reducible show Exists _); refine ⟨_, ACall.of_pure (by assumption) (by rfl) ⟨rfl, rfl⟩, ?_⟩) | ((with_reducible show ∃ L, drawR L _ = true ∧ _); refine ⟨[], by kernel_rfl, ?_⟩) | ((with_reducible show _ ∧ _ ∧ _); refine ⟨by omega, by omega, ?_⟩) | fail) <;> conv => whnf))
  refine aloopH (fun i : Nat => i ≤ n + 1) (fun i : Nat => [(2, .int .i64 0), (3, .ptr 0 0), (4, .ptr 1 0), (7, .ptr 2 0), (8, .own 3), (19, .int .i64 ((n + 1 : Nat) : Int)), (20, .int .i64 i)]) (fun i H => H.set 3 (.row 31 5 (fillR (n + 1) i f kzs))) (fun i => n + 1 - i) 0 (Nat.zero_le _)
    (weak_to ⟨rfl, rfl, rfl, rfl, rfl, congrArg (AV.int .i64) (by rw [List.length_replicate]; rfl), rfl, trivial⟩ (by rw [fillR_zero]; rfl)) ?_
  intro i hi
  have q3 := q2 (i : Int)
  (conv => whnf); (repeat' ((first | with_reducible refine Box.mk ?_ | with_reducible refine And.intro (fun _ => ?_) (fun _ => ?_) | ((with_reducible show AYld _ _ _ _ _); refine AYld.of tok mixed ?_) | with_reducible refine (forceH_eq _ _).mpr ?_ | refine ACall.of_pure (by assumption) (by rfl) ?_ | ((with_reducible show Exists _); refine ⟨_, ACall.of_pure (by assumption) (by rfl) ⟨rfl, rfl⟩, ?_⟩) | ((with_reducible show ∃ L, drawR L _ = true ∧ _); refine ⟨[], by kernel_rfl, ?_⟩) | ((with_reducible show _ ∧ _ ∧ _); refine ⟨by omega, by omega, ?_⟩) | fail) <;> conv => whnf))
  · rename_i h
    have hlt : i < n + 1 := by omega
    refine ⟨by omega, by rw [hfl]; show (i : Int).toNat < n + 1; omega, ?_⟩
    (conv => whnf); (repeat' ((first | with_reducible refine Box.mk ?_ | with_reducible refine And.intro (fun _ => ?_) (fun _ => ?_) | ((with_reducible show AYld _ _ _ _ _); refine AYld.of tok mixed ?_) | with_reducible refine (forceH_eq _ _).mpr ?_ | refine ACall.of_pure (by assumption) (by rfl) ?_ | ((with_reducible show Exists _); refine ⟨_, ACall.of_pure (by assumption) (by rfl) ⟨rfl, rfl⟩, ?_⟩) | ((with_reducible show ∃ L, drawR L _ = true ∧ _); refine ⟨[], by kernel_rfl, ?_⟩) | ((with_reducible show _ ∧ _ ∧ _); refine ⟨by omega, by omega, ?_⟩) | fail) <;> conv => whnf))
    refine ⟨_, fillR_get (by show (i : Int).toNat < n + 1; omega), ?_⟩
    (conv => whnf); (repeat' ((first | with_reducible refine Box.mk ?_ | with_reducible refine And.intro (fun _ => ?_) (fun _ => ?_) | ((with_reducible show AYld _ _ _ _ _); refine AYld.of tok mixed ?_) | with_reducible refine (forceH_eq _ _).mpr ?_ | refine ACall.of_pure (by assumption) (by rfl) ?_ | ((with_reducible show Exists _); refine ⟨_, ACall.of_pure (by assumption) (by rfl) ⟨rfl, rfl⟩, ?_⟩) | ((with_reducible show ∃ L, drawR L _ = true ∧ _); refine ⟨[], by kernel_rfl, ?_⟩) | ((with_reducible show _ ∧ _ ∧ _); refine ⟨by omega, by omega, ?_⟩) | fail) <;> conv => whnf))
    refine ⟨i + 1, hlt, by omega, weak_to ⟨rfl, rfl, rfl, rfl, rfl, rfl, wrap_nat (m := 1) (by omega), trivial⟩ ?_⟩
    show [_, _, _, Ob.row _ _ ((fillR (n + 1) i f kzs).set i (kcs (cutD s.d0 (i : Nat) p.k0)))] = [_, _, _, Ob.row _ _ (fillR (n + 1) (i + 1) f kzs)]
    rw [← fillR_set, hf]
  · rename_i h
    have : i = n + 1 := by omega
    subst this
    rfl
theorem keysOver1_ok (s : Sp) (p : Px) (hp : POk p) : PCall P 79 [spv s, pxv p, .int .i64 1] (.sl (kcl (kov s.d1 p.k1))) := by
  have p0 := hp.p1
  have q1 := dDepth_ok s.d1
  have q2 := fun l => dCut_ok s.d1 l p.k1 hp.n1 (by omega)
  have hd := @depthD_le s.d1
  rw [kov_fill]
  generalize hn : (depthD s.d1).toNat = n at *
  have e1 : IntKind.i64.wrap (depthD s.d1 + 1) = ((n + 1 : Nat) : Int) := by rw [wrap_i64 (by omega) (by omega)]; omega
  have hfl := fun i f => fillR_len (n + 1) i f kzs
  obtain ⟨f, hf⟩ : ∃ f : Nat → List AV, f = fun i => kcs (cutD s.d1 (i : Nat) p.k1) := ⟨_, rfl⟩
  rw [← hf, ← fillR_all (n + 1) f kzs]
  refine PCall.of_awp tok mixed fn79 (Nat.le_of_ble_eq_true rfl) ?_
  (conv => whnf); (repeat' ((first | with_reducible refine Box.mk ?_ | with_reducible refine And.intro (fun _ => ?_) (fun _ => ?_) | ((with_reducible show AYld _ _ _ _ _); refine AYld.of tok mixed ?_) | with_reducible refine (forceH_eq _ _).mpr ?_ | refine ACall.of_pure (by assumption) (by rfl) ?_ | ((with_reducible show Exists _); refine ⟨_, ACall.of_pure (by assumption) (by rfl) ⟨rfl, rfl⟩, ?_⟩) | ((with_reducible show ∃ L, drawR L _ = true ∧ _); refine ⟨[], by kernel_rfl, ?_⟩) | ((with_reducible show _ ∧ _ ∧ _); refine ⟨by omega, by omega, ?_⟩) | fail) <;> conv => whnf))
  rw [e1]
  refine ⟨by show ((n + 1 : Nat) : Int) * 48 ≤ _; omega, by omega, ?_⟩
  (conv => whnf); (repeat' ((first | with_reducible refine Box.mk ?_ | with_reducible refine And.intro (fun _ => ?_) (fun _ => ?_) | ((with_reducible show AYld _ _ _ _ _); refine AYld.of tok mixed ?_) | with_reducible refine (forceH_eq _ _).mpr ?_ | refine ACall.of_pure (by assumption) (by rfl) ?_ | ((with_reducible show Exists _); refine ⟨_, ACall.of_pure (by assumption) (by rfl) ⟨rfl, rfl⟩, ?_⟩) | ((with_reducible show ∃ L, drawR L _ = true ∧ _); refine ⟨[], by kernel_rfl, ?_⟩) | ((with_reducible show _ ∧ _ ∧ _); refine ⟨by omega, by omega, ?_⟩) | fail) <;> conv => whnf))
  refine aloopH (fun i : Nat => i ≤ n + 1) (fun i : Nat => [(2, .int .i64 1), (3, .ptr 0 0), (4, .ptr 1 0), (7, .ptr 2 0), (8, .own 3), (19, .int .i64 ((n + 1 : Nat) : Int)), (20, .int .i64 i)]) (fun i H => H.set 3 (.row 31 5 (fillR (n + 1) i f kzs))) (fun i => n + 1 - i) 0 (Nat.zero_le _)
    (weak_to ⟨rfl, rfl, rfl, rfl, rfl, congrArg (AV.int .i64) (by rw [List.length_replicate]; rfl), rfl, trivial⟩ (by rw [fillR_zero]; rfl)) ?_
  intro i hi
  have q3 := q2 (i : Int)
  (conv => whnf); (repeat' ((first | with_reducible refine Box.mk ?_ | with_reducible refine And.intro (fun _ => ?_) (fun _ => ?_) | ((with_reducible show AYld _ _ _ _ _); refine AYld.of tok mixed ?_) | with_reducible refine (forceH_eq _ _).mpr ?_ | refine ACall.of_pure (by assumption) (by rfl) ?_ | ((with_reducible show Exists _); refine ⟨_, ACall.of_pure (by assumption) (by rfl) ⟨rfl, rfl⟩, ?_⟩) | ((with_reducible show ∃ L, drawR L _ = true ∧ _); refine ⟨[], by kernel_rfl, ?_⟩) | ((with_reducible show _ ∧ _ ∧ _); refine ⟨by omega, by omega, ?_⟩) | fail) <;> conv => whnf))
  · rename_i h
    have hlt : i < n + 1 := by omega
    refine ⟨by omega, by rw [hfl]; show (i : Int).toNat < n + 1; omega, ?_⟩
    (conv => whnf); (repeat' ((first | with_reducible refine Box.mk ?_ | with_reducible refine And.intro (fun _ => ?_) (fun _ => ?_) | ((with_reducible show AYld _ _ _ _ _); refine AYld.of tok mixed ?_) | with_reducible refine (forceH_eq _ _).mpr ?_ | refine ACall.of_pure (by assumption) (by rfl) ?_ | ((with_reducible show Exists _); refine ⟨_, ACall.of_pure (by assumption) (by rfl) ⟨rfl, rfl⟩, ?_⟩) | ((with_reducible show ∃ L, drawR L _ = true ∧ _); refine ⟨[], by kernel_rfl, ?_⟩) | ((with_reducible show _ ∧ _ ∧ _); refine ⟨by omega, by omega, ?_⟩) | fail) <;> conv => whnf))
    refine ⟨_, fillR_get (by show (i : Int).toNat < n + 1; omega), ?_⟩
    (conv => whnf); (repeat' ((first | with_reducible refine Box.mk ?_ | with_reducible refine And.intro (fun _ => ?_) (fun _ => ?_) | ((with_reducible show AYld _ _ _ _ _); refine AYld.of tok mixed ?_) | with_reducible refine (forceH_eq _ _).mpr ?_ | refine ACall.of_pure (by assumption) (by rfl) ?_ | ((with_reducible show Exists _); refine ⟨_, ACall.of_pure (by assumption) (by rfl) ⟨rfl, rfl⟩, ?_⟩) | ((with_reducible show ∃ L, drawR L _ = true ∧ _); refine ⟨[], by kernel_rfl, ?_⟩) | ((with_reducible show _ ∧ _ ∧ _); refine ⟨by omega, by omega, ?_⟩) | fail) <;> conv => whnf))
    refine ⟨i + 1, hlt, by omega, weak_to ⟨rfl, rfl, rfl, rfl, rfl, rfl, wrap_nat (m := 1) (by omega), trivial⟩ ?_⟩
    show [_, _, _, Ob.row _ _ ((fillR (n + 1) i f kzs).set i (kcs (cutD s.d1 (i : Nat) p.k1)))] = [_, _, _, Ob.row _ _ (fillR (n + 1) (i + 1) f kzs)]
    rw [← fillR_set, hf]
  · rename_i h
    have : i = n + 1 := by omega
    subst this
    rfl
def allH : List Px → Hp → Hp
  | [], H => H
  | x :: r, H => H.set 3 (.box 60 [.own 5]) ++ [.row 34 12 (pcl (x :: r))]
theorem allH_snoc (l : List Px) (x : Px) (H : Hp) : allH (l ++ [x]) H = H.set 3 (.box 60 [.own 5]) ++ [.row 34 12 (pcl l ++ [pcs x])] := by
  rw [pcl_snoc]
  cases l with
  | nil => rfl
  | cons y r => rfl
theorem gAll_ok (s : Sp) (p : Px) (hp : POk p) : PCall P 50 [spv s, pxv p] (pvl (allP s p)) := by
  have q1 := pRight_ok s p hp
  have q2 := keysOver0_ok s p hp
  have q3 := keysOver1_ok s p hp
  have q4 := gWalk_ok s
  cases hr : rightP s p
  · rw [hr] at q1
    have e : allP s p = [] := by unfold allP; rw [hr, cond_false]
    rw [e]
    refine PCall.of_awp tok mixed fn50 (Nat.le_of_ble_eq_true rfl) ?_
    (conv => whnf); (repeat' ((first | with_reducible refine Box.mk ?_ | with_reducible refine And.intro (fun _ => ?_) (fun _ => ?_) | ((with_reducible show AYld _ _ _ _ _); refine AYld.of tok mixed ?_) | with_reducible refine (forceH_eq _ _).mpr ?_ | refine ACall.of_pure (by assumption) (by rfl) ?_ | ((with_reducible show Exists _); refine ⟨_, ACall.of_pure (by assumption) (by rfl) ⟨rfl, rfl⟩, ?_⟩) | ((with_reducible show ∃ L, drawR L _ = true ∧ _); refine ⟨[], by kernel_rfl, ?_⟩) | ((with_reducible show _ ∧ _ ∧ _); refine ⟨by omega, by omega, ?_⟩) | fail) <;> conv => whnf))
    all_goals first
      | contradiction
      | rfl
  · rw [hr] at q1
    have hs := right_sound hr
    have e : allP s p = accA s p (nodesN (gA s) (gB s)) := by unfold allP; rw [hr, cond_true, nds_yes hs]
    rw [e]
    obtain ⟨g1, g2⟩ := g_le s
    have hN := nodesN_len g1 g2
    have ea : (gA s : Int) ≤ depthD s.d0 := by
      have h0 := @depthD_le s.d0
      unfold gA; rw [hs, cond_true]; omega
    have eb : (gB s : Int) ≤ depthD s.d1 := by
      have h0 := @depthD_le s.d1
      unfold gB; rw [hs, cond_true]; omega
    refine PCall.of_awp tok mixed fn50 (Nat.le_of_ble_eq_true rfl) ?_
    (conv => whnf); (repeat' ((first | with_reducible refine Box.mk ?_ | with_reducible refine And.intro (fun _ => ?_) (fun _ => ?_) | ((with_reducible show AYld _ _ _ _ _); refine AYld.of tok mixed ?_) | with_reducible refine (forceH_eq _ _).mpr ?_ | refine ACall.of_pure (by assumption) (by rfl) ?_ | ((with_reducible show Exists _); refine ⟨_, ACall.of_pure (by assumption) (by rfl) ⟨rfl, rfl⟩, ?_⟩) | ((with_reducible show _ ∧ _ ∧ _); refine ⟨by omega, by omega, ?_⟩) | fail) <;> conv => whnf))
    all_goals try contradiction
    refine ⟨[(7, [0, 1, 2, 3, 4, 5])], by kernel_rfl, ?_⟩
    (conv => whnf); (repeat' ((first | with_reducible refine Box.mk ?_ | with_reducible refine And.intro (fun _ => ?_) (fun _ => ?_) | ((with_reducible show AYld _ _ _ _ _); refine AYld.of tok mixed ?_) | with_reducible refine (forceH_eq _ _).mpr ?_ | refine ACall.of_pure (by assumption) (by rfl) ?_ | ((with_reducible show Exists _); refine ⟨_, ACall.of_pure (by assumption) (by rfl) ⟨rfl, rfl⟩, ?_⟩) | ((with_reducible show _ ∧ _ ∧ _); refine ⟨by omega, by omega, ?_⟩) | fail) <;> conv => whnf))
    (refine And.intro ?_ ?_); (focus ((conv => whnf); (repeat' first | exact trivial | ((refine And.intro ?_ ?_); (focus ((conv => whnf); (first | exact ⟨rfl, rfl⟩ | exact ⟨by decide, by decide, rfl, rfl⟩ | exact ⟨by omega, by omega, rfl, rfl⟩ | exact ⟨by (simp only [List.length_drop, List.length_take]; omega), rfl, rfl⟩ | exact ⟨_, rfl, rfl, rfl⟩ | exact ⟨by omega, _, by assumption, rfl, rfl, rfl⟩ | ((refine ACall.of_pure (by assumption) (by rfl) ?_); (refine And.intro ?_ ?_ <;> rfl))))); (conv => whnf)))))
    (conv => whnf); (repeat' ((first | with_reducible refine Box.mk ?_ | with_reducible refine And.intro (fun _ => ?_) (fun _ => ?_) | ((with_reducible show AYld _ _ _ _ _); refine AYld.of tok mixed ?_) | with_reducible refine (forceH_eq _ _).mpr ?_ | refine ACall.of_pure (by assumption) (by rfl) ?_ | ((with_reducible show Exists _); refine ⟨_, ACall.of_pure (by assumption) (by rfl) ⟨rfl, rfl⟩, ?_⟩) | ((with_reducible show _ ∧ _ ∧ _); refine ⟨by omega, by omega, ?_⟩) | fail) <;> conv => whnf))
    refine arange [(2, .ptr 0 0), (3, .ptr 1 0), (5, .ptr 2 0), (6, .ptr 3 0)] ⟨rfl, rfl, rfl, rfl, trivial⟩ rfl trivial ?_
    refine walk_iterH s hs _ _ (fun pre => allH (accA s p pre)) _ rfl (fun pre q hq => ?_) ?_
    · have hle := hq.length_le
      rw [List.length_append, List.length_singleton] at hle
      have hqm : q ∈ nodesN (gA s) (gB s) := hq.subset (by simp)
      obtain ⟨j, hj⟩ := List.getElem?_of_mem hqm
      obtain ⟨b1, b2, _⟩ := node_get hj
      have k0 := kov_get (d := s.d0) (k := p.k0) (i := q.1) (by omega)
      have k1 := kov_get (d := s.d1) (k := p.k1) (i := q.2) (by omega)
      have hal := accA_len s p pre
      have hpl := pcl_len (accA s p pre)
      by_cases hov : overN p q = true
      · have hd := of_decide_eq_true hov
        show AYld _ _ _ _ (fun r H' => (r = .bool true ∧ ∃ L, okL H'.length L = true ∧ _ ∧ _ ∧ heapOf (gOf L 0) H' L = allH (accA s p (pre ++ [q])) _) ∨ _)
        rw [accA_snoc_yes hov, allH_snoc]
        generalize accA s p pre = acc at *
        cases acc with
        | nil =>
          (conv => whnf); (repeat' ((first | with_reducible refine Box.mk ?_ | with_reducible refine And.intro (fun _ => ?_) (fun _ => ?_) | ((with_reducible show AYld _ _ _ _ _); refine AYld.of tok mixed ?_) | with_reducible refine (forceH_eq _ _).mpr ?_ | refine ACall.of_pure (by assumption) (by rfl) ?_ | ((with_reducible show Exists _); refine ⟨_, ACall.of_pure (by assumption) (by rfl) ⟨rfl, rfl⟩, ?_⟩) | ((with_reducible show _ ∧ _ ∧ _); refine ⟨by omega, by omega, ?_⟩) | fail) <;> conv => whnf))
          all_goals try (exfalso; omega)
          refine ⟨[(16, [0])], by kernel_rfl, ?_⟩
          (conv => whnf); (repeat' ((first | with_reducible refine Box.mk ?_ | with_reducible refine And.intro (fun _ => ?_) (fun _ => ?_) | ((with_reducible show AYld _ _ _ _ _); refine AYld.of tok mixed ?_) | with_reducible refine (forceH_eq _ _).mpr ?_ | refine ACall.of_pure (by assumption) (by rfl) ?_ | ((with_reducible show Exists _); refine ⟨_, ACall.of_pure (by assumption) (by rfl) ⟨rfl, rfl⟩, ?_⟩) | ((with_reducible show _ ∧ _ ∧ _); refine ⟨by omega, by omega, ?_⟩) | fail) <;> conv => whnf))
          refine ⟨by omega, _, k0, rfl, ?_⟩
          (conv => whnf); (repeat' ((first | with_reducible refine Box.mk ?_ | with_reducible refine And.intro (fun _ => ?_) (fun _ => ?_) | ((with_reducible show AYld _ _ _ _ _); refine AYld.of tok mixed ?_) | with_reducible refine (forceH_eq _ _).mpr ?_ | refine ACall.of_pure (by assumption) (by rfl) ?_ | ((with_reducible show Exists _); refine ⟨_, ACall.of_pure (by assumption) (by rfl) ⟨rfl, rfl⟩, ?_⟩) | ((with_reducible show _ ∧ _ ∧ _); refine ⟨by omega, by omega, ?_⟩) | fail) <;> conv => whnf))
          refine ⟨by omega, _, k1, rfl, ?_⟩
          (conv => whnf); (repeat' ((first | with_reducible refine Box.mk ?_ | with_reducible refine And.intro (fun _ => ?_) (fun _ => ?_) | ((with_reducible show AYld _ _ _ _ _); refine AYld.of tok mixed ?_) | with_reducible refine (forceH_eq _ _).mpr ?_ | refine ACall.of_pure (by assumption) (by rfl) ?_ | ((with_reducible show Exists _); refine ⟨_, ACall.of_pure (by assumption) (by rfl) ⟨rfl, rfl⟩, ?_⟩) | ((with_reducible show _ ∧ _ ∧ _); refine ⟨by omega, by omega, ?_⟩) | fail) <;> conv => whnf))
          (refine And.intro ?_ ?_); (focus ((conv => whnf); (repeat' first | exact trivial | ((refine And.intro ?_ ?_); (focus ((conv => whnf); (first | exact ⟨rfl, rfl⟩ | exact ⟨by decide, by decide, rfl, rfl⟩ | exact ⟨by omega, by omega, rfl, rfl⟩ | exact ⟨by (simp only [List.length_drop, List.length_take]; omega), rfl, rfl⟩ | exact ⟨_, rfl, rfl, rfl⟩ | exact ⟨by omega, _, by assumption, rfl, rfl, rfl⟩ | ((refine ACall.of_pure (by assumption) (by rfl) ?_); (refine And.intro ?_ ?_ <;> rfl))))); (conv => whnf)))))
          (conv => whnf); (repeat' ((first | with_reducible refine Box.mk ?_ | with_reducible refine And.intro (fun _ => ?_) (fun _ => ?_) | ((with_reducible show AYld _ _ _ _ _); refine AYld.of tok mixed ?_) | with_reducible refine (forceH_eq _ _).mpr ?_ | refine ACall.of_pure (by assumption) (by rfl) ?_ | ((with_reducible show Exists _); refine ⟨_, ACall.of_pure (by assumption) (by rfl) ⟨rfl, rfl⟩, ?_⟩) | ((with_reducible show _ ∧ _ ∧ _); refine ⟨by omega, by omega, ?_⟩) | fail) <;> conv => whnf))
          refine ⟨fun c hc => by rw [List.mem_singleton.1 hc]; exact ⟨rfl, rfl⟩, fun h => (by cases h), fun _ => ⟨Nat.le_of_ble_eq_true rfl, Nat.le_of_ble_eq_true rfl, ?_⟩⟩
          (conv => whnf); (repeat' ((first | with_reducible refine Box.mk ?_ | with_reducible refine And.intro (fun _ => ?_) (fun _ => ?_) | ((with_reducible show AYld _ _ _ _ _); refine AYld.of tok mixed ?_) | with_reducible refine (forceH_eq _ _).mpr ?_ | refine ACall.of_pure (by assumption) (by rfl) ?_ | ((with_reducible show Exists _); refine ⟨_, ACall.of_pure (by assumption) (by rfl) ⟨rfl, rfl⟩, ?_⟩) | ((with_reducible show _ ∧ _ ∧ _); refine ⟨by omega, by omega, ?_⟩) | fail) <;> conv => whnf))
          exact .inl ⟨rfl, [(0, true), (1, true), (2, true), (3, true), (4, true), (7, true)], rfl, rfl, rfl, rfl⟩
        | cons x r =>
          (conv => whnf); (repeat' ((first | with_reducible refine Box.mk ?_ | with_reducible refine And.intro (fun _ => ?_) (fun _ => ?_) | ((with_reducible show AYld _ _ _ _ _); refine AYld.of tok mixed ?_) | with_reducible refine (forceH_eq _ _).mpr ?_ | refine ACall.of_pure (by assumption) (by rfl) ?_ | ((with_reducible show Exists _); refine ⟨_, ACall.of_pure (by assumption) (by rfl) ⟨rfl, rfl⟩, ?_⟩) | ((with_reducible show _ ∧ _ ∧ _); refine ⟨by omega, by omega, ?_⟩) | fail) <;> conv => whnf))
          all_goals try (exfalso; omega)
          refine ⟨[(16, [0])], by kernel_rfl, ?_⟩
          (conv => whnf); (repeat' ((first | with_reducible refine Box.mk ?_ | with_reducible refine And.intro (fun _ => ?_) (fun _ => ?_) | ((with_reducible show AYld _ _ _ _ _); refine AYld.of tok mixed ?_) | with_reducible refine (forceH_eq _ _).mpr ?_ | refine ACall.of_pure (by assumption) (by rfl) ?_ | ((with_reducible show Exists _); refine ⟨_, ACall.of_pure (by assumption) (by rfl) ⟨rfl, rfl⟩, ?_⟩) | ((with_reducible show _ ∧ _ ∧ _); refine ⟨by omega, by omega, ?_⟩) | fail) <;> conv => whnf))
          refine ⟨by omega, _, k0, rfl, ?_⟩
          (conv => whnf); (repeat' ((first | with_reducible refine Box.mk ?_ | with_reducible refine And.intro (fun _ => ?_) (fun _ => ?_) | ((with_reducible show AYld _ _ _ _ _); refine AYld.of tok mixed ?_) | with_reducible refine (forceH_eq _ _).mpr ?_ | refine ACall.of_pure (by assumption) (by rfl) ?_ | ((with_reducible show Exists _); refine ⟨_, ACall.of_pure (by assumption) (by rfl) ⟨rfl, rfl⟩, ?_⟩) | ((with_reducible show _ ∧ _ ∧ _); refine ⟨by omega, by omega, ?_⟩) | fail) <;> conv => whnf))
          refine ⟨by omega, _, k1, rfl, ?_⟩
          (conv => whnf); (repeat' ((first | with_reducible refine Box.mk ?_ | with_reducible refine And.intro (fun _ => ?_) (fun _ => ?_) | ((with_reducible show AYld _ _ _ _ _); refine AYld.of tok mixed ?_) | with_reducible refine (forceH_eq _ _).mpr ?_ | refine ACall.of_pure (by assumption) (by rfl) ?_ | ((with_reducible show Exists _); refine ⟨_, ACall.of_pure (by assumption) (by rfl) ⟨rfl, rfl⟩, ?_⟩) | ((with_reducible show _ ∧ _ ∧ _); refine ⟨by omega, by omega, ?_⟩) | fail) <;> conv => whnf))
          (refine And.intro ?_ ?_); (focus ((conv => whnf); (repeat' first | exact trivial | ((refine And.intro ?_ ?_); (focus ((conv => whnf); (first | exact ⟨rfl, rfl⟩ | exact ⟨by decide, by decide, rfl, rfl⟩ | exact ⟨by omega, by omega, rfl, rfl⟩ | exact ⟨by (simp only [List.length_drop, List.length_take]; omega), rfl, rfl⟩ | exact ⟨_, rfl, rfl, rfl⟩ | exact ⟨by omega, _, by assumption, rfl, rfl, rfl⟩ | ((refine ACall.of_pure (by assumption) (by rfl) ?_); (refine And.intro ?_ ?_ <;> rfl))))); (conv => whnf)))))
          (conv => whnf); (repeat' ((first | with_reducible refine Box.mk ?_ | with_reducible refine And.intro (fun _ => ?_) (fun _ => ?_) | ((with_reducible show AYld _ _ _ _ _); refine AYld.of tok mixed ?_) | with_reducible refine (forceH_eq _ _).mpr ?_ | refine ACall.of_pure (by assumption) (by rfl) ?_ | ((with_reducible show Exists _); refine ⟨_, ACall.of_pure (by assumption) (by rfl) ⟨rfl, rfl⟩, ?_⟩) | ((with_reducible show _ ∧ _ ∧ _); refine ⟨by omega, by omega, ?_⟩) | fail) <;> conv => whnf))
          refine ⟨fun c hc => by rw [List.mem_singleton.1 hc]; exact ⟨rfl, rfl⟩, by rw [hpl]; show (_ + 1) * 112 ≤ _; omega, by rw [hpl]; show _ + 1 ≤ _; omega, ?_⟩
          (conv => whnf); (repeat' ((first | with_reducible refine Box.mk ?_ | with_reducible refine And.intro (fun _ => ?_) (fun _ => ?_) | ((with_reducible show AYld _ _ _ _ _); refine AYld.of tok mixed ?_) | with_reducible refine (forceH_eq _ _).mpr ?_ | refine ACall.of_pure (by assumption) (by rfl) ?_ | ((with_reducible show Exists _); refine ⟨_, ACall.of_pure (by assumption) (by rfl) ⟨rfl, rfl⟩, ?_⟩) | ((with_reducible show _ ∧ _ ∧ _); refine ⟨by omega, by omega, ?_⟩) | fail) <;> conv => whnf))
          exact .inl ⟨rfl, [(0, true), (1, true), (2, true), (3, true), (4, true), (8, true)], rfl, rfl, rfl, rfl⟩
      · have hno : overN p q = false := by cases h : overN p q with
          | false => rfl
          | true => exact absurd h hov
        have hd := of_decide_eq_false hno
        show AYld _ _ _ _ (fun r H' => (r = .bool true ∧ ∃ L, okL H'.length L = true ∧ _ ∧ _ ∧ heapOf (gOf L 0) H' L = allH (accA s p (pre ++ [q])) _) ∨ _)
        rw [accA_snoc_no hno]
        generalize accA s p pre = acc at *
        cases acc with
        | nil =>
          (conv => whnf); (repeat' ((first | with_reducible refine Box.mk ?_ | with_reducible refine And.intro (fun _ => ?_) (fun _ => ?_) | ((with_reducible show AYld _ _ _ _ _); refine AYld.of tok mixed ?_) | with_reducible refine (forceH_eq _ _).mpr ?_ | refine ACall.of_pure (by assumption) (by rfl) ?_ | ((with_reducible show Exists _); refine ⟨_, ACall.of_pure (by assumption) (by rfl) ⟨rfl, rfl⟩, ?_⟩) | ((with_reducible show _ ∧ _ ∧ _); refine ⟨by omega, by omega, ?_⟩) | fail) <;> conv => whnf))
          all_goals try (exfalso; omega)
          all_goals exact .inl ⟨rfl, [(0, true), (1, true), (2, true), (3, true), (4, true)], rfl, rfl, rfl, rfl⟩
        | cons x r =>
          (conv => whnf); (repeat' ((first | with_reducible refine Box.mk ?_ | with_reducible refine And.intro (fun _ => ?_) (fun _ => ?_) | ((with_reducible show AYld _ _ _ _ _); refine AYld.of tok mixed ?_) | with_reducible refine (forceH_eq _ _).mpr ?_ | refine ACall.of_pure (by assumption) (by rfl) ?_ | ((with_reducible show Exists _); refine ⟨_, ACall.of_pure (by assumption) (by rfl) ⟨rfl, rfl⟩, ?_⟩) | ((with_reducible show _ ∧ _ ∧ _); refine ⟨by omega, by omega, ?_⟩) | fail) <;> conv => whnf))
          all_goals try (exfalso; omega)
          all_goals exact .inl ⟨rfl, [(0, true), (1, true), (2, true), (3, true), (4, true), (5, true)], rfl, rfl, rfl, rfl⟩
    · show rangeK _ _ _ (allH (accA s p (nodesN (gA s) (gB s))) _)
      generalize accA s p (nodesN (gA s) (gB s)) = acc
      cases acc with
      | nil =>
        (conv => whnf); (repeat' ((first | with_reducible refine Box.mk ?_ | with_reducible refine And.intro (fun _ => ?_) (fun _ => ?_) | ((with_reducible show AYld _ _ _ _ _); refine AYld.of tok mixed ?_) | with_reducible refine (forceH_eq _ _).mpr ?_ | refine ACall.of_pure (by assumption) (by rfl) ?_ | ((with_reducible show Exists _); refine ⟨_, ACall.of_pure (by assumption) (by rfl) ⟨rfl, rfl⟩, ?_⟩) | ((with_reducible show _ ∧ _ ∧ _); refine ⟨by omega, by omega, ?_⟩) | fail) <;> conv => whnf))
        rfl
      | cons x r =>
        (conv => whnf); (repeat' ((first | with_reducible refine Box.mk ?_ | with_reducible refine And.intro (fun _ => ?_) (fun _ => ?_) | ((with_reducible show AYld _ _ _ _ _); refine AYld.of tok mixed ?_) | with_reducible refine (forceH_eq _ _).mpr ?_ | refine ACall.of_pure (by assumption) (by rfl) ?_ | ((with_reducible show Exists _); refine ⟨_, ACall.of_pure (by assumption) (by rfl) ⟨rfl, rfl⟩, ?_⟩) | ((with_reducible show _ ∧ _ ∧ _); refine ⟨by omega, by omega, ?_⟩) | fail) <;> conv => whnf))
        rfl
end Go.Proofs.YtgaohmfmomeflaaGreatDoor
end

section
/- grid: the document's All; equal lists; parents. -/
namespace Go.Proofs.YtgaohmfmomeflaaGreatDoor
open Go.Ve

end Go.Proofs.YtgaohmfmomeflaaGreatDoor
end

section
/- grid: equal lists of prefixes; parents. -/
namespace Go.Proofs.YtgaohmfmomeflaaGreatDoor
open Go.Ve

end Go.Proofs.YtgaohmfmomeflaaGreatDoor
end

section
/- model: what its methods do to its map: Put, Weight, Total, Space. -/
namespace Go.Proofs.YtgaohmfmomeflaaGreatDoor
open Go.Ve

/-! ### a model as objects -/
/-- The entries of a map whose keys were put in this order. -/
def mes (v : Nat → AV) : Nat → Ml → List (List AV × AV × Nat)
  | _, [] => []
  | k, x :: r => (pcs x.1, v x.2, k) :: mes v (k + 1) r
def u64V (w : Nat) : AV := .int .u64 (w : Int)
def i64V (w : Nat) : AV := .int .i64 (w : Int)
def pks : List LK := [.int .i64, .int .i64, .int .i64, .int .i64, .int .u64, .int .u64, .str, .int .i64, .int .i64, .int .u64, .int .u64, .str]
theorem mes_get (v : Nat → AV) : ∀ (l : Ml) (k i : Nat), (mes v k l)[i]? = (l[i]?).map fun x => (pcs x.1, v x.2, k + i)
  | [], _, _ => rfl
  | x :: r, k, 0 => rfl
  | x :: r, k, i + 1 => by
    rw [mes, List.getElem?_cons_succ, List.getElem?_cons_succ, mes_get v r (k + 1) i]
    cases r[i]? with
    | none => rfl
    | some y => simp only [Option.map_some]; rw [Nat.add_assoc, Nat.add_comm 1 i]
theorem mes_snoc (v : Nat → AV) (x : Px × Nat) : ∀ (l : Ml) (k : Nat), mes v k (l ++ [x]) = mes v k l ++ [(pcs x.1, v x.2, k + l.length)]
  | [], _ => rfl
  | y :: r, k => by
    rw [List.cons_append, mes, mes, mes_snoc v x r (k + 1), List.cons_append, List.length_cons, Nat.add_assoc, Nat.add_comm 1 r.length]
theorem pcs_inj {p q : Px} (h : pcs p = pcs q) : p = q := by
  unfold pcs at h
  simp only [List.cons.injEq, AV.int.injEq, AV.str.injEq, true_and, and_true] at h
  exact px_eq.1 h
theorem mes_keys (v : Nat → AV) : ∀ (l : Ml) (k : Nat), (mes v k l).map (·.1) = (keysM l).map pcs
  | [], _ => rfl
  | x :: r, k => by rw [mes, List.map_cons, mes_keys v r (k + 1)]; rfl
theorem mes_stamps (v : Nat → AV) : ∀ (l : Ml) (k : Nat), (mes v k l).map (·.2.2) = List.range' k l.length
  | [], _ => rfl
  | x :: r, k => by rw [mes, List.map_cons, mes_stamps v r (k + 1)]; rfl
theorem mes_ok {v : Nat → AV} {l : Ml} (hn : (keysM l).Nodup) : ((mes v 0 l).map (·.1)).Nodup ∧ ((mes v 0 l).map (·.2.2)).Nodup := by
  rw [mes_keys, mes_stamps]
  refine ⟨?_, List.nodup_range'⟩
  rw [List.Nodup, List.pairwise_map]
  exact hn.imp fun h e => h (pcs_inj e)
theorem mes_at {v : Nat → AV} {l : Ml} {j : Nat} {e : List AV × AV × Nat} (h : (mes v 0 l)[j]? = some e) : ∃ x, l[j]? = some x ∧ e = (pcs x.1, v x.2, j) := by
  rw [mes_get, Option.map_eq_some_iff] at h
  obtain ⟨x, h1, h2⟩ := h
  exact ⟨x, h1, by rw [← h2, Nat.zero_add]⟩
theorem mes_lt {v : Nat → AV} {l : Ml} : ∀ e ∈ mes v 0 l, e.2.2 < l.length := fun e he => by
  obtain ⟨j, hj⟩ := List.getElem?_of_mem he
  obtain ⟨x, h1, rfl⟩ := mes_at hj
  exact (List.getElem?_eq_some_iff.1 h1).1
theorem key_at {l : Ml} (hn : (keysM l).Nodup) {i j : Nat} {x y : Px × Nat} (h1 : l[i]? = some x) (h2 : l[j]? = some y) (h : x.1 = y.1) : i = j :=
  nodup_at hn (x := x.1) (by rw [keysM, List.getElem?_map, h1]; rfl) (by rw [keysM, List.getElem?_map, h2, h]; rfl)
/-- At a key that is there. -/
theorem at_yes {v : Nat → AV} {ks ks' : List LK} {l : Ml} {i : Nat} {x : Px × Nat} {cs : List AV} {Y : Nat → (List AV × AV × Nat) → Prop} {N : Prop} (hk : ks = ks') (hn : (keysM l).Nodup) (hx : l[i]? = some x) (hc : pcs x.1 = cs) (h : Y i (pcs x.1, v x.2, i)) :
    ks = ks' ∧ (∀ (j : Nat) (e : List AV × AV × Nat), (mes v 0 l)[j]? = some e → e.1 = cs → Y j e) ∧ ((∀ e ∈ mes v 0 l, e.1 ≠ cs) → N) := by
  refine ⟨hk, fun j e hj he => ?_, fun hno => ?_⟩
  · obtain ⟨y, h1, rfl⟩ := mes_at hj
    have := key_at hn hx h1 (pcs_inj (hc.trans he.symm))
    subst this
    rw [hx] at h1; cases h1
    exact h
  · refine absurd hc (hno _ (List.mem_of_getElem? (i := i) (by rw [mes_get, hx]; rfl)))
/-- At a key that is not. -/
theorem at_no {v : Nat → AV} {ks ks' : List LK} {l : Ml} {p : Px} {cs : List AV} {Y : Nat → (List AV × AV × Nat) → Prop} {N : Prop} (hk : ks = ks') (hp : p ∉ keysM l) (hc : pcs p = cs) (h : N) :
    ks = ks' ∧ (∀ (j : Nat) (e : List AV × AV × Nat), (mes v 0 l)[j]? = some e → e.1 = cs → Y j e) ∧ ((∀ e ∈ mes v 0 l, e.1 ≠ cs) → N) := by
  refine ⟨hk, fun j e hj he => ?_, fun _ => h⟩
  obtain ⟨y, h1, rfl⟩ := mes_at hj
  exact absurd (List.mem_map.2 ⟨y, List.mem_of_getElem? h1, pcs_inj (he.trans hc.symm)⟩) hp
/-- At a stamp. -/
theorem at_stamp {v : Nat → AV} {l : Ml} {i : Nat} {x : Px × Nat} {n : Int} {Y : Nat → (List AV × AV × Nat) → Prop} (hx : l[i]? = some x) (hi : ((i : Nat) : Int) = n) (h : Y i (pcs x.1, v x.2, i)) :
    (∃ e ∈ mes v 0 l, ((e.2.2 : Nat) : Int) = n) ∧ ∀ (j : Nat) (e : List AV × AV × Nat), (mes v 0 l)[j]? = some e → ((e.2.2 : Nat) : Int) = n → Y j e := by
  have h0 : (mes v 0 l)[i]? = some (pcs x.1, v x.2, i) := by rw [mes_get, hx, Option.map_some, Nat.zero_add]
  refine ⟨⟨_, List.mem_of_getElem? h0, hi⟩, fun j e hj he => ?_⟩
  obtain ⟨y, h1, rfl⟩ := mes_at hj
  have e2 : ((j : Nat) : Int) = n := he
  have : i = j := by omega
  subst this
  rw [hx] at h1; cases h1
  exact h

/-- The same, where the entries are told otherwise. -/
theorem at_yes' {v : Nat → AV} {ks ks' : List LK} {l : Ml} {i : Nat} {x : Px × Nat} {cs : List AV} {es : List (List AV × AV × Nat)} {Y : Nat → (List AV × AV × Nat) → Prop} {N : Prop} (he : mes v 0 l = es) (hk : ks = ks') (hn : (keysM l).Nodup) (hx : l[i]? = some x) (hc : pcs x.1 = cs) (h : Y i (pcs x.1, v x.2, i)) :
    ks = ks' ∧ (∀ (j : Nat) (e : List AV × AV × Nat), es[j]? = some e → e.1 = cs → Y j e) ∧ ((∀ e ∈ es, e.1 ≠ cs) → N) := by subst he; exact at_yes hk hn hx hc h
theorem at_stamp' {v : Nat → AV} {l : Ml} {i : Nat} {x : Px × Nat} {n : Int} {es : List (List AV × AV × Nat)} {Y : Nat → (List AV × AV × Nat) → Prop} (he : mes v 0 l = es) (hx : l[i]? = some x) (hi : ((i : Nat) : Int) = n) (h : Y i (pcs x.1, v x.2, i)) :
    (∃ e ∈ es, ((e.2.2 : Nat) : Int) = n) ∧ ∀ (j : Nat) (e : List AV × AV × Nat), es[j]? = some e → ((e.2.2 : Nat) : Int) = n → Y j e := by subst he; exact at_stamp hx hi h
theorem mes_ok' {v : Nat → AV} {l : Ml} {es : List (List AV × AV × Nat)} (he : mes v 0 l = es) (hn : (keysM l).Nodup) : (es.map (·.1)).Nodup ∧ (es.map (·.2.2)).Nodup := by subst he; exact mes_ok hn
/-- A model: its space, its total, its map. -/
def MH (s : Sp) (l : Ml) : Hp := [.box 94 [.int .i64 s.n, .int .i64 s.d0.kind, .int .i64 s.d0.side, .int .i64 s.d0.step, .int .i64 s.d1.kind, .int .i64 s.d1.side, .int .i64 s.d1.step, .int .u64 (totM l : Int), .own 1], .map pks (mes u64V 0 l) l.length]
def leafR (s : Sp) (p : Px) : Bool := rightP s p && decide (heightP s p ≤ 0)
structure MI (s : Sp) (l : Ml) : Prop where
  sound : soundS s = true
  nodup : (keysM l).Nodup
  tot : totM l ≤ 4611686018427387904
  ok : MOk l
  len : l.length ≤ 65536
  leaf : ∀ p ∈ keysM l, leafR s p = true
theorem MI.nil {s : Sp} (h : soundS s = true) : MI s [] := ⟨h, List.nodup_nil, Nat.zero_le _, fun p hp => (by cases hp), Nat.zero_le _, fun p hp => (by cases hp)⟩
theorem made_ok (s : Sp) (l : Ml) : DCall P 42 [.ptr 0 0] (MH s l) (.bool true) (MH s l) := by
  refine DCall.of_awp tok mixed fn42 (Nat.le_of_ble_eq_true rfl) ?_
  (conv => whnf); (repeat' ((first | (with_reducible first | refine Box.mk ?_ | refine And.intro (fun _ => ?_) (fun _ => ?_) | refine (forceH_eq _ _).mpr ?_) | refine ACall.of_pure (by assumption) (by rfl) ?_ | ((with_reducible show Exists _); refine ⟨_, ACall.of_pure (by assumption) (by rfl) ⟨rfl, rfl⟩, ?_⟩) | ((with_reducible show ∃ L, drawR L _ = true ∧ _); refine ⟨[], by kernel_rfl, ?_⟩) | ((with_reducible show _ ∧ _ ∧ _); refine ⟨by omega, by omega, ?_⟩) | fail) <;> conv => whnf))
  all_goals first
    | contradiction
    | exact weak_to ⟨rfl, trivial⟩ rfl
theorem made_nil : PCall P 42 [.nilp] (.bool false) := by
  refine PCall.of_awp tok mixed fn42 (Nat.le_of_ble_eq_true rfl) ?_
  (conv => whnf); (repeat' ((first | (with_reducible first | refine Box.mk ?_ | refine And.intro (fun _ => ?_) (fun _ => ?_) | refine (forceH_eq _ _).mpr ?_) | refine ACall.of_pure (by assumption) (by rfl) ?_ | ((with_reducible show Exists _); refine ⟨_, ACall.of_pure (by assumption) (by rfl) ⟨rfl, rfl⟩, ?_⟩) | ((with_reducible show ∃ L, drawR L _ = true ∧ _); refine ⟨[], by kernel_rfl, ?_⟩) | ((with_reducible show _ ∧ _ ∧ _); refine ⟨by omega, by omega, ?_⟩) | fail) <;> conv => whnf))
  all_goals first
    | (rename_i h; exact absurd trivial h)
    | rfl
theorem new_ok (s : Sp) (hs : soundS s = true) : DCall P 10 [spv s] [] (.ptr 0 0) (MH s []) := by
  have q1 := sound_ok s
  rw [hs] at q1
  refine DCall.of_awp tok mixed fn10 (Nat.le_of_ble_eq_true rfl) ?_
  (conv => whnf); (repeat' ((first | (with_reducible first | refine Box.mk ?_ | refine And.intro (fun _ => ?_) (fun _ => ?_) | refine (forceH_eq _ _).mpr ?_) | refine ACall.of_pure (by assumption) (by rfl) ?_ | ((with_reducible show Exists _); refine ⟨_, ACall.of_pure (by assumption) (by rfl) ⟨rfl, rfl⟩, ?_⟩) | ((with_reducible show ∃ L, drawR L _ = true ∧ _); refine ⟨[], by kernel_rfl, ?_⟩) | ((with_reducible show _ ∧ _ ∧ _); refine ⟨by omega, by omega, ?_⟩) | fail) <;> conv => whnf))
  exact weak_ren_to [(2, true), (1, true)] rfl rfl rfl ⟨rfl, trivial⟩
theorem new_nil (s : Sp) (hs : soundS s = false) : PCall P 10 [spv s] .nilp := by
  have q1 := sound_ok s
  rw [hs] at q1
  refine PCall.of_awp tok mixed fn10 (Nat.le_of_ble_eq_true rfl) ?_
  (conv => whnf); (repeat' ((first | (with_reducible first | refine Box.mk ?_ | refine And.intro (fun _ => ?_) (fun _ => ?_) | refine (forceH_eq _ _).mpr ?_) | refine ACall.of_pure (by assumption) (by rfl) ?_ | ((with_reducible show Exists _); refine ⟨_, ACall.of_pure (by assumption) (by rfl) ⟨rfl, rfl⟩, ?_⟩) | ((with_reducible show ∃ L, drawR L _ = true ∧ _); refine ⟨[], by kernel_rfl, ?_⟩) | ((with_reducible show _ ∧ _ ∧ _); refine ⟨by omega, by omega, ?_⟩) | fail) <;> conv => whnf))
  rfl
theorem total_ok (s : Sp) (l : Ml) : DCall P 27 [.ptr 0 0] (MH s l) (.int .u64 (totM l : Int)) (MH s l) := by
  have q1 := made_ok s l
  refine DCall.of_awp tok mixed fn27 (Nat.le_of_ble_eq_true rfl) ?_
  (conv => whnf); (repeat' ((first | (with_reducible first | refine Box.mk ?_ | refine And.intro (fun _ => ?_) (fun _ => ?_) | refine (forceH_eq _ _).mpr ?_) | refine ACall.of_pure (by assumption) (by rfl) ?_ | ((with_reducible show Exists _); refine ⟨_, ACall.of_pure (by assumption) (by rfl) ⟨rfl, rfl⟩, ?_⟩) | ((with_reducible show ∃ L, drawR L _ = true ∧ _); refine ⟨[], by kernel_rfl, ?_⟩) | ((with_reducible show _ ∧ _ ∧ _); refine ⟨by omega, by omega, ?_⟩) | fail) <;> conv => whnf))
  refine aW [0, 1] q1 rfl rfl rfl ?_
  (conv => whnf); (repeat' ((first | (with_reducible first | refine Box.mk ?_ | refine And.intro (fun _ => ?_) (fun _ => ?_) | refine (forceH_eq _ _).mpr ?_) | refine ACall.of_pure (by assumption) (by rfl) ?_ | ((with_reducible show Exists _); refine ⟨_, ACall.of_pure (by assumption) (by rfl) ⟨rfl, rfl⟩, ?_⟩) | ((with_reducible show ∃ L, drawR L _ = true ∧ _); refine ⟨[], by kernel_rfl, ?_⟩) | ((with_reducible show _ ∧ _ ∧ _); refine ⟨by omega, by omega, ?_⟩) | fail) <;> conv => whnf))
  exact weak_to ⟨rfl, trivial⟩ rfl
end Go.Proofs.YtgaohmfmomeflaaGreatDoor
end

section
/- model: slices.SortFunc at prefixes, told over the call's own row. -/
namespace Go.Proofs.YtgaohmfmomeflaaGreatDoor
open Go.Ve

instance : Inhabited Px := ⟨zeroP⟩
/-- That no draw is taken back is told. -/
abbrev told : Dr := ⟨⟨True⟩⟩
def encP (p : Px) : List Value := [.int .i64 p.a0, .int .i64 p.a1, .int .i64 p.k0.kind, .int .i64 p.k0.len, .int .u64 ((p.k0.n / H64 : Nat) : Int), .int .u64 ((p.k0.n % H64 : Nat) : Int), .string ⟨p.k0.path.toArray⟩,
  .int .i64 p.k1.kind, .int .i64 p.k1.len, .int .u64 ((p.k1.n / H64 : Nat) : Int), .int .u64 ((p.k1.n % H64 : Nat) : Int), .string ⟨p.k1.path.toArray⟩]
theorem encP_len (p : Px) : (encP p).length = 12 := rfl
theorem encP_one (p : Px) : ∀ v ∈ encP p, v.oneCell' = true := by
  intro v hv
  simp only [encP, List.mem_cons, List.not_mem_nil, or_false] at hv
  rcases hv with rfl | rfl | rfl | rfl | rfl | rfl | rfl | rfl | rfl | rfl | rfl | rfl <;> rfl
theorem enc_rv {K : Addr → Value → Prop} {σ : List Value} (p : Px) : ∀ (j : Nat) (x : AV), (pcs p)[j]? = some x → Rv K σ x ((encP p)[j]!)
  | 0, _, h | 1, _, h | 2, _, h | 3, _, h | 4, _, h | 5, _, h | 7, _, h | 8, _, h | 9, _, h | 10, _, h => by
    simp only [pcs, List.getElem?_cons_zero, List.getElem?_cons_succ, Option.some.injEq] at h
    subst h; exact .int _ _ _
  | 6, _, h | 11, _, h => by
    simp only [pcs, List.getElem?_cons_zero, List.getElem?_cons_succ, Option.some.injEq] at h
    subst h; exact .str _ _
  | j + 12, _, h => by simp [pcs] at h
theorem rv_enc {K : Addr → Value → Prop} {σ : List Value} (p : Px) : ∀ (j : Nat) (x : AV) (v : Value), (pcs p)[j]? = some x → Rv K σ x v → v = (encP p)[j]!
  | 0, _, _, h, k | 1, _, _, h, k | 2, _, _, h, k | 3, _, _, h, k | 4, _, _, h, k | 5, _, _, h, k | 7, _, _, h, k | 8, _, _, h, k | 9, _, _, h, k | 10, _, _, h, k => by
    simp only [pcs, List.getElem?_cons_zero, List.getElem?_cons_succ, Option.some.injEq] at h
    subst h; rw [k.int_inv]; rfl
  | 6, _, _, h, k | 11, _, _, h, k => by
    simp only [pcs, List.getElem?_cons_zero, List.getElem?_cons_succ, Option.some.injEq] at h
    subst h; rw [k.str_inv]; rfl
  | j + 12, _, _, h, _ => by simp [pcs] at h
theorem agg_enc {K : Addr → Value → Prop} {σ : List Value} (p : Px) : Rv K σ (pxv p) (.agg (encP p).toArray) := by
  refine .agg _ _ _ rfl rfl fun j x hx => ?_
  have hj : j < 12 := (List.getElem?_eq_some_iff.1 hx).1
  have := enc_rv (K := K) (σ := σ) p j x hx
  have e : (encP p).toArray.getD j undef = (encP p)[j]! := by
    have h1 : j < (encP p).length := hj
    rw [Array.getD_eq_getD_getElem?, List.getElem?_toArray, List.getElem?_eq_getElem h1, getElem!_pos (encP p) j h1]; rfl
  rw [e]; exact this

/-- A comparison's contract, in the sort's worlds. -/
theorem cmp_lays {c : Px → Px → Int} {g : FuncId} (hc : ∀ x y, @PCall told P g [pxv x, pxv y] (.int .i64 (c x y))) {w : World} {blk off size : Nat} (hblk : blk < w.heap.size) (hg : ∀ b, gblk = some b → b ≠ blk ∧ ∃ m, w.cell? ⟨b, 0, none⟩ = some (.int .i64 m)) :
    CmpLays P g #[] encP 12 c blk off size w := by
  intro m os dk hs x y
  have h := hc x y
  unfold PCall at h
  have hsz : (sortWorldK encP 12 w blk off m dk os).heap.size = w.heap.size + os.size := by
    unfold sortWorldK Go.Sort.putRowK
    rw [Go.Sort.size_grow, Go.Sort.size_putRow]; rfl
  have hcall := h.2 (fun b => b = blk) (sortWorldK encP 12 w blk off m dk os) [.agg (encP x).toArray, .agg (encP y).toArray] (fun b hb => by rw [hsz]; rw [show b = blk from hb]; omega) (fun b hb => by
    obtain ⟨h1, k, hk⟩ := hg b hb
    refine ⟨k, fun e => h1 e, ?_⟩
    unfold sortWorldK Go.Sort.putRowK
    rw [Go.Sort.cell?_grow _ _ _ (by rw [Go.Sort.size_putRow]; exact World.block_lt_of_cell? w _ hk), Go.Sort.cell?_putRow_other _ _ _ _ _ _ (.inl h1)]
    exact hk) ⟨rfl, fun i a ha => by
      match i with
      | 0 => simp only [List.getElem?_cons_zero, Option.some.injEq] at ha; subst ha; exact agg_enc x
      | 1 => simp only [List.getElem?_cons_succ, List.getElem?_cons_zero, Option.some.injEq] at ha; subst ha; exact agg_enc y
      | i + 2 => simp at ha⟩
  have eargs : (#[Value.agg (encP x).toArray, .agg (encP y).toArray] ++ #[] : Array Value) = [Value.agg (encP x).toArray, .agg (encP y).toArray].toArray := Array.append_empty
  rw [eargs]
  refine Calls.mono hcall ?_
  rintro e w' ⟨v, rfl, hb, hv⟩
  have hvi : v = .int .i64 (c x y) := Rv.int_inv hv
  refine ⟨congrArg Ending.returned hvi, ?_⟩
  have hd := @Tp.d told _ _ (@Below.tape told _ _ _ hb) True.intro
  obtain ⟨p, hp⟩ := regrown_of_below (@Below.base told _ _ _ hb)
  have hpd : w'.drawn = p.d := by rw [hp]; rfl
  refine ⟨p.d - (sortWorldK encP 12 w blk off m dk os).drawn, p.os, ?_⟩
  rw [hp]
  unfold redrawn World.drewN
  congr 2
  omega
theorem srt_unique {c : Px → Px → Int} (hT : TO c) (h0 : ∀ x y, c x y = 0 → x = y) {d d' : Array Px} (h1 : Go.Sort.PermIn 0 d.size d d') (h2 : Go.Sort.SortedIn (ltOf c) 0 d.size d') : d'.toList = srt c d.toList := by
  have hS : Go.Sort.SWO (ltOf c) := ⟨fun x => by unfold ltOf; rw [hT.self]; rfl, fun x y z h1 h2 => by
      unfold ltOf at *
      exact decide_eq_true (hT.strict (of_decide_eq_true h1) (by have := of_decide_eq_true h2; omega)), fun x y z h1 h2 => by
      unfold ltOf at *
      have k1 := of_decide_eq_false h1
      have k2 := of_decide_eq_false h2
      refine decide_eq_false fun hx => ?_
      have n1 := hT.neg x y
      have n2 := hT.neg y z
      have n3 := hT.neg x z
      have := hT.tr z y x (by omega) (by omega)
      omega⟩
  have := Go.Sort.sorted_unique_holds hS (fun x y k1 k2 => h0 x y (by
    unfold ltOf at k1 k2
    have k1 := of_decide_eq_false k1
    have k2 := of_decide_eq_false k2
    have := hT.neg x y
    omega)) d d' h1 h2
  rw [this]
  unfold srt
  congr 1
  funext x y
  unfold ltOf
  have := hT.neg x y
  by_cases h : c x y ≤ 0
  · rw [decide_eq_true h, decide_eq_false (by omega)]; rfl
  · rw [decide_eq_false h, decide_eq_true (by omega)]; rfl
/-- The sort, over a row of the call's own. -/
theorem sortF_own {c : Px → Px → Int} {g : FuncId} (hc : ∀ x y, @PCall told P g [pxv x, pxv y] (.int .i64 (c x y))) (hT : TO c) (h0 : ∀ x y, c x y = 0 → x = y) (l : List Px) (hl : l.length < 4611686018427387904) (hne : l ≠ []) :
    DCall P 82 [.own 0, .fn g []] [.row 34 12 (pcl l)] (.tup []) [.row 34 12 (pcl (srt c l))] := by
  have hC := hc zeroP zeroP
  unfold PCall at hC
  show ACall _ _ _ _ _
  unfold ACall
  refine ⟨fn82.callable, fun M0 σ w vs hs hv => ?_⟩
  obtain ⟨hvl, hv⟩ := hv
  obtain ⟨v0, v1, rfl⟩ : ∃ v0 v1, vs = [v0, v1] := by
    match vs, hvl with
    | [a, b], _ => exact ⟨a, b, rfl⟩
  have r0 : σ[0]? = some v0 := (hv 0 _ rfl).own_inv
  obtain ⟨fs, e1, f1, _⟩ := (hv 1 _ rfl).fn_inv
  have e1 : v1 = .func (.func g) #[] fs := e1
  have ef : fs = #[] := Array.eq_empty_of_size_eq_zero f1
  subst ef
  subst e1
  obtain ⟨_, hr⟩ := hs.ok 0 _ v0 rfl r0
  rcases hr with ⟨e, _⟩ | ⟨gb, cap, cur, rfl, hg, k1, k2, k3, k4⟩
  · exact absurd (by simpa [pcl] using e) hne
  have hlt : gb < w.heap.size := (Array.getElem?_eq_some_iff.1 hg).1
  have hmb : Mb [Ob.row 34 12 (pcl l)] σ gb := ⟨0, _, _, rfl, rfl, r0, rfl⟩
  rw [pcl_len] at k1
  have hcur : ∀ i x j, l[i]? = some x → j < 12 → cur[i * 12 + j]? = some ((encP x)[j]!) := fun i x j hx hj => by
    have hi := (List.getElem?_eq_some_iff.1 hx).1
    obtain ⟨_, _, h3⟩ := k4 i (pcs x) (by rw [pcl_get, hx]; rfl)
    have hj2 : j < (pcs x).length := hj
    have := rv_enc x j _ _ (List.getElem?_eq_getElem hj2) (h3 j _ (List.getElem?_eq_getElem hj2))
    have hb : i * 12 + j < cur.size := by omega
    rw [Array.getElem?_eq_getElem hb]
    rw [Array.getD_eq_getD_getElem?, Array.getElem?_eq_getElem hb] at this
    exact congrArg some this
  have hH : Go.Sort.HoldsK encP 12 w gb 0 l.toArray := by
    intro t ht
    rw [Go.Sort.size_flatK, List.size_toArray] at ht
    have hq : t / 12 < l.length := by omega
    refine ⟨?_, ?_⟩
    · rw [Go.Sort.get_flatK _ _ _ _ (by simpa using ht)]
      have e2 := hcur (t / 12) l[t / 12] (t % 12) (List.getElem?_eq_getElem hq) (Nat.mod_lt _ (by decide))
      rw [show t / 12 * 12 + t % 12 = t by omega] at e2
      rw [show (0 : Nat) + t = t by omega]
      unfold World.cell?
      rw [hg]
      show cur[t]? = _
      rw [e2, getElem!_pos l.toArray (t / 12) (by simpa using hq)]
      rfl
    · unfold World.frozen?
      rw [hg]
      simp
  have hcm := cmp_lays hc (w := w) (blk := gb) (off := 0) (size := l.toArray.size) hlt (fun b hb => by
    obtain ⟨m, h1, h2⟩ := hs.glob b hb
    exact ⟨fun e => h1 (.inr (by rw [show b = gb from e]; exact hmb)), m, h2⟩)
  have hS : Go.Sort.SWO (ltOf c) := ⟨fun x => by unfold ltOf; rw [hT.self]; rfl, fun x y z h1 h2 => by
      unfold ltOf at *
      exact decide_eq_true (hT.strict (of_decide_eq_true h1) (by have := of_decide_eq_true h2; omega)), fun x y z h1 h2 => by
      unfold ltOf at *
      have k1 := of_decide_eq_false h1
      have k2 := of_decide_eq_false h2
      refine decide_eq_false fun hx => ?_
      have n1 := hT.neg x y
      have n2 := hT.neg y z
      have n3 := hT.neg x z
      have := hT.tr z y x (by omega) (by omega)
      omega⟩
  have hcon := AnyQ.slices_SortFunc Tryz.sortP 12 Tryz.isAgg34 Tryz.sizeOf34 encP encP_len encP_one c hS g #[] gb 0 cap l.toArray w hC.1 hcm hH hlt (by simpa using hl)
  rw [List.size_toArray] at hcon
  have elen : (pcl l).length = l.length := pcl_len l
  rw [elen] at r0 ⊢
  refine Calls.mono hcon ?_
  rintro e w' ⟨rfl, d', n, os, hp, hso, rfl⟩
  have hd' := srt_unique hT h0 (d := l.toArray) (by simpa using hp) (by simpa using hso)
  have hd'' : d'.toList = srt c l := hd'
  have hdl : d'.size = l.length := by rw [← Array.length_toList, hd'', srt_len]
  obtain ⟨s1, x1⟩ := hs.write (w' := Go.Sort.putRowK encP 12 (Go.Sort.ahead w n) gb 0 d') (b := gb) (id := 0) rfl (by rw [r0]) rfl rfl (o' := .row 34 12 (pcl (srt c l)))
    rfl ⟨rfl, fun _ => Nat.le_add_right _ _⟩ rfl (by rw [Go.Sort.putRowK, Go.Sort.size_putRow]; rfl) (fun b hb => by
      unfold Go.Sort.putRowK Go.Sort.putRow Go.Sort.mapBlock
      simp [Array.getElem?_modify, Ne.symm hb]) (fun hx => by
      refine ⟨by decide, .inr ⟨gb, cap, Go.Sort.putCells id 0 (Go.Sort.flatK encP 12 d') cur, by rw [pcl_len, srt_len], ?_, by rw [pcl_len, srt_len]; exact k1, k2, ?_, fun i cs hcs => ?_⟩⟩
      · unfold Go.Sort.putRowK Go.Sort.putRow Go.Sort.mapBlock
        simp [Array.getElem?_modify, hg, Go.Sort.onCells]
      · unfold Go.Sort.putCells; rw [Array.size_mapIdx]; exact k3
      · rw [pcl_get, Option.map_eq_some_iff] at hcs
        obtain ⟨x, hx, rfl⟩ := hcs
        refine ⟨rfl, rfl, fun j y hy => ?_⟩
        have hi : i < l.length := by rw [← srt_len (c := c)]; exact (List.getElem?_eq_some_iff.1 hx).1
        have hj : j < 12 := (List.getElem?_eq_some_iff.1 hy).1
        have hdx : d'[i]! = x := by
          have : d'.toList[i]? = some x := by rw [hd'']; exact hx
          rw [Array.getElem?_toList] at this
          rw [getElem!_pos d' i (by omega)]
          rw [Array.getElem?_eq_getElem (by omega)] at this
          exact Option.some.inj this
        have e3 : (Go.Sort.putCells id 0 (Go.Sort.flatK encP 12 d') cur).getD (i * 12 + j) undef = (encP x)[j]! := by
          rw [Array.getD_eq_getD_getElem?]
          unfold Go.Sort.putCells
          rw [Array.getElem?_mapIdx, Array.getElem?_eq_getElem (show i * 12 + j < cur.size by omega), Option.map_some, if_pos ⟨Nat.zero_le _, by rw [Go.Sort.size_flatK]; omega⟩, Option.getD_some]
          show (Go.Sort.flatK encP 12 d')[i * 12 + j - 0]! = _
          rw [Nat.sub_zero, Go.Sort.get_flatK _ _ _ _ (by omega), show (i * 12 + j) / 12 = i by omega, show (i * 12 + j) % 12 = j by omega, hdx]
        rw [e3]
        exact enc_rv x j y hy)
  have hB : Below (Go.Sort.putRowK encP 12 (Go.Sort.ahead w n) gb 0 d').heap.size (Go.Sort.putRowK encP 12 (Go.Sort.ahead w n) gb 0 d') (sortWorldK encP 12 w gb 0 n d' os) :=
    ⟨rfl, ⟨rfl, fun _ => Nat.le_refl _⟩, rfl, by unfold sortWorldK; rw [Go.Sort.size_grow]; omega, fun k hk => by unfold sortWorldK; exact Go.Sort.heap_grow_old _ _ hk⟩
  refine ⟨_, .tup [], _, σ, rfl, s1.below hB, x1.trans (Ext.of_below hB), .tup _ _ _ rfl fun j y hy => by simp at hy, rfl, rfl⟩
end Go.Proofs.YtgaohmfmomeflaaGreatDoor
end

section
/- model: Space, Put, Weight. -/
namespace Go.Proofs.YtgaohmfmomeflaaGreatDoor
open Go.Ve

theorem space_ok (s : Sp) (l : Ml) : DCall P 41 [.ptr 0 0] (MH s l) (spv s) (MH s l) := by
  have q1 := made_ok s l
  refine DCall.of_awp tok mixed fn41 (Nat.le_of_ble_eq_true rfl) ?_
  (conv => whnf); (repeat' ((first | (with_reducible first | refine Box.mk ?_ | refine And.intro (fun _ => ?_) (fun _ => ?_) | refine (forceH_eq _ _).mpr ?_) | refine ACall.of_pure (by assumption) (by rfl) ?_ | ((with_reducible show Exists _); refine ⟨_, ACall.of_pure (by assumption) (by rfl) ⟨rfl, rfl⟩, ?_⟩) | ((with_reducible show ∃ L, drawR L _ = true ∧ _); refine ⟨[], by kernel_rfl, ?_⟩) | ((with_reducible show _ ∧ _ ∧ _); refine ⟨by omega, by omega, ?_⟩) | fail) <;> conv => whnf))
  refine aW [0, 1] q1 rfl rfl rfl ?_
  (conv => whnf); (repeat' ((first | (with_reducible first | refine Box.mk ?_ | refine And.intro (fun _ => ?_) (fun _ => ?_) | refine (forceH_eq _ _).mpr ?_) | refine ACall.of_pure (by assumption) (by rfl) ?_ | ((with_reducible show Exists _); refine ⟨_, ACall.of_pure (by assumption) (by rfl) ⟨rfl, rfl⟩, ?_⟩) | ((with_reducible show ∃ L, drawR L _ = true ∧ _); refine ⟨[], by kernel_rfl, ?_⟩) | ((with_reducible show _ ∧ _ ∧ _); refine ⟨by omega, by omega, ?_⟩) | fail) <;> conv => whnf))
  exact weak_ren_to [(0, true), (1, true)] rfl rfl rfl ⟨rfl, trivial⟩
def zeroS : Sp := ⟨0, zeroD, zeroD⟩
theorem space_nil : PCall P 41 [.nilp] (spv zeroS) := by
  have q1 := made_nil
  refine PCall.of_awp tok mixed fn41 (Nat.le_of_ble_eq_true rfl) ?_
  (conv => whnf); (repeat' ((first | (with_reducible first | refine Box.mk ?_ | refine And.intro (fun _ => ?_) (fun _ => ?_) | refine (forceH_eq _ _).mpr ?_) | refine ACall.of_pure (by assumption) (by rfl) ?_ | ((with_reducible show Exists _); refine ⟨_, ACall.of_pure (by assumption) (by rfl) ⟨rfl, rfl⟩, ?_⟩) | ((with_reducible show ∃ L, drawR L _ = true ∧ _); refine ⟨[], by kernel_rfl, ?_⟩) | ((with_reducible show _ ∧ _ ∧ _); refine ⟨by omega, by omega, ?_⟩) | fail) <;> conv => whnf))
  rfl
def putE (s : Sp) (l : Ml) (p : Px) (w : Nat) : Int := bif leafR s p then (if 4611686018427387904 - totM l < w then 13 else 0) else 1
def putM (s : Sp) (l : Ml) (p : Px) (w : Nat) : Ml := if putE s l p w = 0 then addM l p w else l
theorem put_nil (p : Px) (w : Nat) : PCall P 14 [.nilp, pxv p, .int .u64 (w : Int)] (.int .i64 6) := by
  have q1 := made_nil
  refine PCall.of_awp tok mixed fn14 (Nat.le_of_ble_eq_true rfl) ?_
  (conv => whnf); (repeat' ((first | (with_reducible first | refine Box.mk ?_ | refine And.intro (fun _ => ?_) (fun _ => ?_) | refine (forceH_eq _ _).mpr ?_) | refine ACall.of_pure (by assumption) (by rfl) ?_ | ((with_reducible show Exists _); refine ⟨_, ACall.of_pure (by assumption) (by rfl) ⟨rfl, rfl⟩, ?_⟩) | ((with_reducible show ∃ L, drawR L _ = true ∧ _); refine ⟨[], by kernel_rfl, ?_⟩) | ((with_reducible show _ ∧ _ ∧ _); refine ⟨by omega, by omega, ?_⟩) | fail) <;> conv => whnf))
  rfl
theorem look_le {l : Ml} (p : Px) : look l p ≤ totM l := by
  by_cases h : p ∈ keysM l
  · induction l with
    | nil => exact Nat.zero_le _
    | cons x l ih =>
      rw [look, totM, sumF_cons, cond_true]
      split
      · omega
      · rename_i hne
        rcases List.mem_cons.1 (show p ∈ x.1 :: keysM l from h) with e | e
        · exact absurd e.symm hne
        · have : look l p ≤ sumF (fun _ => true) l := ih e
          omega
  · rw [look_none h]; exact Nat.zero_le _
/-- What a map holds where a weight is put at a key that is there. -/
theorem addM_set {v : Nat → AV} : ∀ {l : Ml} {i k : Nat} {x : Px × Nat} (w : Nat), (keysM l).Nodup → l[i]? = some x → (mes v k l).set i (pcs x.1, v (x.2 + w), k + i) = mes v k (addM l x.1 w)
  | [], _, _, _, _, _, h => by simp at h
  | y :: l, 0, k, x, w, _, h => by
    simp only [List.getElem?_cons_zero, Option.some.injEq] at h
    subst h
    rw [addM, if_pos rfl]; rfl
  | y :: l, i + 1, k, x, w, hn, h => by
    rw [List.getElem?_cons_succ] at h
    have hn' := List.nodup_cons.1 (show (y.1 :: keysM l).Nodup from hn)
    rw [addM, if_neg (fun e => hn'.1 (by rw [e]; exact List.mem_map.2 ⟨x, List.mem_of_getElem? h, rfl⟩)), mes, mes, List.set_cons_succ, show k + (i + 1) = k + 1 + i by omega, addM_set w hn'.2 h]
theorem addM_new {l : Ml} {p : Px} (w : Nat) (h : p ∉ keysM l) : addM l p w = l ++ [(p, w)] := by
  induction l with
  | nil => rfl
  | cons x l ih =>
    have h : p ∉ x.1 :: keysM l := h
    rw [List.mem_cons, not_or] at h
    rw [addM, if_neg (fun e => h.1 e.symm), ih h.2]; rfl
theorem addM_len_in {l : Ml} {p : Px} (w : Nat) (h : p ∈ keysM l) : (addM l p w).length = l.length := by
  have := keys_addM p w l
  rw [if_pos h] at this
  have e := congrArg List.length this
  unfold keysM at e
  simpa using e
theorem tot_addM (l : Ml) (p : Px) (w : Nat) : totM (addM l p w) = totM l + w := sumF_addM _ p w l
theorem put_bad (s : Sp) (l : Ml) (p : Px) (hp : POk p) (w : Nat) (hr : leafR s p = false) : DCall P 14 [.ptr 0 0, pxv p, .int .u64 (w : Int)] (MH s l) (.int .i64 1) (MH s l) := by
  have q1 := made_ok s l
  have q2 := pRight_ok s p hp
  have q3 := height_ok s p hp
  unfold leafR at hr
  generalize rightP s p = r at *
  generalize heightP s p = h at *
  cases r
  · refine DCall.of_awp tok mixed fn14 (Nat.le_of_ble_eq_true rfl) ?_
    (conv => whnf); (repeat' ((first | (with_reducible first | refine Box.mk ?_ | refine And.intro (fun _ => ?_) (fun _ => ?_) | refine (forceH_eq _ _).mpr ?_) | refine ACall.of_pure (by assumption) (by rfl) ?_ | ((with_reducible show Exists _); refine ⟨_, ACall.of_pure (by assumption) (by rfl) ⟨rfl, rfl⟩, ?_⟩) | ((with_reducible show ∃ L, drawR L _ = true ∧ _); refine ⟨[], by kernel_rfl, ?_⟩) | ((with_reducible show _ ∧ _ ∧ _); refine ⟨by omega, by omega, ?_⟩) | fail) <;> conv => whnf))
    refine aW [0, 1] q1 rfl rfl rfl ?_
    (conv => whnf); (repeat' ((first | (with_reducible first | refine Box.mk ?_ | refine And.intro (fun _ => ?_) (fun _ => ?_) | refine (forceH_eq _ _).mpr ?_) | refine ACall.of_pure (by assumption) (by rfl) ?_ | ((with_reducible show Exists _); refine ⟨_, ACall.of_pure (by assumption) (by rfl) ⟨rfl, rfl⟩, ?_⟩) | ((with_reducible show ∃ L, drawR L _ = true ∧ _); refine ⟨[], by kernel_rfl, ?_⟩) | ((with_reducible show _ ∧ _ ∧ _); refine ⟨by omega, by omega, ?_⟩) | fail) <;> conv => whnf))
    exact weak_ren_to [(0, true), (1, true)] rfl rfl rfl ⟨rfl, trivial⟩
  · have hh : 0 < h := by
      have := of_decide_eq_false (show decide (h ≤ 0) = false from hr)
      omega
    refine DCall.of_awp tok mixed fn14 (Nat.le_of_ble_eq_true rfl) ?_
    (conv => whnf); (repeat' ((first | (with_reducible first | refine Box.mk ?_ | refine And.intro (fun _ => ?_) (fun _ => ?_) | refine (forceH_eq _ _).mpr ?_) | refine ACall.of_pure (by assumption) (by rfl) ?_ | ((with_reducible show Exists _); refine ⟨_, ACall.of_pure (by assumption) (by rfl) ⟨rfl, rfl⟩, ?_⟩) | ((with_reducible show _ ∧ _ ∧ _); refine ⟨by omega, by omega, ?_⟩) | fail) <;> conv => whnf))
    refine aW [0, 1] q1 rfl rfl rfl ?_
    (conv => whnf); (repeat' ((first | (with_reducible first | refine Box.mk ?_ | refine And.intro (fun _ => ?_) (fun _ => ?_) | refine (forceH_eq _ _).mpr ?_) | refine ACall.of_pure (by assumption) (by rfl) ?_ | ((with_reducible show Exists _); refine ⟨_, ACall.of_pure (by assumption) (by rfl) ⟨rfl, rfl⟩, ?_⟩) | ((with_reducible show _ ∧ _ ∧ _); refine ⟨by omega, by omega, ?_⟩) | fail) <;> conv => whnf))
    refine ⟨[], by kernel_rfl, ?_⟩
    (conv => whnf); (repeat' ((first | (with_reducible first | refine Box.mk ?_ | refine And.intro (fun _ => ?_) (fun _ => ?_) | refine (forceH_eq _ _).mpr ?_) | refine ACall.of_pure (by assumption) (by rfl) ?_ | ((with_reducible show Exists _); refine ⟨_, ACall.of_pure (by assumption) (by rfl) ⟨rfl, rfl⟩, ?_⟩) | ((with_reducible show _ ∧ _ ∧ _); refine ⟨by omega, by omega, ?_⟩) | fail) <;> conv => whnf))
    all_goals first
      | (exfalso; omega)
      | exact weak_ren_to [(0, true), (1, true)] rfl rfl rfl ⟨rfl, trivial⟩
theorem put_over (s : Sp) (l : Ml) (p : Px) (hp : POk p) (w : Nat) (ht : totM l ≤ 4611686018427387904) (hr : leafR s p = true) (ho : 4611686018427387904 - totM l < w) :
    DCall P 14 [.ptr 0 0, pxv p, .int .u64 (w : Int)] (MH s l) (.int .i64 13) (MH s l) := by
  have q1 := made_ok s l
  have q2 := pRight_ok s p hp
  have q3 := height_ok s p hp
  have e1 : IntKind.u64.wrap (4611686018427387904 - (totM l : Int)) = ((4611686018427387904 - totM l : Nat) : Int) := by rw [wrap_u64 (by omega) (by omega)]; omega
  unfold leafR at hr
  rw [Bool.and_eq_true] at hr
  have hh := of_decide_eq_true hr.2
  rw [hr.1] at q2
  generalize heightP s p = h at *
  refine DCall.of_awp tok mixed fn14 (Nat.le_of_ble_eq_true rfl) ?_
  (conv => whnf); (repeat' ((first | (with_reducible first | refine Box.mk ?_ | refine And.intro (fun _ => ?_) (fun _ => ?_) | refine (forceH_eq _ _).mpr ?_) | refine ACall.of_pure (by assumption) (by rfl) ?_ | ((with_reducible show Exists _); refine ⟨_, ACall.of_pure (by assumption) (by rfl) ⟨rfl, rfl⟩, ?_⟩) | ((with_reducible show _ ∧ _ ∧ _); refine ⟨by omega, by omega, ?_⟩) | fail) <;> conv => whnf))
  refine aW [0, 1] q1 rfl rfl rfl ?_
  (conv => whnf); (repeat' ((first | (with_reducible first | refine Box.mk ?_ | refine And.intro (fun _ => ?_) (fun _ => ?_) | refine (forceH_eq _ _).mpr ?_) | refine ACall.of_pure (by assumption) (by rfl) ?_ | ((with_reducible show Exists _); refine ⟨_, ACall.of_pure (by assumption) (by rfl) ⟨rfl, rfl⟩, ?_⟩) | ((with_reducible show _ ∧ _ ∧ _); refine ⟨by omega, by omega, ?_⟩) | fail) <;> conv => whnf))
  refine ⟨[], by kernel_rfl, ?_⟩
  (conv => whnf); (repeat' ((first | (with_reducible first | refine Box.mk ?_ | refine And.intro (fun _ => ?_) (fun _ => ?_) | refine (forceH_eq _ _).mpr ?_) | refine ACall.of_pure (by assumption) (by rfl) ?_ | ((with_reducible show Exists _); refine ⟨_, ACall.of_pure (by assumption) (by rfl) ⟨rfl, rfl⟩, ?_⟩) | ((with_reducible show _ ∧ _ ∧ _); refine ⟨by omega, by omega, ?_⟩) | fail) <;> conv => whnf))
  all_goals first
    | (exfalso; omega)
    | exact weak_ren_to [(0, true), (1, true)] rfl rfl rfl ⟨rfl, trivial⟩
theorem put_good (s : Sp) (l : Ml) (hn : (keysM l).Nodup) (p : Px) (hp : POk p) (w : Nat) (ht : totM l ≤ 4611686018427387904) (hr : leafR s p = true) (ho : w ≤ 4611686018427387904 - totM l) :
    DCall P 14 [.ptr 0 0, pxv p, .int .u64 (w : Int)] (MH s l) (.int .i64 0) (MH s (addM l p w)) := by
  have q1 := made_ok s l
  have q2 := pRight_ok s p hp
  have q3 := height_ok s p hp
  have hlk := look_le (l := l) p
  have e1 : IntKind.u64.wrap (4611686018427387904 - (totM l : Int)) = ((4611686018427387904 - totM l : Nat) : Int) := by rw [wrap_u64 (by omega) (by omega)]; omega
  have e2 : IntKind.u64.wrap ((totM l : Int) + (w : Int)) = ((totM (addM l p w) : Nat) : Int) := by rw [wrap_u64 (by omega) (by omega), tot_addM]; omega
  unfold leafR at hr
  rw [Bool.and_eq_true] at hr
  have hh := of_decide_eq_true hr.2
  rw [hr.1] at q2
  generalize heightP s p = h at *
  refine DCall.of_awp tok mixed fn14 (Nat.le_of_ble_eq_true rfl) ?_
  (conv => whnf); (repeat' ((first | (with_reducible first | refine Box.mk ?_ | refine And.intro (fun _ => ?_) (fun _ => ?_) | refine (forceH_eq _ _).mpr ?_) | refine ACall.of_pure (by assumption) (by rfl) ?_ | ((with_reducible show Exists _); refine ⟨_, ACall.of_pure (by assumption) (by rfl) ⟨rfl, rfl⟩, ?_⟩) | ((with_reducible show _ ∧ _ ∧ _); refine ⟨by omega, by omega, ?_⟩) | fail) <;> conv => whnf))
  refine aW [0, 1] q1 rfl rfl rfl ?_
  (conv => whnf); (repeat' ((first | (with_reducible first | refine Box.mk ?_ | refine And.intro (fun _ => ?_) (fun _ => ?_) | refine (forceH_eq _ _).mpr ?_) | refine ACall.of_pure (by assumption) (by rfl) ?_ | ((with_reducible show Exists _); refine ⟨_, ACall.of_pure (by assumption) (by rfl) ⟨rfl, rfl⟩, ?_⟩) | ((with_reducible show _ ∧ _ ∧ _); refine ⟨by omega, by omega, ?_⟩) | fail) <;> conv => whnf))
  refine ⟨[], by kernel_rfl, ?_⟩
  (conv => whnf); (repeat' ((first | (with_reducible first | refine Box.mk ?_ | refine And.intro (fun _ => ?_) (fun _ => ?_) | refine (forceH_eq _ _).mpr ?_) | refine ACall.of_pure (by assumption) (by rfl) ?_ | ((with_reducible show Exists _); refine ⟨_, ACall.of_pure (by assumption) (by rfl) ⟨rfl, rfl⟩, ?_⟩) | ((with_reducible show _ ∧ _ ∧ _); refine ⟨by omega, by omega, ?_⟩) | fail) <;> conv => whnf))
  all_goals try (exfalso; omega)
  refine ⟨[(8, [5])], by kernel_rfl, ?_⟩
  (conv => whnf); (repeat' ((first | (with_reducible first | refine Box.mk ?_ | refine And.intro (fun _ => ?_) (fun _ => ?_) | refine (forceH_eq _ _).mpr ?_) | refine ACall.of_pure (by assumption) (by rfl) ?_ | ((with_reducible show Exists _); refine ⟨_, ACall.of_pure (by assumption) (by rfl) ⟨rfl, rfl⟩, ?_⟩) | ((with_reducible show _ ∧ _ ∧ _); refine ⟨by omega, by omega, ?_⟩) | fail) <;> conv => whnf))
  by_cases hin : p ∈ keysM l
  · obtain ⟨x, hx, hxp⟩ := List.mem_map.1 hin
    obtain ⟨i, hi⟩ := List.getElem?_of_mem hx
    have hlx : look l p = x.2 := by rw [← hxp]; exact look_mem hn hx
    have e3 : IntKind.u64.wrap ((x.2 : Int) + (w : Int)) = ((x.2 + w : Nat) : Int) := by rw [wrap_u64 (by omega) (by omega)]; omega
    refine ⟨mes_ok hn, at_yes rfl hn hi (by rw [hxp]; rfl) ?_⟩
    (conv => whnf); (repeat' ((first | (with_reducible first | refine Box.mk ?_ | refine And.intro (fun _ => ?_) (fun _ => ?_) | refine (forceH_eq _ _).mpr ?_) | refine ACall.of_pure (by assumption) (by rfl) ?_ | ((with_reducible show Exists _); refine ⟨_, ACall.of_pure (by assumption) (by rfl) ⟨rfl, rfl⟩, ?_⟩) | ((with_reducible show _ ∧ _ ∧ _); refine ⟨by omega, by omega, ?_⟩) | fail) <;> conv => whnf))
    refine ⟨mes_ok hn, at_yes rfl hn hi (by rw [hxp]; rfl) ?_⟩
    (conv => whnf); (repeat' ((first | (with_reducible first | refine Box.mk ?_ | refine And.intro (fun _ => ?_) (fun _ => ?_) | refine (forceH_eq _ _).mpr ?_) | refine ACall.of_pure (by assumption) (by rfl) ?_ | ((with_reducible show Exists _); refine ⟨_, ACall.of_pure (by assumption) (by rfl) ⟨rfl, rfl⟩, ?_⟩) | ((with_reducible show _ ∧ _ ∧ _); refine ⟨by omega, by omega, ?_⟩) | fail) <;> conv => whnf))
    refine ⟨⟨⟨mes_ok hn, at_yes rfl hn hi (by rw [hxp]; rfl) ⟨rfl, rfl⟩⟩, trivial⟩, ?_⟩
    (conv => whnf); (repeat' ((first | (with_reducible first | refine Box.mk ?_ | refine And.intro (fun _ => ?_) (fun _ => ?_) | refine (forceH_eq _ _).mpr ?_) | refine ACall.of_pure (by assumption) (by rfl) ?_ | ((with_reducible show Exists _); refine ⟨_, ACall.of_pure (by assumption) (by rfl) ⟨rfl, rfl⟩, ?_⟩) | ((with_reducible show _ ∧ _ ∧ _); refine ⟨by omega, by omega, ?_⟩) | fail) <;> conv => whnf))
    refine ⟨mes_ok hn, at_stamp hi rfl ?_⟩
    (conv => whnf); (repeat' ((first | (with_reducible first | refine Box.mk ?_ | refine And.intro (fun _ => ?_) (fun _ => ?_) | refine (forceH_eq _ _).mpr ?_) | refine ACall.of_pure (by assumption) (by rfl) ?_ | ((with_reducible show Exists _); refine ⟨_, ACall.of_pure (by assumption) (by rfl) ⟨rfl, rfl⟩, ?_⟩) | ((with_reducible show _ ∧ _ ∧ _); refine ⟨by omega, by omega, ?_⟩) | fail) <;> conv => whnf))
    refine weak_ren_to [(0, true), (1, true)] rfl rfl ?_ ⟨rfl, trivial⟩
    show [Ob.box 94 [.int .i64 s.n, .int .i64 s.d0.kind, .int .i64 s.d0.side, .int .i64 s.d0.step, .int .i64 s.d1.kind, .int .i64 s.d1.side, .int .i64 s.d1.step, .int .u64 (IntKind.u64.wrap ((totM l : Int) + (w : Int))), .own 1], Ob.map pks ((mes u64V 0 l).set i (pcs x.1, .int .u64 (IntKind.u64.wrap ((x.2 : Int) + (w : Int))), i)) l.length] = MH s (addM l p w)
    have e4 := addM_set (v := u64V) (k := 0) w hn hi
    rw [Nat.zero_add, hxp] at e4
    rw [e2, e3, hxp]
    show [_, Ob.map pks ((mes u64V 0 l).set i (pcs p, u64V (x.2 + w), i)) l.length] = _
    rw [e4, ← addM_len_in w hin]
    rfl
  · have hlx : look l p = 0 := look_none hin
    have e3 : IntKind.u64.wrap (0 + (w : Int)) = (w : Int) := by rw [wrap_u64 (by omega) (by omega)]; omega
    have es : mes u64V 0 (l ++ [(p, 0)]) = mes u64V 0 l ++ [(pcs p, AV.int .u64 0, l.length)] := by rw [mes_snoc, Nat.zero_add]; rfl
    have hn2 : (keysM (l ++ [(p, 0)])).Nodup := by
      have := nodup_addM hn p 0
      rwa [addM_new 0 hin] at this
    have hi : (l ++ [(p, 0)])[l.length]? = some (p, 0) := by simp
    refine ⟨mes_ok hn, at_no rfl hin rfl ?_⟩
    (conv => whnf); (repeat' ((first | (with_reducible first | refine Box.mk ?_ | refine And.intro (fun _ => ?_) (fun _ => ?_) | refine (forceH_eq _ _).mpr ?_) | refine ACall.of_pure (by assumption) (by rfl) ?_ | ((with_reducible show Exists _); refine ⟨_, ACall.of_pure (by assumption) (by rfl) ⟨rfl, rfl⟩, ?_⟩) | ((with_reducible show _ ∧ _ ∧ _); refine ⟨by omega, by omega, ?_⟩) | fail) <;> conv => whnf))
    refine ⟨mes_ok hn, at_no rfl hin rfl ?_⟩
    (conv => whnf); (repeat' ((first | (with_reducible first | refine Box.mk ?_ | refine And.intro (fun _ => ?_) (fun _ => ?_) | refine (forceH_eq _ _).mpr ?_) | refine ACall.of_pure (by assumption) (by rfl) ?_ | ((with_reducible show Exists _); refine ⟨_, ACall.of_pure (by assumption) (by rfl) ⟨rfl, rfl⟩, ?_⟩) | ((with_reducible show _ ∧ _ ∧ _); refine ⟨by omega, by omega, ?_⟩) | fail) <;> conv => whnf))
    refine ⟨⟨⟨mes_ok' es hn2, at_yes' es rfl hn2 hi rfl ⟨rfl, rfl⟩⟩, trivial⟩, ?_⟩
    (conv => whnf); (repeat' ((first | (with_reducible first | refine Box.mk ?_ | refine And.intro (fun _ => ?_) (fun _ => ?_) | refine (forceH_eq _ _).mpr ?_) | refine ACall.of_pure (by assumption) (by rfl) ?_ | ((with_reducible show Exists _); refine ⟨_, ACall.of_pure (by assumption) (by rfl) ⟨rfl, rfl⟩, ?_⟩) | ((with_reducible show _ ∧ _ ∧ _); refine ⟨by omega, by omega, ?_⟩) | fail) <;> conv => whnf))
    refine ⟨mes_ok' es hn2, at_stamp' es hi rfl ?_⟩
    (conv => whnf); (repeat' ((first | (with_reducible first | refine Box.mk ?_ | refine And.intro (fun _ => ?_) (fun _ => ?_) | refine (forceH_eq _ _).mpr ?_) | refine ACall.of_pure (by assumption) (by rfl) ?_ | ((with_reducible show Exists _); refine ⟨_, ACall.of_pure (by assumption) (by rfl) ⟨rfl, rfl⟩, ?_⟩) | ((with_reducible show _ ∧ _ ∧ _); refine ⟨by omega, by omega, ?_⟩) | fail) <;> conv => whnf))
    refine weak_ren_to [(0, true), (1, true)] rfl rfl ?_ ⟨rfl, trivial⟩
    show [Ob.box 94 [.int .i64 s.n, .int .i64 s.d0.kind, .int .i64 s.d0.side, .int .i64 s.d0.step, .int .i64 s.d1.kind, .int .i64 s.d1.side, .int .i64 s.d1.step, .int .u64 (IntKind.u64.wrap ((totM l : Int) + (w : Int))), .own 1], Ob.map pks ((mes u64V 0 l ++ [(pcs p, AV.int .u64 0, l.length)]).set l.length (pcs p, .int .u64 (IntKind.u64.wrap (0 + (w : Int))), l.length)) (l.length + 1)] = MH s (addM l p w)
    have e4 := addM_set (v := u64V) (k := 0) w hn2 hi
    rw [Nat.zero_add, es, Nat.zero_add] at e4
    have e5 : addM (l ++ [(p, 0)]) p w = addM l p w := by
      have e6 := addM_new 0 hin
      have e7 : ∀ r : Ml, p ∉ keysM r → addM (r ++ [(p, 0)]) p w = r ++ [(p, w)] := by
        intro r hr
        induction r with
        | nil => show (if p = p then _ else _) = _; rw [if_pos rfl, Nat.zero_add]; rfl
        | cons y r ih =>
          have hr : p ∉ y.1 :: keysM r := hr
          rw [List.mem_cons, not_or] at hr
          rw [List.cons_append, addM, if_neg (fun e => hr.1 e.symm), ih hr.2]; rfl
      rw [e7 l hin, addM_new w hin]
    rw [e2, e3]
    show [_, Ob.map pks ((mes u64V 0 l ++ [(pcs p, AV.int .u64 0, l.length)]).set l.length (pcs p, u64V w, l.length)) (l.length + 1)] = _
    rw [e4, e5]
    have e8 : (addM l p w).length = l.length + 1 := by rw [addM_new w hin, List.length_append]; rfl
    rw [← e8]
    rfl
theorem put_ok (s : Sp) (l : Ml) (hI : MI s l) (p : Px) (hp : POk p) (w : Nat) :
    DCall P 14 [.ptr 0 0, pxv p, .int .u64 (w : Int)] (MH s l) (.int .i64 (putE s l p w)) (MH s (putM s l p w)) := by
  unfold putM putE
  cases hr : leafR s p
  · rw [cond_false, if_neg (by decide)]
    exact put_bad s l p hp w hr
  · rw [cond_true]
    by_cases ho : 4611686018427387904 - totM l < w
    · rw [if_pos ho, if_neg (by decide)]
      exact put_over s l p hp w hI.tot hr ho
    · rw [if_neg ho, if_pos rfl]
      exact put_good s l hI.nodup p hp w hI.tot hr (by omega)
end Go.Proofs.YtgaohmfmomeflaaGreatDoor
end

section
/- model: Weight. -/
namespace Go.Proofs.YtgaohmfmomeflaaGreatDoor
open Go.Ve

/-- What has been gone through of a list, by places. -/
def atL (l : Ml) (g : Px × Nat → Nat) (b : Nat) : Nat := match l[b]? with
  | some x => g x
  | none => 0
theorem seen_perm {seen : List Nat} {n : Nat} (h1 : seen.Nodup) (h2 : ∀ b ∈ seen, b < n) (h3 : ∀ b, b < n → b ∈ seen) : seen.Perm (List.range n) := by
  rw [List.perm_ext_iff_of_nodup h1 List.nodup_range]
  intro a
  rw [List.mem_range]
  exact ⟨h2 a, h3 a⟩
theorem seen_sub {seen : List Nat} {n : Nat} (h1 : seen.Nodup) (h2 : ∀ b ∈ seen, b < n) : ∃ t, (seen ++ t).Perm (List.range n) := by
  refine ⟨(List.range n).filter fun b => decide (b ∉ seen), seen_perm ?_ ?_ ?_⟩
  · rw [List.nodup_append]
    refine ⟨h1, List.Pairwise.filter _ List.nodup_range, fun a ha b hb e => ?_⟩
    have := of_decide_eq_true (List.mem_filter.1 hb).2
    exact this (e ▸ ha)
  · intro b hb
    rcases List.mem_append.1 hb with hb | hb
    · exact h2 b hb
    · exact List.mem_range.1 (List.mem_filter.1 hb).1
  · intro b hb
    rw [List.mem_append]
    by_cases h : b ∈ seen
    · exact .inl h
    · exact .inr (List.mem_filter.2 ⟨List.mem_range.2 hb, decide_eq_true h⟩)
theorem seen_len {seen : List Nat} {n : Nat} (h1 : seen.Nodup) (h2 : ∀ b ∈ seen, b < n) : seen.length ≤ n := by
  obtain ⟨t, ht⟩ := seen_sub h1 h2
  have := ht.length_eq
  rw [List.length_append, List.length_range] at this
  omega
theorem seen_more {seen : List Nat} {n b : Nat} (h1 : seen.Nodup) (h2 : ∀ b ∈ seen, b < n) (hb : b < n) (hs : b ∉ seen) : (seen ++ [b]).Nodup ∧ (∀ c ∈ seen ++ [b], c < n) ∧ seen.length < n := by
  have hx : (seen ++ [b]).Nodup := by
    rw [List.nodup_append]
    refine ⟨h1, by simp, fun a ha c hc e => hs ?_⟩
    rw [← List.mem_singleton.1 hc, ← e]; exact ha
  have hy : ∀ c ∈ seen ++ [b], c < n := fun c hc => by
    rcases List.mem_append.1 hc with hc | hc
    · exact h2 c hc
    · rw [List.mem_singleton.1 hc]; exact hb
  have := seen_len hx hy
  rw [List.length_append] at this
  exact ⟨hx, hy, by simp at this; omega⟩
theorem at_sum (l : Ml) (g : Px × Nat → Nat) : ((List.range l.length).map (atL l g)).sum = (l.map g).sum := by
  congr 1
  refine List.ext_getElem? fun i => ?_
  rw [List.getElem?_map, List.getElem?_map]
  rcases Nat.lt_or_ge i l.length with h | h
  · rw [List.getElem?_range h, Option.map_some, atL, List.getElem?_eq_getElem h]; rfl
  · rw [List.getElem?_eq_none (by simpa using h), List.getElem?_eq_none h]; rfl
theorem part_le {l : Ml} {g : Px × Nat → Nat} {seen : List Nat} (h1 : seen.Nodup) (h2 : ∀ b ∈ seen, b < l.length) : (seen.map (atL l g)).sum ≤ (l.map g).sum := by
  rw [← at_sum l g]
  obtain ⟨t, ht⟩ := seen_sub h1 h2
  rw [← (ht.map (atL l g)).sum_nat, List.map_append, List.sum_append]
  exact Nat.le_add_right _ _
def wsum (s : Sp) (l : Ml) (p : Px) (seen : List Nat) : Nat := (seen.map (atL l fun x => bif overP s p x.1 then x.2 else 0)).sum
theorem weight_ok (s : Sp) (l : Ml) (hI : MI s l) (p : Px) (hp : POk p) : DCall P 23 [.ptr 0 0, pxv p] (MH s l) (.int .u64 (wgt s l p : Int)) (MH s l) := by
  have q1 := made_ok s l
  have ht := hI.tot
  have hw : wgt s l p ≤ totM l := sumF_le _ _
  refine DCall.of_awp tok mixed fn23 (Nat.le_of_ble_eq_true rfl) ?_
  (conv => whnf); (repeat' ((first | (with_reducible first | refine Box.mk ?_ | refine And.intro (fun _ => ?_) (fun _ => ?_) | refine (forceH_eq _ _).mpr ?_) | refine ACall.of_pure (by assumption) (by rfl) ?_ | ((with_reducible show Exists _); refine ⟨_, ACall.of_pure (by assumption) (by rfl) ⟨rfl, rfl⟩, ?_⟩) | ((with_reducible show ∃ L, drawR L _ = true ∧ _); refine ⟨[], by kernel_rfl, ?_⟩) | ((with_reducible show _ ∧ _ ∧ _); refine ⟨by omega, by omega, ?_⟩) | fail) <;> conv => whnf))
  refine aW [0, 1] q1 rfl rfl rfl ?_
  (conv => whnf); (repeat' ((first | (with_reducible first | refine Box.mk ?_ | refine And.intro (fun _ => ?_) (fun _ => ?_) | refine (forceH_eq _ _).mpr ?_) | refine ACall.of_pure (by assumption) (by rfl) ?_ | ((with_reducible show Exists _); refine ⟨_, ACall.of_pure (by assumption) (by rfl) ⟨rfl, rfl⟩, ?_⟩) | ((with_reducible show ∃ L, drawR L _ = true ∧ _); refine ⟨[], by kernel_rfl, ?_⟩) | ((with_reducible show _ ∧ _ ∧ _); refine ⟨by omega, by omega, ?_⟩) | fail) <;> conv => whnf))
  refine aloop (fun seen : List Nat => seen.Nodup ∧ ∀ b ∈ seen, b < l.length) (fun seen => ⟨envL [(0, .ptr 0 0), (3, .ptr 2 0), (5, .int .u64 (wsum s l p seen : Int)), (15, .own 3)], MH s l ++ [.box 34 (pcs p), .iter (some 1) l.length seen l.length]⟩) (fun seen => l.length - seen.length) []
    ⟨List.nodup_nil, fun b hb => by cases hb⟩ (weak_to ⟨rfl, rfl, rfl, rfl, trivial⟩ rfl) ?_
  rintro seen ⟨hn, hb⟩
  have hsl := seen_len hn hb
  (conv => whnf); (repeat' ((first | (with_reducible first | refine Box.mk ?_ | refine And.intro (fun _ => ?_) (fun _ => ?_) | refine (forceH_eq _ _).mpr ?_) | refine ACall.of_pure (by assumption) (by rfl) ?_ | ((with_reducible show Exists _); refine ⟨_, ACall.of_pure (by assumption) (by rfl) ⟨rfl, rfl⟩, ?_⟩) | ((with_reducible show ∃ L, drawR L _ = true ∧ _); refine ⟨[], by kernel_rfl, ?_⟩) | ((with_reducible show _ ∧ _ ∧ _); refine ⟨by omega, by omega, ?_⟩) | fail) <;> conv => whnf))
  refine ⟨Nat.le_refl _, mes_lt, fun e he hns => ?_, fun hall => ?_⟩
  · obtain ⟨j, hj⟩ := List.getElem?_of_mem he
    obtain ⟨x, hx, rfl⟩ := mes_at hj
    have hjl : j < l.length := (List.getElem?_eq_some_iff.1 hx).1
    obtain ⟨m1, m2, m3⟩ := seen_more hn hb hjl hns
    have hxo : POk x.1 := hI.ok.at (List.mem_of_getElem? hx)
    have q2 := pOver_ok s p x.1 hp hxo
    have hle := part_le (g := fun x => bif overP s p x.1 then x.2 else 0) m1 m2
    have hsn : wsum s l p (seen ++ [j]) = wsum s l p seen + (bif overP s p x.1 then x.2 else 0) := by
      unfold wsum
      rw [List.map_append, List.sum_append]
      simp [atL, hx]
    have hle2 : wsum s l p (seen ++ [j]) ≤ wgt s l p := hle
    (conv => whnf); (repeat' ((first | (with_reducible first | refine Box.mk ?_ | refine And.intro (fun _ => ?_) (fun _ => ?_) | refine (forceH_eq _ _).mpr ?_) | refine ACall.of_pure (by assumption) (by rfl) ?_ | ((with_reducible show Exists _); refine ⟨_, ACall.of_pure (by assumption) (by rfl) ⟨rfl, rfl⟩, ?_⟩) | ((with_reducible show ∃ L, drawR L _ = true ∧ _); refine ⟨[], by kernel_rfl, ?_⟩) | ((with_reducible show _ ∧ _ ∧ _); refine ⟨by omega, by omega, ?_⟩) | fail) <;> conv => whnf))
    refine ⟨rfl, _, he, by simp, ?_⟩
    generalize overP s p x.1 = ov at q2 hsn
    cases ov
    · (conv => whnf); (repeat' ((first | (with_reducible first | refine Box.mk ?_ | refine And.intro (fun _ => ?_) (fun _ => ?_) | refine (forceH_eq _ _).mpr ?_) | refine ACall.of_pure (by assumption) (by rfl) ?_ | ((with_reducible show Exists _); refine ⟨_, ACall.of_pure (by assumption) (by rfl) ⟨rfl, rfl⟩, ?_⟩) | ((with_reducible show ∃ L, drawR L _ = true ∧ _); refine ⟨[], by kernel_rfl, ?_⟩) | ((with_reducible show _ ∧ _ ∧ _); refine ⟨by omega, by omega, ?_⟩) | fail) <;> conv => whnf))
      refine ⟨seen ++ [j], ⟨m1, m2⟩, by simp; omega, weak_ren_to [(0, true), (1, true), (2, true), (3, true)] rfl rfl rfl ⟨rfl, rfl, congrArg (AV.int .u64) (by rw [hsn]; simp), rfl, trivial⟩⟩
    · (conv => whnf); (repeat' ((first | (with_reducible first | refine Box.mk ?_ | refine And.intro (fun _ => ?_) (fun _ => ?_) | refine (forceH_eq _ _).mpr ?_) | refine ACall.of_pure (by assumption) (by rfl) ?_ | ((with_reducible show Exists _); refine ⟨_, ACall.of_pure (by assumption) (by rfl) ⟨rfl, rfl⟩, ?_⟩) | ((with_reducible show ∃ L, drawR L _ = true ∧ _); refine ⟨[], by kernel_rfl, ?_⟩) | ((with_reducible show _ ∧ _ ∧ _); refine ⟨by omega, by omega, ?_⟩) | fail) <;> conv => whnf))
      refine ⟨seen ++ [j], ⟨m1, m2⟩, by simp; omega, weak_ren_to [(0, true), (1, true), (2, true), (3, true)] rfl rfl rfl ⟨rfl, rfl, congrArg (AV.int .u64) ?_, rfl, trivial⟩⟩
      rw [cond_true] at hsn
      show IntKind.u64.wrap ((wsum s l p seen : Int) + (x.2 : Int)) = (wsum s l p (seen ++ [j]) : Int)
      rw [wrap_u64 (by omega) (by omega), hsn]; omega
  · have hp2 := seen_perm hn hb fun b hbl => by
      have := hall _ (List.mem_of_getElem? (i := b) (by rw [mes_get, List.getElem?_eq_getElem hbl, Option.map_some]))
      rwa [Nat.zero_add] at this
    have hfin : wsum s l p seen = wgt s l p := by
      unfold wsum wgt sumF
      rw [← at_sum]
      exact (hp2.map _).sum_nat
    (conv => whnf); (repeat' ((first | (with_reducible first | refine Box.mk ?_ | refine And.intro (fun _ => ?_) (fun _ => ?_) | refine (forceH_eq _ _).mpr ?_) | refine ACall.of_pure (by assumption) (by rfl) ?_ | ((with_reducible show Exists _); refine ⟨_, ACall.of_pure (by assumption) (by rfl) ⟨rfl, rfl⟩, ?_⟩) | ((with_reducible show ∃ L, drawR L _ = true ∧ _); refine ⟨[], by kernel_rfl, ?_⟩) | ((with_reducible show _ ∧ _ ∧ _); refine ⟨by omega, by omega, ?_⟩) | fail) <;> conv => whnf))
    refine weak_ren_to [(0, true), (1, true)] rfl rfl rfl ⟨congrArg (AV.int .u64) ?_, trivial⟩
    rw [← hfin]
end Go.Proofs.YtgaohmfmomeflaaGreatDoor
end
