/- The program's contracts: texts joined into one: MdlSort2 Mdl4 ArgsPre ArgsMdl ExactLaw ExactLaw2 ExactLaw3 Ex1 View Ex2 Ex3 Mdl5 Mdl6 Mdl7 Ex4 Ex5 Ex6 Ex7 LawPre LawPre2 LawMdl LawMdl2 LawEx1 LawEx2 LawEx3 LawEx4 ArgsEx. -/
import Derived.Test.YtgaohmfmomeflaaGreatDoorXla
import Derived.Test.YtgaohmfmomeflaaGreatDoorXvc
import Derived.Test.YtgaohmfmomeflaaGreatDoorXShelf
import Derived.Laws.Externs

section
/- model: the sort of an empty row; the orders; the keys of a map, gone through and put in order. -/
namespace Go.Proofs.YtgaohmfmomeflaaGreatDoor
open Go.Ve

theorem lib_Len (n : Nat) (hn : n < 4294967296) : PCall P 115 [.int .u64 (n : Int)] (.int .i64 (Lib.bitLen n : Nat)) := by
  unfold PCall
  refine ⟨fn115.callable, fun M0 w vs hM hG hv => ?_⟩
  obtain ⟨hl, hv⟩ := hv
  obtain ⟨v0, rfl⟩ : ∃ v0, vs = [v0] := by
    match vs, hl with
    | [a], _ => exact ⟨a, rfl⟩
  have e0 := (hv 0 _ rfl).int_inv
  simp at e0
  subst e0
  have h := Any.bits_Len (SlLaysF0.n15.bits (P := P) (ρ := Tryz.sortP_ren) { Tryz.sortP with }) (n : Int) w (by omega) (by omega)
  rw [Int.toNat_natCast] at h
  refine Calls.mono (show Calls P 115 _ w _ from h) ?_
  rintro e w' ⟨rfl, rfl⟩
  exact ⟨_, rfl, Below.refl _ _, .int _ _ _⟩
theorem insert_nil (g : FuncId) : DCall P 136 [.own 0, .int .i64 0, .int .i64 0, .fn g []] [.row 34 12 []] (.tup []) [.row 34 12 []] := by
  refine DCall.of_awp tok mixed fn136 (Nat.le_of_ble_eq_true rfl) ?_
  (conv => whnf); (repeat' ((first | with_reducible refine Box.mk ?_ | with_reducible refine And.intro (fun _ => ?_) (fun _ => ?_) | ((with_reducible show AYld _ _ _ _ _); refine AYld.of tok mixed ?_) | with_reducible refine (forceH_eq _ _).mpr ?_ | refine ACall.of_pure (by assumption) (by rfl) ?_ | ((with_reducible show Exists _); refine ⟨_, ACall.of_pure (by assumption) (by rfl) ⟨rfl, rfl⟩, ?_⟩) | ((with_reducible show _ ∧ _ ∧ _); refine ⟨by omega, by omega, ?_⟩) | fail) <;> conv => whnf))
  refine aloop (fun _ : Unit => True) (fun _ => ⟨envL [(2, .int .i64 0), (8, .int .i64 1)], [.row 34 12 []]⟩) (fun _ => 0) () trivial (weak_to ⟨rfl, rfl, trivial⟩ rfl) ?_
  rintro _ _
  (conv => whnf); (repeat' ((first | with_reducible refine Box.mk ?_ | with_reducible refine And.intro (fun _ => ?_) (fun _ => ?_) | ((with_reducible show AYld _ _ _ _ _); refine AYld.of tok mixed ?_) | with_reducible refine (forceH_eq _ _).mpr ?_ | refine ACall.of_pure (by assumption) (by rfl) ?_ | ((with_reducible show Exists _); refine ⟨_, ACall.of_pure (by assumption) (by rfl) ⟨rfl, rfl⟩, ?_⟩) | ((with_reducible show _ ∧ _ ∧ _); refine ⟨by omega, by omega, ?_⟩) | fail) <;> conv => whnf))
  · rename_i h; exact absurd h (by decide)
  · exact weak_to ⟨rfl, trivial⟩ rfl
theorem pdq_nil (g : FuncId) (k : Int) : DCall P 114 [.own 0, .int .i64 0, .int .i64 0, .int .i64 k, .fn g []] [.row 34 12 []] (.tup []) [.row 34 12 []] := by
  refine DCall.of_awp tok mixed fn114 (Nat.le_of_ble_eq_true rfl) ?_
  (conv => whnf); (repeat' ((first | with_reducible refine Box.mk ?_ | with_reducible refine And.intro (fun _ => ?_) (fun _ => ?_) | ((with_reducible show AYld _ _ _ _ _); refine AYld.of tok mixed ?_) | with_reducible refine (forceH_eq _ _).mpr ?_ | refine ACall.of_pure (by assumption) (by rfl) ?_ | ((with_reducible show Exists _); refine ⟨_, ACall.of_pure (by assumption) (by rfl) ⟨rfl, rfl⟩, ?_⟩) | ((with_reducible show _ ∧ _ ∧ _); refine ⟨by omega, by omega, ?_⟩) | fail) <;> conv => whnf))
  refine aloop (fun _ : Unit => True) (fun _ => ⟨envL [(0, .own 0), (1, .int .i64 0), (2, .int .i64 0), (3, .int .i64 k), (4, .fn g []), (10, .bool true), (11, .bool true)], [.row 34 12 []]⟩) (fun _ => 0) () trivial (weak_to ⟨rfl, rfl, rfl, rfl, rfl, rfl, rfl, trivial⟩ rfl) ?_
  rintro _ _
  (conv => whnf); (repeat' ((first | with_reducible refine Box.mk ?_ | with_reducible refine And.intro (fun _ => ?_) (fun _ => ?_) | ((with_reducible show AYld _ _ _ _ _); refine AYld.of tok mixed ?_) | with_reducible refine (forceH_eq _ _).mpr ?_ | refine ACall.of_pure (by assumption) (by rfl) ?_ | ((with_reducible show Exists _); refine ⟨_, ACall.of_pure (by assumption) (by rfl) ⟨rfl, rfl⟩, ?_⟩) | ((with_reducible show _ ∧ _ ∧ _); refine ⟨by omega, by omega, ?_⟩) | fail) <;> conv => whnf))
  · refine aW [0] (insert_nil g) rfl rfl rfl ?_
    (conv => whnf); (repeat' ((first | with_reducible refine Box.mk ?_ | with_reducible refine And.intro (fun _ => ?_) (fun _ => ?_) | ((with_reducible show AYld _ _ _ _ _); refine AYld.of tok mixed ?_) | with_reducible refine (forceH_eq _ _).mpr ?_ | refine ACall.of_pure (by assumption) (by rfl) ?_ | ((with_reducible show Exists _); refine ⟨_, ACall.of_pure (by assumption) (by rfl) ⟨rfl, rfl⟩, ?_⟩) | ((with_reducible show _ ∧ _ ∧ _); refine ⟨by omega, by omega, ?_⟩) | fail) <;> conv => whnf))
    exact weak_to ⟨rfl, trivial⟩ rfl
  all_goals (exfalso; rename_i h _; exact absurd (show IntKind.i64.wrap (0 - 0) ≤ 12 by decide) h)
theorem sortF_nil (g : FuncId) : DCall P 82 [.own 0, .fn g []] [.row 34 12 []] (.tup []) [.row 34 12 []] := by
  have q1 := lib_Len 0 (by decide)
  have e1 : IntKind.u64.wrap 0 = ((0 : Nat) : Int) := by decide
  refine DCall.of_awp tok mixed fn82 (Nat.le_of_ble_eq_true rfl) ?_
  (conv => whnf); (repeat' ((first | with_reducible refine Box.mk ?_ | with_reducible refine And.intro (fun _ => ?_) (fun _ => ?_) | ((with_reducible show AYld _ _ _ _ _); refine AYld.of tok mixed ?_) | with_reducible refine (forceH_eq _ _).mpr ?_ | refine ACall.of_pure (by assumption) (by rfl) ?_ | ((with_reducible show Exists _); refine ⟨_, ACall.of_pure (by assumption) (by rfl) ⟨rfl, rfl⟩, ?_⟩) | ((with_reducible show _ ∧ _ ∧ _); refine ⟨by omega, by omega, ?_⟩) | fail) <;> conv => whnf))
  refine aW [0] (pdq_nil g _) rfl rfl rfl ?_
  (conv => whnf); (repeat' ((first | with_reducible refine Box.mk ?_ | with_reducible refine And.intro (fun _ => ?_) (fun _ => ?_) | ((with_reducible show AYld _ _ _ _ _); refine AYld.of tok mixed ?_) | with_reducible refine (forceH_eq _ _).mpr ?_ | refine ACall.of_pure (by assumption) (by rfl) ?_ | ((with_reducible show Exists _); refine ⟨_, ACall.of_pure (by assumption) (by rfl) ⟨rfl, rfl⟩, ?_⟩) | ((with_reducible show _ ∧ _ ∧ _); refine ⟨by omega, by omega, ?_⟩) | fail) <;> conv => whnf))
  exact weak_to ⟨rfl, trivial⟩ rfl
/-- The sort, over a row of the call's own, empty or not. -/
theorem sortF_ok {c : Px → Px → Int} {g : FuncId} (hc : ∀ x y, @PCall told P g [pxv x, pxv y] (.int .i64 (c x y))) (hT : TO c) (h0 : ∀ x y, c x y = 0 → x = y) (l : List Px) (hl : l.length < 4611686018427387904) :
    DCall P 82 [.own 0, .fn g []] [.row 34 12 (pcl l)] (.tup []) [.row 34 12 (pcl (srt c l))] := by
  cases l with
  | nil =>
    have e : srt c [] = [] := List.length_eq_zero_iff.1 (by rw [srt_len]; rfl)
    rw [e]
    exact sortF_nil g
  | cons x r => exact sortF_own hc hT h0 (x :: r) hl (by simp)
theorem hgt_eq (p q : Px) : hgtP p q = orI [cmpI (IntKind.i64.wrap (p.a0 + p.a1)) (IntKind.i64.wrap (q.a0 + q.a1)), cmpP p q] := by rw [or2]; rfl
theorem byHeight_ok [Dr] (p q : Px) : PCall P 53 [pxv p, pxv q] (.int .i64 (hgtP p q)) := by
  have q1 := pCmp_ok p q
  have q2 := cmpI_ok (IntKind.i64.wrap (p.a0 + p.a1)) (IntKind.i64.wrap (q.a0 + q.a1))
  have q3 := or_ok [cmpI (IntKind.i64.wrap (p.a0 + p.a1)) (IntKind.i64.wrap (q.a0 + q.a1)), cmpP p q] (by simp)
  rw [hgt_eq]
  generalize cmpP p q = z at *
  generalize cmpI (IntKind.i64.wrap (p.a0 + p.a1)) (IntKind.i64.wrap (q.a0 + q.a1)) = y at *
  refine PCall.of_awp tok mixed fn53 (Nat.le_of_ble_eq_true rfl) ?_
  (conv => whnf); (repeat' ((first | with_reducible refine Box.mk ?_ | with_reducible refine And.intro (fun _ => ?_) (fun _ => ?_) | ((with_reducible show AYld _ _ _ _ _); refine AYld.of tok mixed ?_) | with_reducible refine (forceH_eq _ _).mpr ?_ | refine ACall.of_pure (by assumption) (by rfl) ?_ | ((with_reducible show Exists _); refine ⟨_, ACall.of_pure (by assumption) (by rfl) ⟨rfl, rfl⟩, ?_⟩) | ((with_reducible show ∃ L, drawR L _ = true ∧ _); refine ⟨[], by kernel_rfl, ?_⟩) | ((with_reducible show _ ∧ _ ∧ _); refine ⟨by omega, by omega, ?_⟩) | fail) <;> conv => whnf))
  refine ⟨_, ACall.of_view q3 rfl rfl ⟨rfl, rfl⟩, ?_⟩
  (conv => whnf); (repeat' ((first | with_reducible refine Box.mk ?_ | with_reducible refine And.intro (fun _ => ?_) (fun _ => ?_) | ((with_reducible show AYld _ _ _ _ _); refine AYld.of tok mixed ?_) | with_reducible refine (forceH_eq _ _).mpr ?_ | refine ACall.of_pure (by assumption) (by rfl) ?_ | ((with_reducible show Exists _); refine ⟨_, ACall.of_pure (by assumption) (by rfl) ⟨rfl, rfl⟩, ?_⟩) | ((with_reducible show ∃ L, drawR L _ = true ∧ _); refine ⟨[], by kernel_rfl, ?_⟩) | ((with_reducible show _ ∧ _ ∧ _); refine ⟨by omega, by omega, ?_⟩) | fail) <;> conv => whnf))
  rfl

/-! ### a map's keys, gone through -/
def keyAt (l : Ml) (b : Nat) : Px := match l[b]? with
  | some x => x.1
  | none => zeroP
def prS (l : Ml) (seen : List Nat) : List Px := seen.map (keyAt l)
theorem prS_all {l : Ml} {seen : List Nat} (h : seen.Perm (List.range l.length)) : (prS l seen).Perm (keysM l) := by
  have e : (List.range l.length).map (keyAt l) = keysM l := by
    refine List.ext_getElem? fun i => ?_
    unfold keysM
    rw [List.getElem?_map, List.getElem?_map]
    rcases Nat.lt_or_ge i l.length with h | h
    · rw [List.getElem?_range h, Option.map_some, keyAt, List.getElem?_eq_getElem h]; rfl
    · rw [List.getElem?_eq_none (by simpa using h), List.getElem?_eq_none h]; rfl
  rw [← e]
  exact h.map _
theorem srt_of_perm {c : Px → Px → Int} (hT : TO c) (h0 : ∀ x y, c x y = 0 → x = y) {l r : List Px} (hn : r.Nodup) (h : l.Perm r) : srt c l = srt c r :=
  (srt_ord hT h0 (h.nodup_iff.2 hn)).ext hT (srt_ord hT h0 hn) fun x => by rw [srt_mem, srt_mem, h.mem_iff]
/-- The keys' objects: the map, the variable that holds it. -/
def KH (v : Nat → AV) (tm : Nat) (l : Ml) : Hp := [.map pks (mes v 0 l) l.length, .box tm [.own 0]]
theorem keysI_fn (l : Ml) : DCall P 52 [.own 0] [.map pks (mes i64V 0 l) l.length] (.fn 83 [.ptr 1 0]) (KH i64V 106 l) := by
  refine DCall.of_awp tok mixed fn52 (Nat.le_of_ble_eq_true rfl) ?_
  (conv => whnf); (repeat' ((first | with_reducible refine Box.mk ?_ | with_reducible refine And.intro (fun _ => ?_) (fun _ => ?_) | ((with_reducible show AYld _ _ _ _ _); refine AYld.of tok mixed ?_) | with_reducible refine (forceH_eq _ _).mpr ?_ | refine ACall.of_pure (by assumption) (by rfl) ?_ | ((with_reducible show Exists _); refine ⟨_, ACall.of_pure (by assumption) (by rfl) ⟨rfl, rfl⟩, ?_⟩) | ((with_reducible show ∃ L, drawR L _ = true ∧ _); refine ⟨[], by kernel_rfl, ?_⟩) | ((with_reducible show _ ∧ _ ∧ _); refine ⟨by omega, by omega, ?_⟩) | fail) <;> conv => whnf))
  exact weak_to ⟨rfl, trivial⟩ rfl
theorem keysU_fn (l : Ml) : DCall P 58 [.own 0] [.map pks (mes u64V 0 l) l.length] (.fn 90 [.ptr 1 0]) (KH u64V 92 l) := by
  refine DCall.of_awp tok mixed fn58 (Nat.le_of_ble_eq_true rfl) ?_
  (conv => whnf); (repeat' ((first | with_reducible refine Box.mk ?_ | with_reducible refine And.intro (fun _ => ?_) (fun _ => ?_) | ((with_reducible show AYld _ _ _ _ _); refine AYld.of tok mixed ?_) | with_reducible refine (forceH_eq _ _).mpr ?_ | refine ACall.of_pure (by assumption) (by rfl) ?_ | ((with_reducible show Exists _); refine ⟨_, ACall.of_pure (by assumption) (by rfl) ⟨rfl, rfl⟩, ?_⟩) | ((with_reducible show ∃ L, drawR L _ = true ∧ _); refine ⟨[], by kernel_rfl, ?_⟩) | ((with_reducible show _ ∧ _ ∧ _); refine ⟨by omega, by omega, ?_⟩) | fail) <;> conv => whnf))
  exact weak_to ⟨rfl, trivial⟩ rfl
theorem seqI_ok (l : Ml) (hl : l.length ≤ 34359738368) : ACall P 113 [.nils, .fn 83 [.ptr 1 0]] (KH i64V 106 l) fun r H' =>
    ∃ k : List Px, k.Perm (keysM l) ∧ r = .own 2 ∧ H' = KH i64V 106 l ++ [.row 34 12 (pcl k)] := by
  refine ACall.of_awpW tok mixed fn113 (Nat.le_of_ble_eq_true rfl) ?_
  (conv => whnf); (repeat' ((first | with_reducible refine Box.mk ?_ | with_reducible refine And.intro (fun _ => ?_) (fun _ => ?_) | ((with_reducible show AYld _ _ _ _ _); refine AYld.of tok mixed ?_) | with_reducible refine (forceH_eq _ _).mpr ?_ | refine ACall.of_pure (by assumption) (by rfl) ?_ | ((with_reducible show Exists _); refine ⟨_, ACall.of_pure (by assumption) (by rfl) ⟨rfl, rfl⟩, ?_⟩) | ((with_reducible show ∃ L, drawR L _ = true ∧ _); refine ⟨[], by kernel_rfl, ?_⟩) | ((with_reducible show _ ∧ _ ∧ _); refine ⟨by omega, by omega, ?_⟩) | fail) <;> conv => whnf))
  refine arange [(2, .ptr 2 0)] ⟨rfl, trivial⟩ rfl trivial ?_
  refine ACall.of_awp tok mixed fn83 (Nat.le_of_ble_eq_true rfl) ?_
  (conv => whnf); (repeat' ((first | with_reducible refine Box.mk ?_ | with_reducible refine And.intro (fun _ => ?_) (fun _ => ?_) | ((with_reducible show AYld _ _ _ _ _); refine AYld.of tok mixed ?_) | with_reducible refine (forceH_eq _ _).mpr ?_ | refine ACall.of_pure (by assumption) (by rfl) ?_ | ((with_reducible show Exists _); refine ⟨_, ACall.of_pure (by assumption) (by rfl) ⟨rfl, rfl⟩, ?_⟩) | ((with_reducible show ∃ L, drawR L _ = true ∧ _); refine ⟨[], by kernel_rfl, ?_⟩) | ((with_reducible show _ ∧ _ ∧ _); refine ⟨by omega, by omega, ?_⟩) | fail) <;> conv => whnf))
  refine aloopH (fun seen : List Nat => seen.Nodup ∧ ∀ b ∈ seen, b < l.length) (fun _ => [(0, .own 3), (5, .own 4)])
    (fun seen H => (H.set 2 (.box 60 [.own 5])).set 4 (.iter (some 0) l.length seen l.length) ++ [.row 34 12 (pcl (prS l seen))]) (fun seen => l.length - seen.length) [] ⟨List.nodup_nil, fun b hb => by cases hb⟩
    (by exact weak_nilrow _ _ (by decide) ⟨.inl rfl, .inl rfl, trivial⟩ ⟨.inl rfl, .inl rfl, .inr ⟨rfl, .inr ⟨rfl, rfl⟩, trivial⟩, .inl rfl, .inl rfl, trivial⟩) ?_
  rintro seen ⟨hn2, hb⟩
  (conv => whnf); (repeat' ((first | with_reducible refine Box.mk ?_ | with_reducible refine And.intro (fun _ => ?_) (fun _ => ?_) | ((with_reducible show AYld _ _ _ _ _); refine AYld.of tok mixed ?_) | with_reducible refine (forceH_eq _ _).mpr ?_ | refine ACall.of_pure (by assumption) (by rfl) ?_ | ((with_reducible show Exists _); refine ⟨_, ACall.of_pure (by assumption) (by rfl) ⟨rfl, rfl⟩, ?_⟩) | ((with_reducible show ∃ L, drawR L _ = true ∧ _); refine ⟨[], by kernel_rfl, ?_⟩) | ((with_reducible show _ ∧ _ ∧ _); refine ⟨by omega, by omega, ?_⟩) | fail) <;> conv => whnf))
  refine ⟨Nat.le_refl _, mes_lt, fun e he hns => ?_, fun hall => ?_⟩
  · obtain ⟨j, hj⟩ := List.getElem?_of_mem he
    obtain ⟨x, hx, rfl⟩ := mes_at hj
    have hjl : j < l.length := (List.getElem?_eq_some_iff.1 hx).1
    obtain ⟨m1, m2, m3⟩ := seen_more hn2 hb hjl hns
    have hps : prS l (seen ++ [j]) = prS l seen ++ [x.1] := by
      unfold prS; rw [List.map_append]; simp [keyAt, hx]
    have hpl : (pcl (prS l seen)).length = seen.length := by rw [pcl_len]; simp [prS]
    (conv => whnf); (repeat' ((first | with_reducible refine Box.mk ?_ | with_reducible refine And.intro (fun _ => ?_) (fun _ => ?_) | ((with_reducible show AYld _ _ _ _ _); refine AYld.of tok mixed ?_) | with_reducible refine (forceH_eq _ _).mpr ?_ | refine ACall.of_pure (by assumption) (by rfl) ?_ | ((with_reducible show Exists _); refine ⟨_, ACall.of_pure (by assumption) (by rfl) ⟨rfl, rfl⟩, ?_⟩) | ((with_reducible show ∃ L, drawR L _ = true ∧ _); refine ⟨[], by kernel_rfl, ?_⟩) | ((with_reducible show _ ∧ _ ∧ _); refine ⟨by omega, by omega, ?_⟩) | fail) <;> conv => whnf))
    refine ⟨rfl, _, he, by simp, ?_⟩
    (conv => whnf); (repeat' ((first | with_reducible refine Box.mk ?_ | with_reducible refine And.intro (fun _ => ?_) (fun _ => ?_) | ((with_reducible show AYld _ _ _ _ _); refine AYld.of tok mixed ?_) | with_reducible refine (forceH_eq _ _).mpr ?_ | refine ACall.of_pure (by assumption) (by rfl) ?_ | ((with_reducible show Exists _); refine ⟨_, ACall.of_pure (by assumption) (by rfl) ⟨rfl, rfl⟩, ?_⟩) | ((with_reducible show ∃ L, drawR L _ = true ∧ _); refine ⟨[], by kernel_rfl, ?_⟩) | ((with_reducible show _ ∧ _ ∧ _); refine ⟨by omega, by omega, ?_⟩) | fail) <;> conv => whnf))
    refine ⟨fun c hc => by rw [List.mem_singleton.1 hc]; exact ⟨rfl, rfl⟩, by rw [hpl]; show (_ + 1) * 112 ≤ _; omega, by rw [hpl]; show _ + 1 ≤ _; omega, ?_⟩
    (conv => whnf); (repeat' ((first | with_reducible refine Box.mk ?_ | with_reducible refine And.intro (fun _ => ?_) (fun _ => ?_) | ((with_reducible show AYld _ _ _ _ _); refine AYld.of tok mixed ?_) | with_reducible refine (forceH_eq _ _).mpr ?_ | refine ACall.of_pure (by assumption) (by rfl) ?_ | ((with_reducible show Exists _); refine ⟨_, ACall.of_pure (by assumption) (by rfl) ⟨rfl, rfl⟩, ?_⟩) | ((with_reducible show ∃ L, drawR L _ = true ∧ _); refine ⟨[], by kernel_rfl, ?_⟩) | ((with_reducible show _ ∧ _ ∧ _); refine ⟨by omega, by omega, ?_⟩) | fail) <;> conv => whnf))
    refine ⟨seen ++ [j], ⟨m1, m2⟩, by simp; omega, weak_ren_to [(0, true), (1, true), (2, true), (3, true), (4, true), (9, true)] rfl rfl ?_ ⟨rfl, rfl, trivial⟩⟩
    rw [hps, ← pcl_snoc]
    rfl
  · have hp2 := seen_perm hn2 hb fun b hbl => by
      have := hall _ (List.mem_of_getElem? (i := b) (by rw [mes_get, List.getElem?_eq_getElem hbl, Option.map_some]))
      rwa [Nat.zero_add] at this
    (conv => whnf); (repeat' ((first | with_reducible refine Box.mk ?_ | with_reducible refine And.intro (fun _ => ?_) (fun _ => ?_) | ((with_reducible show AYld _ _ _ _ _); refine AYld.of tok mixed ?_) | with_reducible refine (forceH_eq _ _).mpr ?_ | refine ACall.of_pure (by assumption) (by rfl) ?_ | ((with_reducible show Exists _); refine ⟨_, ACall.of_pure (by assumption) (by rfl) ⟨rfl, rfl⟩, ?_⟩) | ((with_reducible show ∃ L, drawR L _ = true ∧ _); refine ⟨[], by kernel_rfl, ?_⟩) | ((with_reducible show _ ∧ _ ∧ _); refine ⟨by omega, by omega, ?_⟩) | fail) <;> conv => whnf))
    exact ⟨.own 2, _, weak_ren_to [(0, true), (1, true), (5, true)] rfl rfl rfl ⟨rfl, trivial⟩, prS l seen, prS_all hp2, rfl, rfl⟩
theorem seqU_ok (l : Ml) (hl : l.length ≤ 34359738368) : ACall P 113 [.nils, .fn 90 [.ptr 1 0]] (KH u64V 92 l) fun r H' =>
    ∃ k : List Px, k.Perm (keysM l) ∧ r = .own 2 ∧ H' = KH u64V 92 l ++ [.row 34 12 (pcl k)] := by
  refine ACall.of_awpW tok mixed fn113 (Nat.le_of_ble_eq_true rfl) ?_
  (conv => whnf); (repeat' ((first | with_reducible refine Box.mk ?_ | with_reducible refine And.intro (fun _ => ?_) (fun _ => ?_) | ((with_reducible show AYld _ _ _ _ _); refine AYld.of tok mixed ?_) | with_reducible refine (forceH_eq _ _).mpr ?_ | refine ACall.of_pure (by assumption) (by rfl) ?_ | ((with_reducible show Exists _); refine ⟨_, ACall.of_pure (by assumption) (by rfl) ⟨rfl, rfl⟩, ?_⟩) | ((with_reducible show ∃ L, drawR L _ = true ∧ _); refine ⟨[], by kernel_rfl, ?_⟩) | ((with_reducible show _ ∧ _ ∧ _); refine ⟨by omega, by omega, ?_⟩) | fail) <;> conv => whnf))
  refine arange [(2, .ptr 2 0)] ⟨rfl, trivial⟩ rfl trivial ?_
  refine ACall.of_awp tok mixed fn90 (Nat.le_of_ble_eq_true rfl) ?_
  (conv => whnf); (repeat' ((first | with_reducible refine Box.mk ?_ | with_reducible refine And.intro (fun _ => ?_) (fun _ => ?_) | ((with_reducible show AYld _ _ _ _ _); refine AYld.of tok mixed ?_) | with_reducible refine (forceH_eq _ _).mpr ?_ | refine ACall.of_pure (by assumption) (by rfl) ?_ | ((with_reducible show Exists _); refine ⟨_, ACall.of_pure (by assumption) (by rfl) ⟨rfl, rfl⟩, ?_⟩) | ((with_reducible show ∃ L, drawR L _ = true ∧ _); refine ⟨[], by kernel_rfl, ?_⟩) | ((with_reducible show _ ∧ _ ∧ _); refine ⟨by omega, by omega, ?_⟩) | fail) <;> conv => whnf))
  refine aloopH (fun seen : List Nat => seen.Nodup ∧ ∀ b ∈ seen, b < l.length) (fun _ => [(0, .own 3), (5, .own 4)])
    (fun seen H => (H.set 2 (.box 60 [.own 5])).set 4 (.iter (some 0) l.length seen l.length) ++ [.row 34 12 (pcl (prS l seen))]) (fun seen => l.length - seen.length) [] ⟨List.nodup_nil, fun b hb => by cases hb⟩
    (by exact weak_nilrow _ _ (by decide) ⟨.inl rfl, .inl rfl, trivial⟩ ⟨.inl rfl, .inl rfl, .inr ⟨rfl, .inr ⟨rfl, rfl⟩, trivial⟩, .inl rfl, .inl rfl, trivial⟩) ?_
  rintro seen ⟨hn2, hb⟩
  (conv => whnf); (repeat' ((first | with_reducible refine Box.mk ?_ | with_reducible refine And.intro (fun _ => ?_) (fun _ => ?_) | ((with_reducible show AYld _ _ _ _ _); refine AYld.of tok mixed ?_) | with_reducible refine (forceH_eq _ _).mpr ?_ | refine ACall.of_pure (by assumption) (by rfl) ?_ | ((with_reducible show Exists _); refine ⟨_, ACall.of_pure (by assumption) (by rfl) ⟨rfl, rfl⟩, ?_⟩) | ((with_reducible show ∃ L, drawR L _ = true ∧ _); refine ⟨[], by kernel_rfl, ?_⟩) | ((with_reducible show _ ∧ _ ∧ _); refine ⟨by omega, by omega, ?_⟩) | fail) <;> conv => whnf))
  refine ⟨Nat.le_refl _, mes_lt, fun e he hns => ?_, fun hall => ?_⟩
  · obtain ⟨j, hj⟩ := List.getElem?_of_mem he
    obtain ⟨x, hx, rfl⟩ := mes_at hj
    have hjl : j < l.length := (List.getElem?_eq_some_iff.1 hx).1
    obtain ⟨m1, m2, m3⟩ := seen_more hn2 hb hjl hns
    have hps : prS l (seen ++ [j]) = prS l seen ++ [x.1] := by
      unfold prS; rw [List.map_append]; simp [keyAt, hx]
    have hpl : (pcl (prS l seen)).length = seen.length := by rw [pcl_len]; simp [prS]
    (conv => whnf); (repeat' ((first | with_reducible refine Box.mk ?_ | with_reducible refine And.intro (fun _ => ?_) (fun _ => ?_) | ((with_reducible show AYld _ _ _ _ _); refine AYld.of tok mixed ?_) | with_reducible refine (forceH_eq _ _).mpr ?_ | refine ACall.of_pure (by assumption) (by rfl) ?_ | ((with_reducible show Exists _); refine ⟨_, ACall.of_pure (by assumption) (by rfl) ⟨rfl, rfl⟩, ?_⟩) | ((with_reducible show ∃ L, drawR L _ = true ∧ _); refine ⟨[], by kernel_rfl, ?_⟩) | ((with_reducible show _ ∧ _ ∧ _); refine ⟨by omega, by omega, ?_⟩) | fail) <;> conv => whnf))
    refine ⟨rfl, _, he, by simp, ?_⟩
    (conv => whnf); (repeat' ((first | with_reducible refine Box.mk ?_ | with_reducible refine And.intro (fun _ => ?_) (fun _ => ?_) | ((with_reducible show AYld _ _ _ _ _); refine AYld.of tok mixed ?_) | with_reducible refine (forceH_eq _ _).mpr ?_ | refine ACall.of_pure (by assumption) (by rfl) ?_ | ((with_reducible show Exists _); refine ⟨_, ACall.of_pure (by assumption) (by rfl) ⟨rfl, rfl⟩, ?_⟩) | ((with_reducible show ∃ L, drawR L _ = true ∧ _); refine ⟨[], by kernel_rfl, ?_⟩) | ((with_reducible show _ ∧ _ ∧ _); refine ⟨by omega, by omega, ?_⟩) | fail) <;> conv => whnf))
    refine ⟨fun c hc => by rw [List.mem_singleton.1 hc]; exact ⟨rfl, rfl⟩, by rw [hpl]; show (_ + 1) * 112 ≤ _; omega, by rw [hpl]; show _ + 1 ≤ _; omega, ?_⟩
    (conv => whnf); (repeat' ((first | with_reducible refine Box.mk ?_ | with_reducible refine And.intro (fun _ => ?_) (fun _ => ?_) | ((with_reducible show AYld _ _ _ _ _); refine AYld.of tok mixed ?_) | with_reducible refine (forceH_eq _ _).mpr ?_ | refine ACall.of_pure (by assumption) (by rfl) ?_ | ((with_reducible show Exists _); refine ⟨_, ACall.of_pure (by assumption) (by rfl) ⟨rfl, rfl⟩, ?_⟩) | ((with_reducible show ∃ L, drawR L _ = true ∧ _); refine ⟨[], by kernel_rfl, ?_⟩) | ((with_reducible show _ ∧ _ ∧ _); refine ⟨by omega, by omega, ?_⟩) | fail) <;> conv => whnf))
    refine ⟨seen ++ [j], ⟨m1, m2⟩, by simp; omega, weak_ren_to [(0, true), (1, true), (2, true), (3, true), (4, true), (9, true)] rfl rfl ?_ ⟨rfl, rfl, trivial⟩⟩
    rw [hps, ← pcl_snoc]
    rfl
  · have hp2 := seen_perm hn2 hb fun b hbl => by
      have := hall _ (List.mem_of_getElem? (i := b) (by rw [mes_get, List.getElem?_eq_getElem hbl, Option.map_some]))
      rwa [Nat.zero_add] at this
    (conv => whnf); (repeat' ((first | with_reducible refine Box.mk ?_ | with_reducible refine And.intro (fun _ => ?_) (fun _ => ?_) | ((with_reducible show AYld _ _ _ _ _); refine AYld.of tok mixed ?_) | with_reducible refine (forceH_eq _ _).mpr ?_ | refine ACall.of_pure (by assumption) (by rfl) ?_ | ((with_reducible show Exists _); refine ⟨_, ACall.of_pure (by assumption) (by rfl) ⟨rfl, rfl⟩, ?_⟩) | ((with_reducible show ∃ L, drawR L _ = true ∧ _); refine ⟨[], by kernel_rfl, ?_⟩) | ((with_reducible show _ ∧ _ ∧ _); refine ⟨by omega, by omega, ?_⟩) | fail) <;> conv => whnf))
    exact ⟨.own 2, _, weak_ren_to [(0, true), (1, true), (5, true)] rfl rfl rfl ⟨rfl, trivial⟩, prS l seen, prS_all hp2, rfl, rfl⟩
/-- The keys of a map, in order. -/
theorem sortedF_ok {c : Px → Px → Int} {g : FuncId} (hc : ∀ x y, @PCall told P g [pxv x, pxv y] (.int .i64 (c x y))) (hT : TO c) (h0 : ∀ x y, c x y = 0 → x = y) {v : Nat → AV} {tm k1 : Nat} {l : Ml} (hn : (keysM l).Nodup) (hl : l.length ≤ 34359738368)
    (hseq : ACall P 113 [.nils, .fn k1 [.ptr 1 0]] (KH v tm l) fun r H' => ∃ k : List Px, k.Perm (keysM l) ∧ r = .own 2 ∧ H' = KH v tm l ++ [.row 34 12 (pcl k)]) :
    DCall P 51 [.fn k1 [.ptr 1 0], .fn g []] (KH v tm l) (.sl (pcl (srt c (keysM l)))) (KH v tm l) := by
  have hcol : ACall P 81 [.fn k1 [.ptr 1 0]] (KH v tm l) fun r H' => ∃ k : List Px, k.Perm (keysM l) ∧ r = .own 2 ∧ H' = KH v tm l ++ [.row 34 12 (pcl k)] := by
    refine ACall.of_awp tok mixed fn81 (Nat.le_of_ble_eq_true rfl) ?_
    (conv => whnf); (repeat' ((first | with_reducible refine Box.mk ?_ | with_reducible refine And.intro (fun _ => ?_) (fun _ => ?_) | ((with_reducible show AYld _ _ _ _ _); refine AYld.of tok mixed ?_) | with_reducible refine (forceH_eq _ _).mpr ?_ | refine ACall.of_pure (by assumption) (by rfl) ?_ | ((with_reducible show Exists _); refine ⟨_, ACall.of_pure (by assumption) (by rfl) ⟨rfl, rfl⟩, ?_⟩) | ((with_reducible show ∃ L, drawR L _ = true ∧ _); refine ⟨[], by kernel_rfl, ?_⟩) | ((with_reducible show _ ∧ _ ∧ _); refine ⟨by omega, by omega, ?_⟩) | fail) <;> conv => whnf))
    refine hseq.mono ?_
    rintro r H' ⟨k, hk, rfl, rfl⟩
    (conv => whnf); (repeat' ((first | with_reducible refine Box.mk ?_ | with_reducible refine And.intro (fun _ => ?_) (fun _ => ?_) | ((with_reducible show AYld _ _ _ _ _); refine AYld.of tok mixed ?_) | with_reducible refine (forceH_eq _ _).mpr ?_ | refine ACall.of_pure (by assumption) (by rfl) ?_ | ((with_reducible show Exists _); refine ⟨_, ACall.of_pure (by assumption) (by rfl) ⟨rfl, rfl⟩, ?_⟩) | ((with_reducible show ∃ L, drawR L _ = true ∧ _); refine ⟨[], by kernel_rfl, ?_⟩) | ((with_reducible show _ ∧ _ ∧ _); refine ⟨by omega, by omega, ?_⟩) | fail) <;> conv => whnf))
    exact ⟨k, hk, rfl, rfl⟩
  refine DCall.of_awp tok mixed fn51 (Nat.le_of_ble_eq_true rfl) ?_
  (conv => whnf); (repeat' ((first | with_reducible refine Box.mk ?_ | with_reducible refine And.intro (fun _ => ?_) (fun _ => ?_) | ((with_reducible show AYld _ _ _ _ _); refine AYld.of tok mixed ?_) | with_reducible refine (forceH_eq _ _).mpr ?_ | refine ACall.of_pure (by assumption) (by rfl) ?_ | ((with_reducible show Exists _); refine ⟨_, ACall.of_pure (by assumption) (by rfl) ⟨rfl, rfl⟩, ?_⟩) | ((with_reducible show ∃ L, drawR L _ = true ∧ _); refine ⟨[], by kernel_rfl, ?_⟩) | ((with_reducible show _ ∧ _ ∧ _); refine ⟨by omega, by omega, ?_⟩) | fail) <;> conv => whnf))
  refine hcol.mono ?_
  rintro r H' ⟨k, hk, rfl, rfl⟩
  have e := srt_of_perm hT h0 hn hk
  have hkl : k.length = l.length := by rw [hk.length_eq, keysM, List.length_map]
  rw [← e]
  (conv => whnf); (repeat' ((first | with_reducible refine Box.mk ?_ | with_reducible refine And.intro (fun _ => ?_) (fun _ => ?_) | ((with_reducible show AYld _ _ _ _ _); refine AYld.of tok mixed ?_) | with_reducible refine (forceH_eq _ _).mpr ?_ | refine ACall.of_pure (by assumption) (by rfl) ?_ | ((with_reducible show Exists _); refine ⟨_, ACall.of_pure (by assumption) (by rfl) ⟨rfl, rfl⟩, ?_⟩) | ((with_reducible show ∃ L, drawR L _ = true ∧ _); refine ⟨[], by kernel_rfl, ?_⟩) | ((with_reducible show _ ∧ _ ∧ _); refine ⟨by omega, by omega, ?_⟩) | fail) <;> conv => whnf))
  refine aW [2] (sortF_ok hc hT h0 k (by omega)) rfl rfl rfl ?_
  (conv => whnf); (repeat' ((first | with_reducible refine Box.mk ?_ | with_reducible refine And.intro (fun _ => ?_) (fun _ => ?_) | ((with_reducible show AYld _ _ _ _ _); refine AYld.of tok mixed ?_) | with_reducible refine (forceH_eq _ _).mpr ?_ | refine ACall.of_pure (by assumption) (by rfl) ?_ | ((with_reducible show Exists _); refine ⟨_, ACall.of_pure (by assumption) (by rfl) ⟨rfl, rfl⟩, ?_⟩) | ((with_reducible show ∃ L, drawR L _ = true ∧ _); refine ⟨[], by kernel_rfl, ?_⟩) | ((with_reducible show _ ∧ _ ∧ _); refine ⟨by omega, by omega, ?_⟩) | fail) <;> conv => whnf))
  exact weak_cr 2 [(0, true), (1, true)] rfl rfl rfl rfl rfl
end Go.Proofs.YtgaohmfmomeflaaGreatDoor
end

section
/- model: Loads. -/
namespace Go.Proofs.YtgaohmfmomeflaaGreatDoor
open Go.Ve

def lcs (x : Px × Nat) : List AV := [.int .i64 x.1.a0, .int .i64 x.1.a1, .int .i64 x.1.k0.kind, .int .i64 x.1.k0.len, .int .u64 ((x.1.k0.n / H64 : Nat) : Int), .int .u64 ((x.1.k0.n % H64 : Nat) : Int), .str x.1.k0.path,
  .int .i64 x.1.k1.kind, .int .i64 x.1.k1.len, .int .u64 ((x.1.k1.n / H64 : Nat) : Int), .int .u64 ((x.1.k1.n % H64 : Nat) : Int), .str x.1.k1.path, .int .u64 (x.2 : Int)]
def lcl (l : Ml) : List (List AV) := l.map lcs
theorem lcl_len (l : Ml) : (lcl l).length = l.length := by simp [lcl]
theorem lcl_get (l : Ml) (i : Nat) : (lcl l)[i]? = (l[i]?).map lcs := by simp [lcl]
theorem lcl_snoc (l : Ml) (x : Px × Nat) : lcl l ++ [lcs x] = lcl (l ++ [x]) := by simp [lcl]
/-- What has been told, so far. -/
def accM (l : Ml) (k : List Px) (i : Nat) : Ml := ((k.take i).filter fun p => decide (0 < look l p)).map fun p => (p, look l p)
theorem accM_len (l : Ml) (k : List Px) (i : Nat) : (accM l k i).length ≤ i := by
  unfold accM
  rw [List.length_map]
  exact Nat.le_trans (List.length_filter_le _ _) (by rw [List.length_take]; omega)
theorem accM_step {l : Ml} {k : List Px} {i : Nat} {p : Px} (h : k[i]? = some p) : accM l k (i + 1) = accM l k i ++ (if 0 < look l p then [(p, look l p)] else []) := by
  unfold accM
  rw [List.take_add_one, h, List.filter_append, List.map_append]
  congr 1
  by_cases hp : 0 < look l p
  · rw [if_pos hp]; simp [hp]
  · rw [if_neg hp]; simp; omega
theorem loads_ok (s : Sp) (l : Ml) (hI : MI s l) : DCall P 29 [.ptr 0 0] (MH s l) (.sl (lcl (loadsM l))) (MH s l) := by
  have q1 := made_ok s l
  have ht := hI.tot
  have hl := hI.len
  have q3 := sortedF_ok (c := cmpP) (g := 59) (fun x y => @pCmp_ok told x y) to_cmpP (fun _ _ h => cmpP_zero.1 h) hI.nodup (by omega) (seqU_ok l (by omega))
  have hfull : accM l (srt cmpP (keysM l)) (srt cmpP (keysM l)).length = loadsM l := by
    unfold accM; rw [List.take_length]; rfl
  have hkl : (srt cmpP (keysM l)).length = l.length := by rw [srt_len, keysM, List.length_map]
  have hmem : ∀ p ∈ srt cmpP (keysM l), p ∈ keysM l := fun p hp => srt_mem.1 hp
  rw [← hfull]
  generalize srt cmpP (keysM l) = k at *
  have hkc := pcl_len k
  refine DCall.of_awp tok mixed fn29 (Nat.le_of_ble_eq_true rfl) ?_
  (conv => whnf); (repeat' ((first | (with_reducible first | refine Box.mk ?_ | refine And.intro (fun _ => ?_) (fun _ => ?_) | refine (forceH_eq _ _).mpr ?_) | refine ACall.of_pure (by assumption) (by rfl) ?_ | ((with_reducible show Exists _); refine ⟨_, ACall.of_pure (by assumption) (by rfl) ⟨rfl, rfl⟩, ?_⟩) | ((with_reducible show ∃ L, drawR L _ = true ∧ _); refine ⟨[], by kernel_rfl, ?_⟩) | ((with_reducible show _ ∧ _ ∧ _); refine ⟨by omega, by omega, ?_⟩) | fail) <;> conv => whnf))
  refine aW [0, 1] q1 rfl rfl rfl ?_
  (conv => whnf); (repeat' ((first | (with_reducible first | refine Box.mk ?_ | refine And.intro (fun _ => ?_) (fun _ => ?_) | refine (forceH_eq _ _).mpr ?_) | refine ACall.of_pure (by assumption) (by rfl) ?_ | ((with_reducible show Exists _); refine ⟨_, ACall.of_pure (by assumption) (by rfl) ⟨rfl, rfl⟩, ?_⟩) | ((with_reducible show ∃ L, drawR L _ = true ∧ _); refine ⟨[], by kernel_rfl, ?_⟩) | ((with_reducible show _ ∧ _ ∧ _); refine ⟨by omega, by omega, ?_⟩) | fail) <;> conv => whnf))
  refine aW [1] (keysU_fn l) rfl rfl rfl ?_
  (conv => whnf); (repeat' ((first | (with_reducible first | refine Box.mk ?_ | refine And.intro (fun _ => ?_) (fun _ => ?_) | refine (forceH_eq _ _).mpr ?_) | refine ACall.of_pure (by assumption) (by rfl) ?_ | ((with_reducible show Exists _); refine ⟨_, ACall.of_pure (by assumption) (by rfl) ⟨rfl, rfl⟩, ?_⟩) | ((with_reducible show ∃ L, drawR L _ = true ∧ _); refine ⟨[], by kernel_rfl, ?_⟩) | ((with_reducible show _ ∧ _ ∧ _); refine ⟨by omega, by omega, ?_⟩) | fail) <;> conv => whnf))
  refine aW [1, 2] q3 rfl rfl rfl ?_
  (conv => whnf); (repeat' ((first | (with_reducible first | refine Box.mk ?_ | refine And.intro (fun _ => ?_) (fun _ => ?_) | refine (forceH_eq _ _).mpr ?_) | refine ACall.of_pure (by assumption) (by rfl) ?_ | ((with_reducible show Exists _); refine ⟨_, ACall.of_pure (by assumption) (by rfl) ⟨rfl, rfl⟩, ?_⟩) | ((with_reducible show ∃ L, drawR L _ = true ∧ _); refine ⟨[], by kernel_rfl, ?_⟩) | ((with_reducible show _ ∧ _ ∧ _); refine ⟨by omega, by omega, ?_⟩) | fail) <;> conv => whnf))
  refine aloop (fun i : Nat => i ≤ k.length) (fun i => ⟨envL [(0, .ptr 0 0), (3, .own 3), (15, .sl (pcl k)), (16, .int .i64 ((pcl k).length : Int)), (17, .int .i64 (i : Int))], (MH s l ++ [Ob.box 92 [.own 1]]) ++ [.row 46 13 (lcl (accM l k i))]⟩) (fun i => k.length - i) 0 (Nat.zero_le _) ?_ ?_
  · exact (weak_to (l := [(0, .ptr 0 0), (3, .nils), (15, .sl (pcl k)), (16, .int .i64 ((pcl k).length : Int)), (17, .int .i64 0)]) (H := MH s l ++ [Ob.box 92 [.own 1]]) ⟨rfl, rfl, rfl, rfl, rfl, trivial⟩ rfl).trans (weak_nilrow (s := ⟨envL [(0, .ptr 0 0), (3, .nils), (15, .sl (pcl k)), (16, .int .i64 ((pcl k).length : Int)), (17, .int .i64 0)], MH s l ++ [Ob.box 92 [.own 1]]⟩) (l := [(0, .ptr 0 0), (3, .own 3), (15, .sl (pcl k)), (16, .int .i64 ((pcl k).length : Int)), (17, .int .i64 0)]) (H' := MH s l ++ [Ob.box 92 [.own 1]]) 46 13 (by decide) ⟨.inl rfl, .inr ⟨rfl, rfl⟩, .inl rfl, .inl rfl, .inl rfl, trivial⟩ ⟨.inl rfl, .inl rfl, .inl rfl, trivial⟩)
  intro i hi
  have hal := accM_len l k i
  have hll := lcl_len (accM l k i)
  (conv => whnf); (repeat' ((first | (with_reducible first | refine Box.mk ?_ | refine And.intro (fun _ => ?_) (fun _ => ?_) | refine (forceH_eq _ _).mpr ?_) | refine ACall.of_pure (by assumption) (by rfl) ?_ | ((with_reducible show Exists _); refine ⟨_, ACall.of_pure (by assumption) (by rfl) ⟨rfl, rfl⟩, ?_⟩) | ((with_reducible show ∃ L, drawR L _ = true ∧ _); refine ⟨[], by kernel_rfl, ?_⟩) | ((with_reducible show _ ∧ _ ∧ _); refine ⟨by omega, by omega, ?_⟩) | fail) <;> conv => whnf))
  · rename_i hlt
    have hlt : i < k.length := by rw [hkc] at hlt; omega
    have hp := List.getElem?_eq_getElem hlt
    have hst := accM_step (l := l) hp
    have hpm := hmem _ (List.mem_of_getElem? hp)
    generalize k[i] = p at *
    obtain ⟨x, hx, hxp⟩ := List.mem_map.1 hpm
    obtain ⟨j, hj⟩ := List.getElem?_of_mem hx
    have hlx : look l p = x.2 := by rw [← hxp]; exact look_mem hI.nodup hx
    refine ⟨by omega, pcs p, by rw [Int.toNat_natCast, pcl_get, hp]; rfl, rfl, ?_⟩
    (conv => whnf); (repeat' ((first | (with_reducible first | refine Box.mk ?_ | refine And.intro (fun _ => ?_) (fun _ => ?_) | refine (forceH_eq _ _).mpr ?_) | refine ACall.of_pure (by assumption) (by rfl) ?_ | ((with_reducible show Exists _); refine ⟨_, ACall.of_pure (by assumption) (by rfl) ⟨rfl, rfl⟩, ?_⟩) | ((with_reducible show ∃ L, drawR L _ = true ∧ _); refine ⟨[], by kernel_rfl, ?_⟩) | ((with_reducible show _ ∧ _ ∧ _); refine ⟨by omega, by omega, ?_⟩) | fail) <;> conv => whnf))
    refine ⟨mes_ok hI.nodup, at_yes rfl hI.nodup hj (by rw [hxp]; rfl) ?_⟩
    (conv => whnf); (repeat' ((first | (with_reducible first | refine Box.mk ?_ | refine And.intro (fun _ => ?_) (fun _ => ?_) | refine (forceH_eq _ _).mpr ?_) | refine ACall.of_pure (by assumption) (by rfl) ?_ | ((with_reducible show Exists _); refine ⟨_, ACall.of_pure (by assumption) (by rfl) ⟨rfl, rfl⟩, ?_⟩) | ((with_reducible show ∃ L, drawR L _ = true ∧ _); refine ⟨[], by kernel_rfl, ?_⟩) | ((with_reducible show _ ∧ _ ∧ _); refine ⟨by omega, by omega, ?_⟩) | fail) <;> conv => whnf))
    · rename_i hpos
      have hpos : 0 < look l p := by rw [hlx]; have : (0 : Int) < (x.2 : Int) := hpos; omega
      rw [if_pos hpos] at hst
      refine ⟨fun c hc => by rw [List.mem_singleton.1 hc]; exact ⟨rfl, rfl⟩, by rw [hll]; show (_ + 1) * 120 ≤ _; omega, by rw [hll]; show _ + 1 ≤ _; omega, ?_⟩
      (conv => whnf); (repeat' ((first | (with_reducible first | refine Box.mk ?_ | refine And.intro (fun _ => ?_) (fun _ => ?_) | refine (forceH_eq _ _).mpr ?_) | refine ACall.of_pure (by assumption) (by rfl) ?_ | ((with_reducible show Exists _); refine ⟨_, ACall.of_pure (by assumption) (by rfl) ⟨rfl, rfl⟩, ?_⟩) | ((with_reducible show ∃ L, drawR L _ = true ∧ _); refine ⟨[], by kernel_rfl, ?_⟩) | ((with_reducible show _ ∧ _ ∧ _); refine ⟨by omega, by omega, ?_⟩) | fail) <;> conv => whnf))
      refine ⟨i + 1, hlt, by omega, weak_ren_to [(0, true), (1, true), (2, true), (6, true)] rfl rfl ?_ ⟨rfl, rfl, rfl, rfl, wrap_nat (m := 1) (by omega), trivial⟩⟩
      rw [hst, ← lcl_snoc, hlx]
      rfl
    · rename_i hpos
      have hpos : ¬ 0 < look l p := by rw [hlx]; have : ¬ (0 : Int) < (x.2 : Int) := hpos; omega
      rw [if_neg hpos, List.append_nil] at hst
      refine ⟨i + 1, hlt, by omega, weak_ren_to [(0, true), (1, true), (2, true), (3, true)] rfl rfl ?_ ⟨rfl, rfl, rfl, rfl, wrap_nat (m := 1) (by omega), trivial⟩⟩
      rw [hst]
      rfl
  · rename_i hlt
    have : i = k.length := by rw [hkc] at hlt; omega
    subst this
    exact weak_cr 3 [(0, true), (1, true)] rfl rfl rfl rfl rfl
end Go.Proofs.YtgaohmfmomeflaaGreatDoor
end

section
/- prefix: arguments read as data. -/
namespace Go.Proofs.YtgaohmfmomeflaaGreatDoor
open Go.Ve

theorem dim_wf {B : Nat} {xs : List AV} (h : Wf ty B 23 xs) : ∃ d : Dm, xs = [.int .i64 d.kind, .int .i64 d.side, .int .i64 d.step] := by
  have h0 := h.struct_inv rfl
  obtain ⟨x1, r1, rfl, hk, h1⟩ := h0.cons_inv
  obtain ⟨x2, r2, rfl, hl, h2⟩ := h1.cons_inv
  obtain ⟨x3, r3, rfl, ha, h3⟩ := h2.cons_inv
  obtain rfl := h3.nil_inv
  obtain ⟨a, rfl, _⟩ := hk.int_inv rfl
  obtain ⟨b, rfl, _⟩ := hl.int_inv rfl
  obtain ⟨c, rfl, _⟩ := ha.int_inv rfl
  exact ⟨⟨a, b, c⟩, rfl⟩
theorem space_inv {B : Nat} {x : AV} (h : WfV ty B 26 x) : ∃ s : Sp, x = spv s := by
  obtain ⟨xs, rfl, h0⟩ := h.struct_inv rfl
  obtain ⟨x1, r1, rfl, hk, h1⟩ := h0.cons_inv
  obtain ⟨x2, r2, rfl, hl, h2⟩ := h1.cons_inv
  obtain rfl := h2.nil_inv
  obtain ⟨n, rfl, _⟩ := hk.int_inv rfl
  have h3 := hl.arr_inv (n := 2) rfl
  obtain ⟨y1, q1, rfl, g1, h4⟩ := h3.cons_inv
  obtain ⟨y2, q2, rfl, g2, h5⟩ := h4.cons_inv
  obtain rfl := h5.nil_inv
  obtain ⟨d0, rfl⟩ := dim_wf g1
  obtain ⟨d1, rfl⟩ := dim_wf g2
  exact ⟨⟨n, d0, d1⟩, rfl⟩
end Go.Proofs.YtgaohmfmomeflaaGreatDoor
end

section
/- model: arguments read as data. -/
namespace Go.Proofs.YtgaohmfmomeflaaGreatDoor
open Go.Ve

theorem prefix_wf {xs : List AV} (h : Wf ty 1048576 34 xs) : ∃ p : Px, xs = pcs p ∧ POk p := by
  have h0 := h.struct_inv rfl
  obtain ⟨x1, r1, rfl, hk, h1⟩ := h0.cons_inv
  obtain ⟨x2, r2, rfl, hl, h2⟩ := h1.cons_inv
  obtain rfl := h2.nil_inv
  have h3 := hk.arr_inv (n := 2) rfl
  obtain ⟨y1, q1, rfl, g1, h4⟩ := h3.cons_inv
  obtain ⟨y2, q2, rfl, g2, h5⟩ := h4.cons_inv
  obtain rfl := h5.nil_inv
  obtain ⟨a0, rfl, _⟩ := g1.int_inv rfl
  obtain ⟨a1, rfl, _⟩ := g2.int_inv rfl
  have h6 := hl.arr_inv (n := 2) rfl
  obtain ⟨z1, s1, rfl, k1, h7⟩ := h6.cons_inv
  obtain ⟨z2, s2, rfl, k2, h8⟩ := h7.cons_inv
  obtain rfl := h8.nil_inv
  obtain ⟨k0, rfl, m0⟩ := key_wf k1
  obtain ⟨k1, rfl, m1⟩ := key_wf k2
  exact ⟨⟨a0, a1, k0, k1⟩, rfl, m0.n, m1.n, m0.path, m1.path⟩
theorem load_wf {xs : List AV} (h : Wf ty 1048576 46 xs) : ∃ x : Px × Nat, xs = lcs x ∧ POk x.1 := by
  have h0 := h.struct_inv rfl
  obtain ⟨x1, r1, rfl, g1, h1⟩ := h0.cons_inv
  obtain ⟨x2, r2, rfl, g2, h2⟩ := h1.cons_inv
  obtain rfl := h2.nil_inv
  obtain ⟨p, rfl, hp⟩ := prefix_wf g1
  obtain ⟨n, rfl, hn⟩ := g2.int_inv rfl
  obtain ⟨m, rfl, _⟩ := u64_lit hn
  exact ⟨(p, m), rfl, hp⟩
theorem loads_inv : ∀ (es : List (List AV)), (∀ c ∈ es, Wf ty 1048576 46 c) → ∃ l : Ml, es = lcl l ∧ ∀ x ∈ l, POk x.1
  | [], _ => ⟨[], rfl, fun p hp => by cases hp⟩
  | c :: r, h => by
    obtain ⟨l, rfl, hl⟩ := loads_inv r fun c hc => h c (List.mem_cons_of_mem _ hc)
    obtain ⟨p, rfl, hp⟩ := load_wf (h c List.mem_cons_self)
    exact ⟨p :: l, rfl, fun q hq => by
      rcases List.mem_cons.1 hq with rfl | hq
      · exact hp
      · exact hl q hq⟩
theorem lds_inv {x : AV} (h : WfV ty 1048576 40 x) : ∃ l : Ml, mpA nlN x = .sl (lcl l) ∧ (∀ x ∈ l, POk x.1) ∧ l.length ≤ 1048576 := by
  rcases h.slice_inv rfl with rfl | ⟨es, rfl, hl, he⟩
  · exact ⟨[], rfl, fun p hp => (by cases hp), Nat.zero_le _⟩
  · obtain ⟨l, rfl, ho⟩ := loads_inv es he
    exact ⟨l, rfl, ho, by rw [lcl_len] at hl; exact hl⟩
end Go.Proofs.YtgaohmfmomeflaaGreatDoor
end

section
/- exact, plain laws: what is below, what is covered, what rests. -/
namespace Go.Proofs.YtgaohmfmomeflaaGreatDoor
open Go.Ve

/-- Is a prefix below another one? -/
def belowP (s : Sp) (p q : Px) : Bool := decide (p ≠ q) && overP s p q
def hgt (p : Px) : Int := p.a0 + p.a1
theorem below_iff {s : Sp} {p q : Px} : belowP s p q = true ↔ p ≠ q ∧ overP s p q = true := by
  unfold belowP; rw [Bool.and_eq_true, decide_eq_true_iff]
theorem over_le' {s : Sp} {p q : Px} (h : overP s p q = true) : q.a0 ≤ p.a0 ∧ q.a1 ≤ p.a1 := by
  unfold overP at h
  rw [Bool.and_eq_true] at h
  have := of_decide_eq_true h.2
  exact ⟨this.1, this.2.1⟩
/-- Over another one on its own node is that one. -/
theorem over_same {s : Sp} {p q : Px} (hq : POk q) (h : overP s p q = true) (h0 : p.a0 = q.a0) (h1 : p.a1 = q.a1) : p = q := by
  have hr := (over_right h).2
  have a := over_up.symm.trans h
  rw [Bool.and_eq_true] at a
  have a2 := of_decide_eq_true a.2
  have b := over_reflP (s := s) hq
  rw [hr, over_up, Bool.and_eq_true] at b
  have b2 := of_decide_eq_true b.2
  rw [h0, h1] at a2
  exact a2.symm.trans b2
theorem below_hgt {s : Sp} {p q : Px} (hq : POk q) (h : belowP s p q = true) : hgt q < hgt p := by
  obtain ⟨h1, h2⟩ := below_iff.1 h
  have hl := over_le' h2
  unfold hgt
  rcases Int.lt_or_le (q.a0 + q.a1) (p.a0 + p.a1) with h3 | h3
  · exact h3
  · exact absurd (over_same hq h2 (by omega) (by omega)) h1
/-- Reported below a prefix, each once. -/
def underL (s : Sp) (R : List Px) (p : Px) : List Px := R.foldl (fun l q => if belowP s p q = true ∧ q ∉ l then l ++ [q] else l) []
def greatL (s : Sp) (R : List Px) (p : Px) : List Px := (underL s R p).filter fun x => !(underL s R p).any fun y => belowP s y x
def covB (s : Sp) (R : List Px) (p x : Px) : Bool := R.any fun q => belowP s p q && overP s q x
def restR (s : Sp) (L : Ml) (R : List Px) (p : Px) : Nat := sumF (fun x => overP s p x && !covB s R p x) L
def restG (s : Sp) (L : Ml) (R : List Px) (p : Px) : Nat := sumF (fun x => overP s p x && !(greatL s R p).any fun g => overP s g x) L
theorem under_mem0 {s : Sp} {p x : Px} : ∀ (R l : List Px), x ∈ R.foldl (fun l q => if belowP s p q = true ∧ q ∉ l then l ++ [q] else l) l ↔ x ∈ l ∨ (x ∈ R ∧ belowP s p x = true)
  | [], l => by simp
  | q :: R, l => by
    rw [List.foldl_cons, under_mem0 R]
    by_cases h : belowP s p q = true ∧ q ∉ l
    · rw [if_pos h, List.mem_append, List.mem_singleton, List.mem_cons]
      constructor
      · rintro ((h1 | rfl) | ⟨h1, h2⟩)
        · exact .inl h1
        · exact .inr ⟨.inl rfl, h.1⟩
        · exact .inr ⟨.inr h1, h2⟩
      · rintro (h1 | ⟨rfl | h1, h2⟩)
        · exact .inl (.inl h1)
        · exact .inl (.inr rfl)
        · exact .inr ⟨h1, h2⟩
    · rw [if_neg h, List.mem_cons]
      constructor
      · rintro (h1 | ⟨h1, h2⟩)
        · exact .inl h1
        · exact .inr ⟨.inr h1, h2⟩
      · rintro (h1 | ⟨rfl | h1, h2⟩)
        · exact .inl h1
        · exact .inl (Decidable.byContradiction fun hn => h ⟨h2, hn⟩)
        · exact .inr ⟨h1, h2⟩
theorem under_mem {s : Sp} {p x : Px} {R : List Px} : x ∈ underL s R p ↔ x ∈ R ∧ belowP s p x = true := by
  unfold underL
  rw [under_mem0]
  exact ⟨fun h => h.elim (fun h => by cases h) id, .inr⟩
/-- What is below is below a greatest one, or is one. -/
theorem great_over {s : Sp} {R : List Px} {p : Px} (hR : ∀ q ∈ R, POk q) : ∀ (n : Nat) {q x : Px}, q ∈ underL s R p → POk x → overP s q x = true → hgt p - hgt q ≤ (n : Int) → ∃ g ∈ greatL s R p, overP s g x = true
  | n, q, x, hq, hx, ho, hn => by
    have hqo := hR q (under_mem.1 hq).1
    have hlt := below_hgt hqo (under_mem.1 hq).2
    cases ha : (underL s R p).any fun y => belowP s y q
    · exact ⟨q, List.mem_filter.2 ⟨hq, by rw [ha]; rfl⟩, ho⟩
    · obtain ⟨y, hy, hb⟩ := List.any_eq_true.1 ha
      have hyo := hR y (under_mem.1 hy).1
      have hyq := below_hgt hqo hb
      have hyp := below_hgt hyo (under_mem.1 hy).2
      cases n with
      | zero => omega
      | succ n => exact great_over hR n hy hx (over_transP hyo hqo hx (below_iff.1 hb).2 ho) (by omega)
theorem great_cov {s : Sp} {R : List Px} {p x : Px} (hR : ∀ q ∈ R, POk q) (hx : POk x) : ((greatL s R p).any fun g => overP s g x) = covB s R p x := by
  rw [Bool.eq_iff_iff]
  unfold covB
  rw [List.any_eq_true, List.any_eq_true]
  constructor
  · rintro ⟨g, hg, ho⟩
    have := under_mem.1 (List.mem_filter.1 hg).1
    exact ⟨g, this.1, by rw [Bool.and_eq_true]; exact ⟨this.2, ho⟩⟩
  · rintro ⟨q, hq, h⟩
    rw [Bool.and_eq_true] at h
    have hqo := hR q hq
    have hlt := below_hgt hqo h.1
    exact great_over hR (hgt p - hgt q).toNat (under_mem.2 ⟨hq, h.1⟩) hx h.2 (by omega)
theorem restG_eq {s : Sp} {L : Ml} {R : List Px} {p : Px} (hR : ∀ q ∈ R, POk q) (hL : MOk L) : restG s L R p = restR s L R p := by
  unfold restG restR
  exact sumF_congr fun x hx => by rw [great_cov hR (hL.at hx)]
end Go.Proofs.YtgaohmfmomeflaaGreatDoor
end

section
/- exact, plain laws: the true report is the one fixed set. -/
namespace Go.Proofs.YtgaohmfmomeflaaGreatDoor
open Go.Ve

def heavyN (a b x n : Nat) : Bool := decide (a * n ≤ b * x)
/-- The true report's prefixes, so far. -/
def hvStep (s : Sp) (L : Ml) (a b n : Nat) (so : List Px) (p : Px) : List Px := bif heavyN a b (restR s L so p) n then so ++ [p] else so
def hvs (s : Sp) (L : Ml) (a b n : Nat) (A : List Px) : List Px := A.foldl (hvStep s L a b n) []
/-- What rests hangs on what is below. -/
theorem rest_same {s : Sp} {L : Ml} {R R' : List Px} {p : Px} (h : ∀ q, belowP s p q = true → (q ∈ R ↔ q ∈ R')) : restR s L R p = restR s L R' p := by
  unfold restR
  refine sumF_congr fun x _ => ?_
  have : covB s R p x.1 = covB s R' p x.1 := by
    rw [Bool.eq_iff_iff]
    unfold covB
    rw [List.any_eq_true, List.any_eq_true]
    constructor
    · rintro ⟨q, hq, hh⟩
      have hh2 := hh
      rw [Bool.and_eq_true] at hh2
      exact ⟨q, (h q hh2.1).1 hq, hh⟩
    · rintro ⟨q, hq, hh⟩
      have hh2 := hh
      rw [Bool.and_eq_true] at hh2
      exact ⟨q, (h q hh2.1).2 hq, hh⟩
  rw [this]
theorem hv_sub {s : Sp} {L : Ml} {a b n : Nat} : ∀ (A so : List Px) {q : Px}, q ∈ A.foldl (hvStep s L a b n) so → q ∈ so ∨ q ∈ A
  | [], _, _, h => .inl h
  | p :: A, so, q, h => by
    rw [List.foldl_cons] at h
    rcases hv_sub A _ h with h | h
    · unfold hvStep at h
      cases hc : heavyN a b (restR s L so p) n
      · rw [hc, cond_false] at h; exact .inl h
      · rw [hc, cond_true, List.mem_append, List.mem_singleton] at h
        rcases h with h | h
        · exact .inl h
        · exact .inr (h ▸ List.mem_cons_self)
    · exact .inr (List.mem_cons_of_mem _ h)
theorem hv_keep {s : Sp} {L : Ml} {a b n : Nat} : ∀ (A so : List Px) {q : Px}, q ∈ so → q ∈ A.foldl (hvStep s L a b n) so
  | [], _, _, h => h
  | p :: A, so, q, h => by
    rw [List.foldl_cons]
    refine hv_keep A _ ?_
    unfold hvStep
    cases heavyN a b (restR s L so p) n
    · exact h
    · exact List.mem_append_left _ h
/-- Nothing that stands later is below: the report is just what is heavy by it. -/
theorem hv_fix {s : Sp} {L : Ml} {a b n : Nat} : ∀ (A so : List Px), A.Pairwise (fun p q => belowP s p q = false ∧ p ≠ q) → (∀ p ∈ A, p ∉ so) →
    ∀ p ∈ A, (p ∈ A.foldl (hvStep s L a b n) so ↔ heavyN a b (restR s L (A.foldl (hvStep s L a b n) so) p) n = true)
  | [], _, _, _, p, hp => by cases hp
  | x :: A, so, hA, hn, p, hp => by
    have h1 := List.pairwise_cons.1 hA
    rw [List.foldl_cons]
    rcases List.mem_cons.1 hp with rfl | hp
    · have e : restR s L (A.foldl (hvStep s L a b n) (hvStep s L a b n so p)) p = restR s L so p := by
        refine rest_same fun q hq => ?_
        constructor
        · intro h
          rcases hv_sub A _ h with h | h
          · unfold hvStep at h
            cases hc : heavyN a b (restR s L so p) n
            · rw [hc, cond_false] at h; exact h
            · rw [hc, cond_true, List.mem_append, List.mem_singleton] at h
              rcases h with h | h
              · exact h
              · exact absurd h.symm (below_iff.1 hq).1
          · rw [(h1.1 q h).1] at hq; cases hq
        · intro h
          refine hv_keep A _ ?_
          unfold hvStep
          cases heavyN a b (restR s L so p) n
          · exact h
          · exact List.mem_append_left _ h
      rw [e]
      constructor
      · intro h
        rcases hv_sub A _ h with h | h
        · unfold hvStep at h
          cases hc : heavyN a b (restR s L so p) n
          · rw [hc, cond_false] at h; exact absurd h (hn p List.mem_cons_self)
          · rfl
        · exact absurd rfl (h1.1 p h).2
      · intro h
        refine hv_keep A _ ?_
        unfold hvStep
        rw [h, cond_true]
        exact List.mem_append_right _ (List.mem_singleton.2 rfl)
    · refine hv_fix A _ h1.2 (fun q hq h => ?_) p hp
      unfold hvStep at h
      cases hc : heavyN a b (restR s L so x) n
      · rw [hc, cond_false] at h; exact hn q (List.mem_cons_of_mem _ hq) h
      · rw [hc, cond_true, List.mem_append, List.mem_singleton] at h
        rcases h with h | h
        · exact hn q (List.mem_cons_of_mem _ hq) h
        · exact (h1.1 q hq).2 h.symm
end Go.Proofs.YtgaohmfmomeflaaGreatDoor
end

section
/- exact, plain laws: the order in which what is over is told; one fixed set; the parts of the total. -/
namespace Go.Proofs.YtgaohmfmomeflaaGreatDoor
open Go.Ve

theorem ov_right {s : Sp} {l : Ml} (hI : MI s l) {p : Px} (hp : p ∈ ovM s l) : rightP s p = true := by
  obtain ⟨x, _, h, _⟩ := sumF_pos.1 ((ovM_mem hI.ok hI.nodup).1 hp)
  exact (over_right h).1
theorem ov_pw {s : Sp} {l : Ml} (hI : MI s l) : (ovM s l).Pairwise fun p q => belowP s p q = false ∧ p ≠ q := by
  refine List.Pairwise.imp_of_mem ?_ (ovM_ord s l)
  intro p q hp hq h
  refine ⟨?_, fun e => by rw [e, to_hgtP.self] at h; omega⟩
  cases hb : belowP s p q with
  | false => rfl
  | true =>
    have h1 := below_hgt (ovM_ok hI.ok q hq) hb
    have b1 := right_bounds (ov_right hI hp)
    have b2 := right_bounds (ov_right hI hq)
    unfold hgt at h1
    unfold hgtP at h
    rw [wrap_i64 (n := p.a0 + p.a1) (by omega) (by omega), wrap_i64 (n := q.a0 + q.a1) (by omega) (by omega)] at h
    have h2 : ¬ cmpI (p.a0 + p.a1) (q.a0 + q.a1) = 0 := fun e => by have := cmpI_eq.1 e; omega
    rw [if_neg h2, cmpI_lt] at h
    omega
/-- Whatever set is just what is heavy by it is the only one. -/
theorem fix_unique {s : Sp} {L : Ml} {a b n : Nat} {A R R' : List Px} (hA : A.Pairwise fun p q => belowP s p q = false ∧ p ≠ q) (hR : ∀ q ∈ R, q ∈ A) (hR' : ∀ q ∈ R', q ∈ A)
    (h : ∀ p ∈ A, (p ∈ R ↔ heavyN a b (restR s L R p) n = true)) (h' : ∀ p ∈ A, (p ∈ R' ↔ heavyN a b (restR s L R' p) n = true)) : ∀ (k i : Nat), i < k → ∀ p, A[i]? = some p → (p ∈ R ↔ p ∈ R')
  | 0, i, hi, p, hp => by omega
  | k + 1, i, hi, p, hp => by
    have hpA := List.mem_of_getElem? hp
    have low : ∀ q, belowP s p q = true → q ∈ A → (q ∈ R ↔ q ∈ R') := by
      intro q hb hq
      obtain ⟨j, hj⟩ := List.getElem?_of_mem hq
      obtain ⟨hi1, hi2⟩ := List.getElem?_eq_some_iff.1 hp
      obtain ⟨hj1, hj2⟩ := List.getElem?_eq_some_iff.1 hj
      rcases Nat.lt_trichotomy j i with h1 | h1 | h1
      · exact fix_unique hA hR hR' h h' k j (by omega) q hj
      · subst h1
        rw [hp] at hj
        cases hj
        exact absurd rfl (below_iff.1 hb).1
      · have := (List.pairwise_iff_getElem.1 hA i j hi1 hj1 h1).1
        rw [hi2, hj2, hb] at this
        cases this
    have e : restR s L R p = restR s L R' p := rest_same fun q hb => by
      constructor
      · intro hq; exact (low q hb (hR q hq)).1 hq
      · intro hq; exact (low q hb (hR' q hq)).2 hq
    rw [h p hpA, h' p hpA, e]
theorem hvs_sub {s : Sp} {L : Ml} {a b n : Nat} {A : List Px} {q : Px} (h : q ∈ hvs s L a b n A) : q ∈ A := (hv_sub A [] h).elim (fun h => by cases h) id
theorem hvs_fix {s : Sp} {L : Ml} {a b n : Nat} {A : List Px} (hA : A.Pairwise fun p q => belowP s p q = false ∧ p ≠ q) : ∀ p ∈ A, (p ∈ hvs s L a b n A ↔ heavyN a b (restR s L (hvs s L a b n A) p) n = true) :=
  hv_fix A [] hA fun _ _ h => by cases h
theorem hvs_snoc (s : Sp) (L : Ml) (a b n : Nat) (A : List Px) (p : Px) : hvs s L a b n (A ++ [p]) = hvStep s L a b n (hvs s L a b n A) p := by simp [hvs]
theorem hv_pw {s : Sp} {L : Ml} {a b n : Nat} {Q : Px → Px → Prop} : ∀ (A so : List Px), (so ++ A).Pairwise Q → (A.foldl (hvStep s L a b n) so).Pairwise Q
  | [], so, h => by rw [List.append_nil] at h; exact h
  | p :: A, so, h => by
    rw [List.foldl_cons]
    refine hv_pw A _ ?_
    unfold hvStep
    cases heavyN a b (restR s L so p) n
    · rw [cond_false]
      exact h.sublist (List.Sublist.append_left (List.sublist_cons_self _ _) _)
    · rw [cond_true, List.append_assoc]; exact h
theorem hvs_pw {s : Sp} {L : Ml} {a b n : Nat} {A : List Px} {Q : Px → Px → Prop} (h : A.Pairwise Q) : (hvs s L a b n A).Pairwise Q := hv_pw A [] h
theorem hvs_len (s : Sp) (L : Ml) (a b n : Nat) (A : List Px) : (hvs s L a b n A).length ≤ A.length := by
  have : ∀ (A so : List Px), (A.foldl (hvStep s L a b n) so).length ≤ so.length + A.length := by
    intro A
    induction A with
    | nil => intro so; exact Nat.le_refl _
    | cons p A ih =>
      intro so
      rw [List.foldl_cons, List.length_cons]
      refine Nat.le_trans (ih _) ?_
      unfold hvStep
      cases heavyN a b (restR s L so p) n
      · rw [cond_false]; omega
      · rw [cond_true, List.length_append]; simp only [List.length_cons, List.length_nil]; omega
  have := this A []
  simpa [hvs] using this
/-- A line: its prefix, what it weighs, what rests. -/
structure Ln where
  p : Px
  lo : Nat
  hi : Nat
  est : Nat
def lineOf (s : Sp) (L : Ml) (R : List Px) (p : Px) : Ln := ⟨p, wgt s L p, wgt s L p, restR s L R p⟩
def linesOf (s : Sp) (L : Ml) (R : List Px) : List Ln := R.map (lineOf s L R)
theorem lines_snoc {s : Sp} {L : Ml} {R : List Px} {p : Px} (h : ∀ q ∈ R, belowP s q p = false) : linesOf s L (R ++ [p]) = linesOf s L R ++ [lineOf s L R p] := by
  unfold linesOf
  rw [List.map_append]
  have e1 : ∀ q, belowP s q p = false → restR s L (R ++ [p]) q = restR s L R q := fun q hq => rest_same fun x hx => by
    rw [List.mem_append, List.mem_singleton]
    constructor
    · rintro (h | rfl)
      · exact h
      · rw [hq] at hx; cases hx
    · exact .inl
  have e2 : R.map (lineOf s L (R ++ [p])) = R.map (lineOf s L R) := List.map_congr_left fun q hq => by unfold lineOf; rw [e1 q (h q hq)]
  rw [e2]
  have e3 : belowP s p p = false := by unfold belowP; simp
  show _ ++ [lineOf s L (R ++ [p]) p] = _
  unfold lineOf
  rw [e1 p e3]

/-! ### in one dimension -/
theorem chain1 {s : Sp} {p q x : Px} (hn : s.n = 1) (hp : POk p) (hq : POk q) (hx : POk x) (h1 : overP s p x = true) (h2 : overP s q x = true) (h : q.a0 ≤ p.a0) : overP s p q = true := by
  obtain ⟨a1, a2, a3⟩ := (over_iffP hp hx).1 h1
  obtain ⟨_, b2, b3⟩ := (over_iffP hq hx).1 h2
  refine (over_iffP hp hq).2 ⟨a1, a2.chain hx.n0 b2 h, ?_⟩
  unfold R1 at a3 b3 ⊢
  rw [if_pos hn] at a3 b3 ⊢
  exact ⟨a3.1, a3.2.1, b3.1, b3.2.1⟩
/-- Each leaf is counted by one of them. -/
theorem one_counts {s : Sp} {R T : List Px} {x : Px} (hn : s.n = 1) (hx : POk x) (hxr : rightP s x = true) (hT : ∀ q ∈ T, POk q) (hTn : T.Nodup) (hRT : ∀ q, q ∈ T ↔ q ∈ R ∨ q = topP s) :
    (T.map fun p => if (overP s p x && !covB s R p x) = true then 1 else 0).sum = 1 := by
  -- the lowest one over the leaf
  have hlow : ∀ (n : Nat) (p : Px), p ∈ T → overP s p x = true → (hgt p - hgt x) ≤ (n : Int) → ∃ q ∈ T, overP s q x = true ∧ covB s R q x = false := by
    intro n
    induction n with
    | zero =>
      intro p hp ho hle
      refine ⟨p, hp, ho, ?_⟩
      cases hc : covB s R p x with
      | false => rfl
      | true =>
        obtain ⟨q, hq, h⟩ := List.any_eq_true.1 hc
        rw [Bool.and_eq_true] at h
        have hqo := hT q ((hRT q).2 (.inl hq))
        have h1 := below_hgt hqo h.1
        have h2 := over_le' h.2
        unfold hgt at *
        omega
    | succ n ih =>
      intro p hp ho hle
      cases hc : covB s R p x with
      | false => exact ⟨p, hp, ho, hc⟩
      | true =>
        obtain ⟨q, hq, h⟩ := List.any_eq_true.1 hc
        rw [Bool.and_eq_true] at h
        have hqT := (hRT q).2 (.inl hq)
        have h1 := below_hgt (hT q hqT) h.1
        exact ih q hqT h.2 (by omega)
  have htop : overP s (topP s) x = true := by rw [over_topP hx]; exact hxr
  obtain ⟨q, hq, hqo, hqc⟩ := hlow (hgt (topP s) - hgt x).toNat (topP s) ((hRT _).2 (.inr rfl)) htop (by omega)
  have huni : ∀ p ∈ T, (overP s p x && !covB s R p x) = true → p = q := by
    intro p hp hpc
    rw [Bool.and_eq_true, Bool.not_eq_true'] at hpc
    have two : ∀ {u v : Px}, u ∈ T → v ∈ T → overP s u x = true → overP s v x = true → covB s R u x = false → v.a0 ≤ u.a0 → u = v := by
      intro u v hu hv huo hvo huc hle
      refine Decidable.byContradiction fun hne => ?_
      have ho := chain1 hn (hT u hu) (hT v hv) hx huo hvo hle
      rcases (hRT v).1 hv with hvR | rfl
      · have : covB s R u x = true := List.any_eq_true.2 ⟨v, hvR, by rw [Bool.and_eq_true]; exact ⟨below_iff.2 ⟨hne, ho⟩, hvo⟩⟩
        rw [this] at huc; cases huc
      · have := over_antiP (hT u hu) (hT _ hv) ho (by rw [over_topP (hT u hu)]; exact (over_right huo).1)
        exact hne this
    rcases Int.le_total q.a0 p.a0 with h | h
    · exact two hp hq hpc.1 hqo hpc.2 h
    · exact (two hq hp hqo hpc.1 hqc h).symm
  have hg : ∀ p ∈ T, (if (overP s p x && !covB s R p x) = true then 1 else 0) = if p = q then 1 else 0 := fun p hp => by
    by_cases e : p = q
    · subst e; rw [if_pos rfl, if_pos (by rw [hqo, hqc]; rfl)]
    · rw [if_neg e, if_neg fun h => e (huni p hp h)]
  rw [List.map_congr_left hg]
  clear hg huni hlow hT hRT
  induction T with
  | nil => cases hq
  | cons y T ih =>
    have hn' := List.nodup_cons.1 hTn
    rw [List.map_cons, List.sum_cons]
    rcases List.mem_cons.1 hq with rfl | hq
    · rw [if_pos rfl]
      have : (T.map fun p => if p = q then 1 else 0) = T.map fun _ => 0 := List.map_congr_left fun p hp => if_neg fun e : p = q => hn'.1 (by rw [← e]; exact hp)
      rw [this]
      have : ∀ T : List Px, (T.map fun _ => 0).sum = 0 := fun T => by induction T with
        | nil => rfl
        | cons y T ih => rw [List.map_cons, List.sum_cons, ih]
      rw [this]
    · rw [if_neg (fun e : y = q => hn'.1 (by rw [e]; exact hq)), ih hn'.2 hq]
theorem sum_swap (c : Px → Px → Bool) : ∀ (T : List Px) (L : Ml), (T.map fun p => sumF (c p) L).sum = (L.map fun x => x.2 * (T.map fun p => if c p x.1 = true then 1 else 0).sum).sum
  | [], L => by
    have : ∀ L : Ml, (L.map fun x => x.2 * ([].map fun p => if c p x.1 = true then 1 else 0).sum).sum = 0 := fun L => by induction L with
      | nil => rfl
      | cons y L ih => rw [List.map_cons, List.sum_cons, ih]; rfl
    rw [this]; rfl
  | p :: T, L => by
    rw [List.map_cons, List.sum_cons, sum_swap c T L]
    clear sum_swap
    induction L with
    | nil => rfl
    | cons y L ih =>
      rw [sumF_cons, List.map_cons, List.sum_cons, List.map_cons, List.sum_cons, ← ih, List.map_cons, List.sum_cons, Nat.mul_add]
      cases h : c p y.1
      · rw [cond_false, if_neg (by decide)]; omega
      · rw [cond_true, if_pos rfl]; omega
theorem parts_total {s : Sp} {L : Ml} {R T : List Px} (hn : s.n = 1) (hL : MOk L) (hr : ∀ p ∈ keysM L, rightP s p = true) (hT : ∀ q ∈ T, POk q) (hTn : T.Nodup) (hRT : ∀ q, q ∈ T ↔ q ∈ R ∨ q = topP s) :
    (T.map fun p => restR s L R p).sum = totM L := by
  unfold restR
  rw [sum_swap (fun p x => overP s p x && !covB s R p x)]
  unfold totM sumF
  congr 1
  refine List.map_congr_left fun x hx => ?_
  have hk : x.1 ∈ keysM L := List.mem_map.2 ⟨x, hx, rfl⟩
  rw [one_counts hn (hL.at hx) (hr _ hk) hT hTn hRT, Nat.mul_one]; rfl
end Go.Proofs.YtgaohmfmomeflaaGreatDoor
end

section
/- exact: products and sums of 128 bits, what is heavy. -/
namespace Go.Proofs.YtgaohmfmomeflaaGreatDoor
open Go.Ve

theorem xadd : XOk P true 152 := by
  intro x y z w h0 h1 h2 h3
  rw [run_callFunc_extern Tryz.func152 (by kernel_rfl) (by kernel_rfl) (by kernel_rfl) (e := add64Entry) (by kernel_rfl), run_add64 x y z h0 h1 h2 h3]
  obtain ⟨a, rfl⟩ := Int.eq_ofNat_of_zero_le h0
  obtain ⟨b, rfl⟩ := Int.eq_ofNat_of_zero_le h1
  obtain ⟨c, rfl⟩ := Int.eq_ofNat_of_zero_le h2
  simp only [Result.andThen, xval, Int.toNat_natCast]
  congr 5 <;> omega
theorem lib_Mul64 (x y : Nat) (hx : x < H64) (hy : y < H64) : PCall P 124 [.int .u64 (x : Int), .int .u64 (y : Int)] (.tup [.int .u64 ((x * y / H64 : Nat) : Int), .int .u64 ((x * y % H64 : Nat) : Int)]) := by
  unfold PCall
  refine ⟨fn124.callable, fun M0 w vs hM hG hv => ?_⟩
  obtain ⟨hl, hv⟩ := hv
  obtain ⟨v0, v1, rfl⟩ : ∃ v0 v1, vs = [v0, v1] := by
    match vs, hl with
    | [a, b], _ => exact ⟨a, b, rfl⟩
  have e0 := (hv 0 _ rfl).int_inv
  have e1 := (hv 1 _ rfl).int_inv
  simp at e0 e1
  subst e0
  subst e1
  refine Calls.mono (show Calls P 124 _ w _ from Tryz.bits_Mul64 x y hx hy w) ?_
  rintro e w' ⟨rfl, rfl⟩
  refine ⟨_, rfl, Below.refl _ _, .tup _ _ _ rfl fun j u hj => ?_⟩
  match j with
  | 0 => cases hj; exact .int _ _ _
  | 1 => cases hj; exact .int _ _ _
theorem wmul_ok (x y : Nat) (hx : x < H64) (hy : y < H64) : PCall P 93 [.int .u64 (x : Int), .int .u64 (y : Int)] (wv (x * y)) := by
  have q1 := lib_Mul64 x y hx hy
  refine PCall.of_awp tok mixed fn93 (Nat.le_of_ble_eq_true rfl) ?_
  (conv => whnf); (repeat' ((first | (with_reducible first | refine Box.mk ?_ | refine And.intro (fun _ => ?_) (fun _ => ?_) | refine (forceH_eq _ _).mpr ?_) | refine ACall.of_pure (by assumption) (by rfl) ?_ | ((with_reducible show Exists _); refine ⟨_, ACall.of_pure (by assumption) (by rfl) ⟨rfl, rfl⟩, ?_⟩) | ((with_reducible show ∃ L, drawR L _ = true ∧ _); refine ⟨[], by kernel_rfl, ?_⟩) | ((with_reducible show _ ∧ _ ∧ _); refine ⟨by omega, by omega, ?_⟩) | fail) <;> conv => whnf))
  rfl
theorem wadd_ok (A B : Nat) (h : A + B < 2 ^ 128) : PCall P 128 [wv A, wv B] (.tup [wv (A + B), .bool false]) := by
  have hA := Nat.div_add_mod A H64
  have hB := Nat.div_add_mod B H64
  have hS := Nat.div_add_mod (A + B) H64
  have lA := lo_lt A
  have lB := lo_lt B
  have lS := lo_lt (A + B)
  have hS2 := hi_lt h
  have e1 : (A % H64 + B % H64) % H64 = (A + B) % H64 := (Nat.add_mod A B H64).symm
  have e2 : A / H64 + B / H64 + (A % H64 + B % H64) / H64 = (A + B) / H64 := by
    show A / 18446744073709551616 + B / 18446744073709551616 + (A % 18446744073709551616 + B % 18446744073709551616) / 18446744073709551616 = (A + B) / 18446744073709551616
    omega
  have c0 : (((A % H64 : Nat) : Int).toNat + ((B % H64 : Nat) : Int).toNat + Int.toNat 0) = A % H64 + B % H64 := by rw [Int.toNat_natCast, Int.toNat_natCast]; rfl
  have c1 : (A % H64 + B % H64) / H64 ≤ 1 := by
    show (A % 18446744073709551616 + B % 18446744073709551616) / 18446744073709551616 ≤ 1
    omega
  have c2 : ∀ x y z : Nat, ((x : Int).toNat + (y : Int).toNat + (z : Int).toNat) = x + y + z := fun x y z => by rw [Int.toNat_natCast, Int.toNat_natCast, Int.toNat_natCast]
  refine PCall.of_awp tok mixed fn128 (Nat.le_of_ble_eq_true rfl) ?_
  (conv => whnf); (repeat' ((first | (with_reducible first | refine Box.mk ?_ | refine And.intro (fun _ => ?_) (fun _ => ?_) | refine (forceH_eq _ _).mpr ?_) | refine ACall.of_pure (by assumption) (by rfl) ?_ | ((with_reducible show Exists _); refine ⟨_, ACall.of_pure (by assumption) (by rfl) ⟨rfl, rfl⟩, ?_⟩) | ((with_reducible show _ ∧ _ ∧ _); refine ⟨by omega, by omega, ?_⟩) | fail) <;> conv => whnf))
  refine ⟨xadd, ?_⟩
  (conv => whnf); (repeat' ((first | (with_reducible first | refine Box.mk ?_ | refine And.intro (fun _ => ?_) (fun _ => ?_) | refine (forceH_eq _ _).mpr ?_) | refine ACall.of_pure (by assumption) (by rfl) ?_ | ((with_reducible show Exists _); refine ⟨_, ACall.of_pure (by assumption) (by rfl) ⟨rfl, rfl⟩, ?_⟩) | ((with_reducible show _ ∧ _ ∧ _); refine ⟨by omega, by omega, ?_⟩) | fail) <;> conv => whnf))
  refine ⟨xadd, Int.natCast_nonneg _, Int.natCast_nonneg _, Int.natCast_nonneg _, ?_, ?_⟩
  · rw [c0]; exact Int.ofNat_le.2 c1
  (conv => whnf); (repeat' ((first | (with_reducible first | refine Box.mk ?_ | refine And.intro (fun _ => ?_) (fun _ => ?_) | refine (forceH_eq _ _).mpr ?_) | refine ACall.of_pure (by assumption) (by rfl) ?_ | ((with_reducible show Exists _); refine ⟨_, ACall.of_pure (by assumption) (by rfl) ⟨rfl, rfl⟩, ?_⟩) | ((with_reducible show _ ∧ _ ∧ _); refine ⟨by omega, by omega, ?_⟩) | fail) <;> conv => whnf))
  · rename_i h
    exfalso
    rw [c0, c2] at h
    rw [e2, Nat.div_eq_of_lt hS2] at h
    exact absurd h (by decide)
  · show AV.tup [.agg [.int .u64 _, .int .u64 _], .bool false] = AV.tup [.agg [.int .u64 _, .int .u64 _], .bool false]
    rw [c0, c2, e2, Nat.mod_eq_of_lt hS2, e1]
theorem heavy_ok (a b x n : Nat) (ha : 1 ≤ a) (hb : 1 ≤ b) (ha2 : a ≤ 1048576) (hb2 : b ≤ 1048576) (hx : x < H64) (hn : n < H64) :
    PCall P 61 [.int .i64 (a : Int), .int .i64 (b : Int), .int .u64 (x : Int), .int .u64 (n : Int)] (.bool (heavyN a b x n)) := by
  have q1 := wmul_ok b x (by show b < 18446744073709551616; omega) hx
  have q2 := wmul_ok a n (by show a < 18446744073709551616; omega) hn
  have q3 := wcmp_ok (b * x) (a * n)
  have w1 : IntKind.u64.wrap (b : Int) = (b : Int) := by rw [wrap_u64 (by omega) (by omega)]
  have w2 : IntKind.u64.wrap (a : Int) = (a : Int) := by rw [wrap_u64 (by omega) (by omega)]
  rw [← w1] at q1
  rw [← w2] at q2
  refine PCall.of_awp tok mixed fn61 (Nat.le_of_ble_eq_true rfl) ?_
  (conv => whnf); (repeat' ((first | (with_reducible first | refine Box.mk ?_ | refine And.intro (fun _ => ?_) (fun _ => ?_) | refine (forceH_eq _ _).mpr ?_) | refine ACall.of_pure (by assumption) (by rfl) ?_ | ((with_reducible show Exists _); refine ⟨_, ACall.of_pure (by assumption) (by rfl) ⟨rfl, rfl⟩, ?_⟩) | ((with_reducible show ∃ L, drawR L _ = true ∧ _); refine ⟨[], by kernel_rfl, ?_⟩) | ((with_reducible show _ ∧ _ ∧ _); refine ⟨by omega, by omega, ?_⟩) | fail) <;> conv => whnf))
  all_goals try (exfalso; omega)
  · rename_i h
    refine bool_true (decide_eq_true ?_)
    rcases wcmp_cases (b * x) (a * n) with ⟨h1, h2⟩ | ⟨h1, h2⟩ | ⟨h1, h2⟩ <;> omega
  · rename_i h
    refine bool_false (decide_eq_false ?_)
    rcases wcmp_cases (b * x) (a * n) with ⟨h1, h2⟩ | ⟨h1, h2⟩ | ⟨h1, h2⟩ <;> omega
def rightR (k a b : Int) : Bool := decide (1 ≤ k ∧ k ≤ 200 ∧ 1 ≤ a ∧ a ≤ b ∧ b ≤ 1048576 ∧ b < k * a)
theorem rright_ok (k a b : Int) : PCall P 62 [.int .i64 k, .int .i64 a, .int .i64 b] (.bool (rightR k a b)) := by
  by_cases h : 1 ≤ k ∧ k ≤ 200 ∧ 1 ≤ a ∧ a ≤ b ∧ b ≤ 1048576
  · have hm : 0 ≤ k * a ∧ k * a ≤ 200 * 1048576 := ⟨Int.mul_nonneg (by omega) (by omega), Int.mul_le_mul (by omega) (by omega) (by omega) (by omega)⟩
    have hw : IntKind.i64.wrap (k * a) = k * a := by rw [wrap_i64 (by omega) (by omega)]
    have e : rightR k a b = decide (b < k * a) := by
      unfold rightR
      by_cases h2 : b < k * a
      · rw [decide_eq_true h2, decide_eq_true]; omega
      · rw [decide_eq_false h2, decide_eq_false]; omega
    rw [e]
    refine PCall.of_awp tok mixed fn62 (Nat.le_of_ble_eq_true rfl) ?_
    (conv => whnf); (repeat' ((first | (with_reducible first | refine Box.mk ?_ | refine And.intro (fun _ => ?_) (fun _ => ?_) | refine (forceH_eq _ _).mpr ?_) | refine ACall.of_pure (by assumption) (by rfl) ?_ | ((with_reducible show Exists _); refine ⟨_, ACall.of_pure (by assumption) (by rfl) ⟨rfl, rfl⟩, ?_⟩) | ((with_reducible show ∃ L, drawR L _ = true ∧ _); refine ⟨[], by kernel_rfl, ?_⟩) | ((with_reducible show _ ∧ _ ∧ _); refine ⟨by omega, by omega, ?_⟩) | fail) <;> conv => whnf))
    all_goals try (exfalso; omega)
    · have h' : b < IntKind.i64.wrap (k * a) := by assumption
      rw [hw] at h'
      exact bool_true (decide_eq_true h')
    · have h' : ¬ b < IntKind.i64.wrap (k * a) := by assumption
      rw [hw] at h'
      exact bool_false (decide_eq_false h')
  · have e : rightR k a b = false := by unfold rightR; rw [decide_eq_false]; omega
    rw [e]
    refine PCall.of_awp tok mixed fn62 (Nat.le_of_ble_eq_true rfl) ?_
    (conv => whnf); (repeat' ((first | (with_reducible first | refine Box.mk ?_ | refine And.intro (fun _ => ?_) (fun _ => ?_) | refine (forceH_eq _ _).mpr ?_) | refine ACall.of_pure (by assumption) (by rfl) ?_ | ((with_reducible show Exists _); refine ⟨_, ACall.of_pure (by assumption) (by rfl) ⟨rfl, rfl⟩, ?_⟩) | ((with_reducible show ∃ L, drawR L _ = true ∧ _); refine ⟨[], by kernel_rfl, ?_⟩) | ((with_reducible show _ ∧ _ ∧ _); refine ⟨by omega, by omega, ?_⟩) | fail) <;> conv => whnf))
    all_goals first
      | (exfalso; omega)
      | rfl
end Go.Proofs.YtgaohmfmomeflaaGreatDoor
end

section
/- A row of one's own, looked at by a call: it is a constant while the call runs, and one's own again behind it. -/
namespace Go.Ve

/-- Values that say nothing of constant memory. -/
def kf1 : AV → Bool
  | .int _ _ | .bool _ | .str _ | .nils | .nilp | .nilf | .nili | .nilm | .own _ | .ptr _ _ | .eptr _ _ _ _ | .asl _ _ _ => true
  | _ => false
def kfv : AV → Bool
  | .agg cs => cs.all kf1
  | x => kf1 x
def kfr : AV → Bool
  | .tup cs => cs.all kfv
  | x => kfv x
theorem Rv.kf1 [Dr] {K K' : Addr → Value → Prop} {σ : List Value} {x : AV} {v : Value} (h : Rv K σ x v) (hf : Ve.kf1 x = true) : Rv K' σ x v := by
  cases h with
  | int _ k n => exact .int _ _ _
  | bool _ b => exact .bool _ _
  | str _ s => exact .str _ _
  | nils => exact .nils _
  | nilp => exact .nilp _
  | nilf => exact .nilf _
  | nili => exact .nili _
  | nilm => exact .nilm _
  | own _ id v h h1 => exact .own _ _ _ h h1
  | ptr _ id off b h => exact .ptr _ _ _ _ h
  | eptr _ id i sz off g n cap h => exact .eptr _ _ _ _ _ _ _ _ h
  | asl _ id off n b cap hc h => exact .asl _ _ _ _ _ _ hc h
  | _ => simp [Ve.kf1] at hf
theorem Rv.kfv [Dr] {K K' : Addr → Value → Prop} {σ : List Value} {x : AV} {v : Value} (h : Rv K σ x v) (hf : Ve.kfv x = true) : Rv K' σ x v := by
  unfold Ve.kfv at hf
  split at hf
  · rename_i cs
    obtain ⟨vs, rfl, h1, h2, h3⟩ := h.agg_inv
    exact .agg _ _ _ h1 h2 fun j y hy => (h3 j y hy).kf1 (List.all_eq_true.1 hf y (List.mem_of_getElem? hy))
  · exact h.kf1 hf
theorem Rv.kfr [Dr] {K K' : Addr → Value → Prop} {σ : List Value} {x : AV} {v : Value} (h : Rv K σ x v) (hf : Ve.kfr x = true) : Rv K' σ x v := by
  unfold Ve.kfr at hf
  split at hf
  · rename_i cs
    obtain ⟨vs, rfl, h1, h2⟩ := h.tup_inv
    exact .tup _ _ _ h1 fun j y hy => (h2 j y hy).kfv (List.all_eq_true.1 hf y (List.mem_of_getElem? hy))
  · exact h.kfv hf
/-- Objects that say nothing of constant memory. -/
def kfO : Ob → Prop
  | .box _ cs => cs.all kf1 = true
  | .row _ _ es => ∀ c ∈ es, c.all kf1 = true
  | .map _ es _ => ∀ e ∈ es, e.1.all kf1 = true ∧ kfv e.2.1 = true
  | .iter _ _ _ _ | .dead => True
  | _ => False
def kfH : Hp → Prop
  | [] => True
  | o :: r => kfO o ∧ kfH r
theorem kfH.get : ∀ {H : Hp} {i : Nat} {o : Ob}, kfH H → H[i]? = some o → kfO o
  | _ :: _, 0, _, h, hi => by simp at hi; exact hi ▸ h.1
  | _ :: r, i + 1, _, h, hi => kfH.get (H := r) h.2 (by simpa using hi)
theorem ObOk.kf [Dr] {K K' : Addr → Value → Prop} {σ : List Value} {w : World} {o : Ob} {v : Value} (h : ObOk K σ w o v) (hf : kfO o) : ObOk K' σ w o v := by
  cases o with
  | box t cs =>
    obtain ⟨q0, b, vs, rfl, q1, q2, q3⟩ := h
    exact ⟨q0, b, vs, rfl, q1, q2, fun j x hx => (q3 j x hx).kf1 (List.all_eq_true.1 hf x (List.mem_of_getElem? hx))⟩
  | row t sz es =>
    obtain ⟨q0, ⟨e0, e1⟩ | ⟨g, cap, cur, e1, q1, q2, q3, q4, q5⟩⟩ := h
    · exact ⟨q0, .inl ⟨e0, e1⟩⟩
    · exact ⟨q0, .inr ⟨g, cap, cur, e1, q1, q2, q3, q4, fun i c hc => ⟨(q5 i c hc).1, (q5 i c hc).2.1, fun j x hx => ((q5 i c hc).2.2 j x hx).kf1 (List.all_eq_true.1 (hf c (List.mem_of_getElem? hc)) x (List.mem_of_getElem? hx))⟩⟩⟩
  | map ks es clk =>
    obtain ⟨q0, q1, b, xs, e1, q2, q3, q4⟩ := h
    refine ⟨q0, q1, b, xs, e1, q2, q3, fun i e he => ?_⟩
    obtain ⟨x, us, k1, k2, k3, k4, k5, k6⟩ := q4 i e he
    have hfe := hf e (List.mem_of_getElem? he)
    exact ⟨x, us, k1, k2, k3, k4, k5.kfv hfe.1, k6.kfv hfe.2⟩
  | iter mid since seen last => exact h
  | dead => exact h
  | _ => exact hf.elim
theorem ACall.view [Dr] {P : Program} {f : FuncId} {args az : List AV} {H : Hp} {K : KV} (id : Nat) {rt rs : Nat} {es : List (List AV)} (hH : H[id]? = some (.row rt rs es)) (hfl : ∀ c ∈ es, c.all kf1 = true) (ha : frzL id es args = az)
    (h : ACall P f az (H.set id (.frz es)) fun r H' => kfr r = true ∧ kfH (H'.set id .dead) ∧ H'[id]? = some (.frz es) ∧ K r (H'.set id (.row rt rs es))) : ACall P f args H K := by
  unfold ACall at h ⊢
  obtain ⟨hca, h⟩ := h
  refine ⟨hca, fun M0 σ w vs hs hv => ?_⟩
  obtain ⟨v, hσ⟩ : ∃ v, σ[id]? = some v := ⟨_, List.getElem?_eq_getElem (by rw [hs.len]; exact (List.getElem?_eq_some_iff.1 hH).1)⟩
  have hrow := hs.ok id _ _ hH hσ
  obtain ⟨s1, x1, r1⟩ := hs.freeze hH hσ
  have hv' : Rvs (Kof M0 (H.set id (.frz es)) σ w) σ az vs := by
    rw [← ha]
    refine ⟨by rw [frzL_len]; exact hv.1, fun i y hy => ?_⟩
    obtain ⟨x, hx, rfl⟩ := frzL_get hy
    have hr := x1.rv (hv.2 i x hx)
    unfold frzV
    split
    · rename_i k
      cases hk : Nat.beq k id with
      | false => exact hr
      | true =>
        have := Nat.eq_of_beq_eq_true hk
        subst this
        have h1 := hr.own_inv
        rw [hσ] at h1
        simp only [Option.some.injEq] at h1
        rw [cond_true, ← h1]
        exact r1.closed rfl
    · rename_i k
      cases hk : Nat.beq k id with
      | false => exact hr
      | true =>
        have := Nat.eq_of_beq_eq_true hk
        subst this
        obtain ⟨a, n, cap, e1, e2⟩ := hr.vw_inv
        rw [hσ] at e2
        simp only [Option.some.injEq] at e2
        rw [cond_true, e1]
        rw [e2] at r1
        exact r1.tight.closed rfl
    · exact hr
  refine Calls.mono (h M0 σ w vs s1 hv') fun e w' he => ?_
  obtain ⟨u, r, H', σ', k1, k2, k3, k4, kf, kh, kid, kK⟩ := he
  have hlen' := k2.len
  have hidl : id < H'.length := (List.getElem?_eq_some_iff.1 kid).1
  have hσ' : σ'[id]? = some v := by
    obtain ⟨t, ht⟩ := k3.pre
    rw [← ht, List.getElem?_append_left (List.getElem?_eq_some_iff.1 hσ).1]; exact hσ
  have hMg : ∀ g, blkOf v = some g → Mb H σ g := fun g hg => ⟨id, _, _, hH, rfl, hσ, hg⟩
  have hnM : ∀ g, blkOf v = some g → ¬ Mb (H.set id (.frz es)) σ g := by
    rintro g hg ⟨i, o, v', m1, m2, m3, m4⟩
    rcases set_cases m1 with ⟨rfl, rfl⟩ | ⟨hne, k⟩
    · simp [live] at m2
    · exact hs.dist i id o _ v' _ g hne k hH m2 rfl m3 hσ m4 hg
  have hgs : ∀ g, blkOf v = some g → g < w.heap.size := fun g hg => by
    obtain ⟨q0, ⟨e0, e1⟩ | ⟨g', cap, cur, e1, q1, _⟩⟩ := hrow
    · rw [e1] at hg; simp [blkOf] at hg
    · rw [e1] at hg
      simp [blkOf] at hg
      subst hg
      exact (Array.getElem?_eq_some_iff.1 q1).1
  have hMb : ∀ b, Mb (H'.set id (.row rt rs es)) σ' b → Mb H' σ' b ∨ blkOf v = some b := by
    rintro b ⟨i, o, v', m1, m2, m3, m4⟩
    rcases set_cases m1 with ⟨rfl, rfl⟩ | ⟨hne, k⟩
    · rw [hσ'] at m3
      exact .inr (by rw [Option.some.inj m3]; exact m4)
    · exact .inl ⟨i, o, v', k, m2, m3, m4⟩
  have hn2 : ∀ g, blkOf v = some g → ¬ Mb H' σ' g := fun g hg hm => hnM g hg (k3.mutb g (hgs g hg) hm)
  have x2 := x1.trans k3
  refine ⟨u, r, H'.set id (.row rt rs es), σ', k1, ⟨by rw [List.length_set]; exact hlen', fun i o' v' hi hv2 => ?_, fun i j o o' v1 v2 b hij hi hj l1 l2 h1 h2 b1 => ?_, fun b hb => ?_, k2.old, fun b hb => ?_⟩, ⟨x2.os, x2.tape, x2.output, x2.size, x2.pre, x2.keep, fun b hbs hb => ?_⟩, k4.kfr kf, kK⟩
  · rcases set_cases hi with ⟨rfl, rfl⟩ | ⟨hne, k⟩
    · rw [hσ'] at hv2
      cases hv2
      obtain ⟨q0, ⟨e0, e1⟩ | ⟨g, cap, cur, e1, q1, q2, q3, q4, q5⟩⟩ := hrow
      · exact ⟨q0, .inl ⟨e0, e1⟩⟩
      · have hg : blkOf v = some g := by rw [e1]; rfl
        exact ⟨q0, .inr ⟨g, cap, cur, e1, (k3.keep g (hgs g hg) (hnM g hg)).trans q1, q2, q3, q4, fun i c hc => ⟨(q5 i c hc).1, (q5 i c hc).2.1, fun j x hx => ((q5 i c hc).2.2 j x hx).kf1 (List.all_eq_true.1 (hfl c (List.mem_of_getElem? hc)) x (List.mem_of_getElem? hx))⟩⟩⟩
    · exact (k2.ok i o' v' k hv2).kf (kh.get (i := i) (by rw [List.getElem?_set_ne (Ne.symm hne)]; exact k))
  · rcases set_cases hi with ⟨rfl, rfl⟩ | ⟨hne, k⟩
    · rcases set_cases hj with ⟨rfl, rfl⟩ | ⟨hne2, k'⟩
      · exact absurd rfl hij
      · rw [hσ'] at h1
        cases h1
        exact fun b2 => hn2 b b1 ⟨j, o', v2, k', l2, h2, b2⟩
    · rcases set_cases hj with ⟨rfl, rfl⟩ | ⟨hne2, k'⟩
      · rw [hσ'] at h2
        cases h2
        exact fun b2 => hn2 b b2 ⟨i, o, v1, k, l1, h1, b1⟩
      · exact k2.dist i j o o' v1 v2 b hij k k' l1 l2 h1 h2 b1
  · rcases hMb b hb with hb | hb
    · exact k2.sep b hb
    · exact hs.sep b (hMg b hb)
  · obtain ⟨m, hm⟩ := k2.glob b hb
    obtain ⟨m0, hm0⟩ := hs.glob b hb
    refine ⟨m, fun hx => ?_, hm.2⟩
    rcases hx with hx | hx
    · exact hm.1 (.inl hx)
    · rcases hMb _ hx with hx | hx
      · exact hm.1 (.inr hx)
      · exact hm0.1 (.inr (hMg _ hx))
  · rcases hMb b hb with hb | hb
    · exact x2.mutb b hbs hb
    · exact hMg b hb
end Go.Ve
end

section
/- exact: prefixes in lists, what is reported below a prefix. -/
namespace Go.Proofs.YtgaohmfmomeflaaGreatDoor
open Go.Ve

theorem weak_nl {N0 : Nat} {s : AS} (L : List (Nat × Bool)) {H1 : Hp} {l1 l2 : List (Nat × AV)} (t sz : Nat) (h0 : 0 < sz) (hok : okL s.H.length L = true) (hpre : preL 0 N0 L = true) (hH : heapOf (gOf L 0) s.H L = H1)
    (h : EnvIs (fun i => renV (gOf L 0) (s.env i)) l1) (hl : NrE H1.length (envL l1) l2) (hh : NrH H1.length H1 H1) : Weak N0 s ⟨envL l2, H1 ++ [.row t sz []]⟩ :=
  (weak_ren_to L hok hpre hH h).trans (weak_nilrow (s := ⟨envL l1, H1⟩) t sz h0 hl hh)
theorem pcl_kf (l : List Px) : ∀ c ∈ pcl l, c.all kf1 = true := fun c hc => by
  obtain ⟨x, _, rfl⟩ := List.mem_map.1 hc; rfl
theorem below_ok (s : Sp) (p q : Px) (hp : POk p) (hq : POk q) : PCall P 101 [spv s, pxv p, pxv q] (.bool (belowP s p q)) := by
  have q1 := pOver_ok s p q hp hq
  unfold belowP
  generalize overP s p q = o at *
  refine PCall.of_awp tok mixed fn101 (Nat.le_of_ble_eq_true rfl) ?_
  (conv => whnf); (repeat' ((first | (with_reducible first | refine Box.mk ?_ | refine And.intro (fun _ => ?_) (fun _ => ?_) | refine (forceH_eq _ _).mpr ?_) | refine ACall.of_pure (by assumption) (by rfl) ?_ | ((with_reducible show Exists _); refine ⟨_, ACall.of_pure (by assumption) (by rfl) ⟨rfl, rfl⟩, ?_⟩) | ((with_reducible show ∃ L, drawR L _ = true ∧ _); refine ⟨[], by kernel_rfl, ?_⟩) | ((with_reducible show _ ∧ _ ∧ _); refine ⟨by omega, by omega, ?_⟩) | fail) <;> conv => whnf))
  · rename_i h
    refine bool_false ?_
    rw [decide_eq_false (show ¬ p ≠ q from fun h2 => h2 (px_eq.1 h))]; rfl
  · rename_i h
    refine congrArg AV.bool ?_
    rw [decide_eq_true (show p ≠ q from fun h2 => h (px_eq.2 h2))]; cases o <;> rfl

/-! ### places in a list -/
section
variable {α : Type} {q : α → Bool}
def idxG (q : α → Bool) : Nat → List α → Int
  | _, [] => -1
  | k, x :: xs => if q x then (k : Int) else idxG q (k + 1) xs
theorem idxG_hit : ∀ {l : List α} {k i : Nat} {x : α}, l[i]? = some x → q x = true → (∀ j y, j < i → l[j]? = some y → q y = false) → idxG q k l = ((k + i : Nat) : Int)
  | [], k, i, x, h, _, _ => by simp at h
  | y :: l, k, 0, x, h, hq, _ => by simp at h; subst h; simp [idxG, hq]
  | y :: l, k, i + 1, x, h, hq, hn => by
    have h0 := hn 0 y (by omega) rfl
    rw [idxG, if_neg (by simp [h0]), idxG_hit (k := k + 1) (i := i) (by simpa using h) hq (fun j z hj hz => hn (j + 1) z (by omega) (by simpa using hz))]
    congr 1; omega
theorem idxG_miss : ∀ {l : List α} {k : Nat}, (∀ y ∈ l, q y = false) → idxG q k l = -1
  | [], _, _ => rfl
  | y :: l, k, h => by rw [idxG, if_neg (by simp [h y List.mem_cons_self]), idxG_miss fun z hz => h z (List.mem_cons_of_mem _ hz)]
theorem idxG_any : ∀ {l : List α} {k : Nat}, decide (0 ≤ idxG q k l) = l.any q
  | [], _ => rfl
  | y :: l, k => by
    rw [idxG, List.any_cons]
    cases hq : q y with
    | true => simp
    | false => simpa using idxG_any (l := l) (k := k + 1)
end
theorem any_mem {l : List Px} {p : Px} : l.any (fun x => decide (p = x)) = decide (p ∈ l) := by
  rw [Bool.eq_iff_iff, List.any_eq_true, decide_eq_true_iff]
  exact ⟨fun ⟨x, h1, h2⟩ => by rw [of_decide_eq_true h2]; exact h1, fun h => ⟨p, h, decide_eq_true rfl⟩⟩
theorem pindex_ok (l : List Px) (p : Px) (hl : l.length ≤ 9223372036854775807) : PCall P 125 [.sl (pcl l), pxv p] (.int .i64 (idxG (fun x => decide (p = x)) 0 l)) := by
  have hlc := pcl_len l
  refine PCall.of_awp tok mixed fn125 (Nat.le_of_ble_eq_true rfl) ?_
  (conv => whnf); (repeat' ((first | (with_reducible first | refine Box.mk ?_ | refine And.intro (fun _ => ?_) (fun _ => ?_) | refine (forceH_eq _ _).mpr ?_) | refine ACall.of_pure (by assumption) (by rfl) ?_ | ((with_reducible show Exists _); refine ⟨_, ACall.of_pure (by assumption) (by rfl) ⟨rfl, rfl⟩, ?_⟩) | ((with_reducible show ∃ L, drawR L _ = true ∧ _); refine ⟨[], by kernel_rfl, ?_⟩) | ((with_reducible show _ ∧ _ ∧ _); refine ⟨by omega, by omega, ?_⟩) | fail) <;> conv => whnf))
  refine aloopH (fun i : Nat => i ≤ l.length ∧ ∀ j x, j < i → l[j]? = some x → decide (p = x) = false) (fun i : Nat => [(0, .sl (pcl l)), (3, .ptr 0 0), (7, .int .i64 ((pcl l).length : Int)), (8, .int .i64 i)]) (fun _ H => H) (fun i => l.length - i) 0 ⟨Nat.zero_le _, fun j c h => by omega⟩ (weak_to ⟨rfl, rfl, rfl, rfl, trivial⟩ rfl) ?_
  rintro i ⟨hi, hok⟩
  (conv => whnf); (repeat' ((first | (with_reducible first | refine Box.mk ?_ | refine And.intro (fun _ => ?_) (fun _ => ?_) | refine (forceH_eq _ _).mpr ?_) | refine ACall.of_pure (by assumption) (by rfl) ?_ | ((with_reducible show Exists _); refine ⟨_, ACall.of_pure (by assumption) (by rfl) ⟨rfl, rfl⟩, ?_⟩) | ((with_reducible show ∃ L, drawR L _ = true ∧ _); refine ⟨[], by kernel_rfl, ?_⟩) | ((with_reducible show _ ∧ _ ∧ _); refine ⟨by omega, by omega, ?_⟩) | fail) <;> conv => whnf))
  · rename_i hlt
    have hlt : i < l.length := by omega
    have hx := List.getElem?_eq_getElem hlt
    have hok2 : p ≠ l[i] → ∀ j x, j < i + 1 → l[j]? = some x → decide (p = x) = false := fun hne j x hj hxj => by
      rcases Nat.lt_or_ge j i with h | h
      · exact hok j x h hxj
      · have : j = i := by omega
        subst this
        rw [hx] at hxj
        rw [← Option.some.inj hxj]; exact decide_eq_false hne
    have hit : p = l[i] → idxG (fun x => decide (p = x)) 0 l = (i : Int) := fun he => by
      rw [idxG_hit hx (decide_eq_true he) hok, Nat.zero_add]
    generalize l[i] = x at *
    refine ⟨by omega, pcs x, by rw [Int.toNat_natCast, pcl_get, hx]; rfl, rfl, ?_⟩
    (conv => whnf); (repeat' ((first | (with_reducible first | refine Box.mk ?_ | refine And.intro (fun _ => ?_) (fun _ => ?_) | refine (forceH_eq _ _).mpr ?_) | refine ACall.of_pure (by assumption) (by rfl) ?_ | ((with_reducible show Exists _); refine ⟨_, ACall.of_pure (by assumption) (by rfl) ⟨rfl, rfl⟩, ?_⟩) | ((with_reducible show ∃ L, drawR L _ = true ∧ _); refine ⟨[], by kernel_rfl, ?_⟩) | ((with_reducible show _ ∧ _ ∧ _); refine ⟨by omega, by omega, ?_⟩) | fail) <;> conv => whnf))
    · rename_i h
      exact res1_eq (congrArg (AV.int .i64) (hit (px_eq.1 h)).symm)
    · rename_i h
      exact ⟨i + 1, ⟨hlt, hok2 fun e => h (px_eq.2 e)⟩, by omega, weak_ren_to [(0, true)] rfl rfl rfl ⟨rfl, rfl, rfl, wrap_nat (m := 1) (by omega), trivial⟩⟩
  · refine res1_eq (congrArg (AV.int .i64) ?_)
    rw [idxG_miss]
    intro y hy
    obtain ⟨j, hj⟩ := List.getElem?_of_mem hy
    exact hok j y (by have := (List.getElem?_eq_some_iff.1 hj).1; omega) hj
theorem pcontains_ok (l : List Px) (p : Px) (hl : l.length ≤ 9223372036854775807) : PCall P 95 [.sl (pcl l), pxv p] (.bool (decide (p ∈ l))) := by
  have q1 := pindex_ok l p hl
  rw [← any_mem, ← idxG_any (k := 0)]
  refine PCall.of_awp tok mixed fn95 (Nat.le_of_ble_eq_true rfl) ?_
  (conv => whnf); (repeat' ((first | (with_reducible first | refine Box.mk ?_ | refine And.intro (fun _ => ?_) (fun _ => ?_) | refine (forceH_eq _ _).mpr ?_) | refine ACall.of_pure (by assumption) (by rfl) ?_ | ((with_reducible show Exists _); refine ⟨_, ACall.of_pure (by assumption) (by rfl) ⟨rfl, rfl⟩, ?_⟩) | ((with_reducible show ∃ L, drawR L _ = true ∧ _); refine ⟨[], by kernel_rfl, ?_⟩) | ((with_reducible show _ ∧ _ ∧ _); refine ⟨by omega, by omega, ?_⟩) | fail) <;> conv => whnf))
  · exact bool_true (decide_eq_true (by assumption))
  · exact bool_false (decide_eq_false (by assumption))

/-! ### what is reported below, each once -/
theorem underL_take {s : Sp} {R : List Px} {p : Px} {i : Nat} {q : Px} (h : R[i]? = some q) : underL s (R.take (i + 1)) p = if belowP s p q = true ∧ q ∉ underL s (R.take i) p then underL s (R.take i) p ++ [q] else underL s (R.take i) p := by
  rw [List.take_add_one, h]
  unfold underL
  rw [List.foldl_append]; rfl
theorem underL_len (s : Sp) (p : Px) : ∀ (R : List Px), (underL s R p).length ≤ R.length := by
  have : ∀ (R l : List Px), (R.foldl (fun l q => if belowP s p q = true ∧ q ∉ l then l ++ [q] else l) l).length ≤ l.length + R.length := by
    intro R
    induction R with
    | nil => intro l; exact Nat.le_refl _
    | cons q R ih =>
      intro l
      rw [List.foldl_cons, List.length_cons]
      refine Nat.le_trans (ih _) ?_
      split
      · rw [List.length_append]; simp only [List.length_cons, List.length_nil]; omega
      · omega
  intro R
  have := this R []
  simpa [underL] using this
theorem under_ok (s : Sp) (R : List Px) (p : Px) (hp : POk p) (hR : ∀ q ∈ R, POk q) (hl : R.length ≤ 1000000000000) : PCall P 100 [spv s, .sl (pcl R), pxv p] (.sl (pcl (underL s R p))) := by
  have hlc := pcl_len R
  refine PCall.of_awp tok mixed fn100 (Nat.le_of_ble_eq_true rfl) ?_
  (conv => whnf); (repeat' ((first | (with_reducible first | refine Box.mk ?_ | refine And.intro (fun _ => ?_) (fun _ => ?_) | refine (forceH_eq _ _).mpr ?_) | refine ACall.of_pure (by assumption) (by rfl) ?_ | ((with_reducible show Exists _); refine ⟨_, ACall.of_pure (by assumption) (by rfl) ⟨rfl, rfl⟩, ?_⟩) | ((with_reducible show _ ∧ _ ∧ _); refine ⟨by omega, by omega, ?_⟩) | fail) <;> conv => whnf))
  refine aloop (fun i : Nat => i ≤ R.length) (fun i => ⟨envL [(3, .ptr 0 0), (5, .ptr 1 0), (7, .own 2), (10, .sl (pcl R)), (11, .int .i64 ((pcl R).length : Int)), (12, .int .i64 (i : Int))], [.box 26 (scs s), .box 34 (pcs p)] ++ [Ob.row 34 12 (pcl (underL s (R.take i) p))]⟩) (fun i => R.length - i) 0 (Nat.zero_le _) ?_ ?_
  · exact weak_nl [(0, true), (1, true)] (l1 := [(3, .ptr 0 0), (5, .ptr 1 0), (7, .nils), (10, .sl (pcl R)), (11, .int .i64 ((pcl R).length : Int)), (12, .int .i64 0)]) (H1 := [.box 26 (scs s), .box 34 (pcs p)]) 34 12 (by decide) rfl rfl rfl ⟨rfl, rfl, rfl, rfl, rfl, rfl, trivial⟩ ⟨.inl rfl, .inl rfl, .inr ⟨rfl, rfl⟩, .inl rfl, .inl rfl, .inl rfl, trivial⟩ ⟨.inl rfl, .inl rfl, trivial⟩
  intro i hi
  have hul := underL_len s p (R.take i)
  rw [List.length_take] at hul
  have hui := pcl_len (underL s (R.take i) p)
  by_cases hlt : i < R.length
  · have hx := List.getElem?_eq_getElem hlt
    have hst := underL_take (s := s) (p := p) hx
    have hqo := hR _ (List.mem_of_getElem? hx)
    generalize R[i] = q at *
    have q1 := below_ok s p q hp hqo
    have q2 := pcontains_ok (underL s (R.take i) p) q (by omega)
    generalize underL s (R.take i) p = U at *
    generalize belowP s p q = b at *
    cases b
    · rw [if_neg (fun h => absurd h.1 (by decide))] at hst
      (conv => whnf); (repeat' ((first | (with_reducible first | refine Box.mk ?_ | refine And.intro (fun _ => ?_) (fun _ => ?_) | refine (forceH_eq _ _).mpr ?_) | refine ACall.of_pure (by assumption) (by rfl) ?_ | ((with_reducible show Exists _); refine ⟨_, ACall.of_pure (by assumption) (by rfl) ⟨rfl, rfl⟩, ?_⟩) | ((with_reducible show _ ∧ _ ∧ _); refine ⟨by omega, by omega, ?_⟩) | fail) <;> conv => whnf))
      rotate_left
      · exfalso; rename_i h; have h : ¬ (i : Int) < ((pcl R).length : Int) := h; omega
      refine ⟨by omega, pcs q, by rw [Int.toNat_natCast, pcl_get, hx]; rfl, rfl, ?_⟩
      (conv => whnf); (repeat' ((first | (with_reducible first | refine Box.mk ?_ | refine And.intro (fun _ => ?_) (fun _ => ?_) | refine (forceH_eq _ _).mpr ?_) | refine ACall.of_pure (by assumption) (by rfl) ?_ | ((with_reducible show Exists _); refine ⟨_, ACall.of_pure (by assumption) (by rfl) ⟨rfl, rfl⟩, ?_⟩) | ((with_reducible show _ ∧ _ ∧ _); refine ⟨by omega, by omega, ?_⟩) | fail) <;> conv => whnf))
      refine ⟨i + 1, hlt, by omega, weak_ren_to [(0, true), (1, true), (2, true)] rfl rfl ?_ ⟨rfl, rfl, rfl, rfl, rfl, wrap_nat (m := 1) (by omega), trivial⟩⟩
      rw [hst]; rfl
    · by_cases hm : q ∈ U
      · rw [if_neg (fun h => h.2 hm)] at hst
        rw [decide_eq_true hm] at q2
        (conv => whnf); (repeat' ((first | (with_reducible first | refine Box.mk ?_ | refine And.intro (fun _ => ?_) (fun _ => ?_) | refine (forceH_eq _ _).mpr ?_) | refine ACall.of_pure (by assumption) (by rfl) ?_ | ((with_reducible show Exists _); refine ⟨_, ACall.of_pure (by assumption) (by rfl) ⟨rfl, rfl⟩, ?_⟩) | ((with_reducible show _ ∧ _ ∧ _); refine ⟨by omega, by omega, ?_⟩) | fail) <;> conv => whnf))
        rotate_left
        · exfalso; rename_i h; have h : ¬ (i : Int) < ((pcl R).length : Int) := h; omega
        refine ⟨by omega, pcs q, by rw [Int.toNat_natCast, pcl_get, hx]; rfl, rfl, ?_⟩
        (conv => whnf); (repeat' ((first | (with_reducible first | refine Box.mk ?_ | refine And.intro (fun _ => ?_) (fun _ => ?_) | refine (forceH_eq _ _).mpr ?_) | refine ACall.of_pure (by assumption) (by rfl) ?_ | ((with_reducible show Exists _); refine ⟨_, ACall.of_pure (by assumption) (by rfl) ⟨rfl, rfl⟩, ?_⟩) | ((with_reducible show _ ∧ _ ∧ _); refine ⟨by omega, by omega, ?_⟩) | fail) <;> conv => whnf))
        refine ACall.of_view q2 rfl rfl ?_
        (conv => whnf); (repeat' ((first | (with_reducible first | refine Box.mk ?_ | refine And.intro (fun _ => ?_) (fun _ => ?_) | refine (forceH_eq _ _).mpr ?_) | refine ACall.of_pure (by assumption) (by rfl) ?_ | ((with_reducible show Exists _); refine ⟨_, ACall.of_pure (by assumption) (by rfl) ⟨rfl, rfl⟩, ?_⟩) | ((with_reducible show _ ∧ _ ∧ _); refine ⟨by omega, by omega, ?_⟩) | fail) <;> conv => whnf))
        refine ⟨i + 1, hlt, by omega, weak_ren_to [(0, true), (1, true), (2, true)] rfl rfl ?_ ⟨rfl, rfl, rfl, rfl, rfl, wrap_nat (m := 1) (by omega), trivial⟩⟩
        rw [hst]; rfl
      · rw [if_pos ⟨rfl, hm⟩] at hst
        rw [decide_eq_false hm] at q2
        (conv => whnf); (repeat' ((first | (with_reducible first | refine Box.mk ?_ | refine And.intro (fun _ => ?_) (fun _ => ?_) | refine (forceH_eq _ _).mpr ?_) | refine ACall.of_pure (by assumption) (by rfl) ?_ | ((with_reducible show Exists _); refine ⟨_, ACall.of_pure (by assumption) (by rfl) ⟨rfl, rfl⟩, ?_⟩) | ((with_reducible show _ ∧ _ ∧ _); refine ⟨by omega, by omega, ?_⟩) | fail) <;> conv => whnf))
        rotate_left
        · exfalso; rename_i h; have h : ¬ (i : Int) < ((pcl R).length : Int) := h; omega
        refine ⟨by omega, pcs q, by rw [Int.toNat_natCast, pcl_get, hx]; rfl, rfl, ?_⟩
        (conv => whnf); (repeat' ((first | (with_reducible first | refine Box.mk ?_ | refine And.intro (fun _ => ?_) (fun _ => ?_) | refine (forceH_eq _ _).mpr ?_) | refine ACall.of_pure (by assumption) (by rfl) ?_ | ((with_reducible show Exists _); refine ⟨_, ACall.of_pure (by assumption) (by rfl) ⟨rfl, rfl⟩, ?_⟩) | ((with_reducible show _ ∧ _ ∧ _); refine ⟨by omega, by omega, ?_⟩) | fail) <;> conv => whnf))
        refine ACall.of_view q2 rfl rfl ?_
        (conv => whnf); (repeat' ((first | (with_reducible first | refine Box.mk ?_ | refine And.intro (fun _ => ?_) (fun _ => ?_) | refine (forceH_eq _ _).mpr ?_) | refine ACall.of_pure (by assumption) (by rfl) ?_ | ((with_reducible show Exists _); refine ⟨_, ACall.of_pure (by assumption) (by rfl) ⟨rfl, rfl⟩, ?_⟩) | ((with_reducible show _ ∧ _ ∧ _); refine ⟨by omega, by omega, ?_⟩) | fail) <;> conv => whnf))
        refine ⟨fun c hc => by rw [List.mem_singleton.1 hc]; exact ⟨rfl, rfl⟩, by rw [hui]; show (_ + 1) * 112 ≤ _; omega, by rw [hui]; show _ + 1 ≤ _; omega, ?_⟩
        (conv => whnf); (repeat' ((first | (with_reducible first | refine Box.mk ?_ | refine And.intro (fun _ => ?_) (fun _ => ?_) | refine (forceH_eq _ _).mpr ?_) | refine ACall.of_pure (by assumption) (by rfl) ?_ | ((with_reducible show Exists _); refine ⟨_, ACall.of_pure (by assumption) (by rfl) ⟨rfl, rfl⟩, ?_⟩) | ((with_reducible show _ ∧ _ ∧ _); refine ⟨by omega, by omega, ?_⟩) | fail) <;> conv => whnf))
        refine ⟨i + 1, hlt, by omega, weak_ren_to [(0, true), (1, true), (5, true)] rfl rfl ?_ ⟨rfl, rfl, rfl, rfl, rfl, wrap_nat (m := 1) (by omega), trivial⟩⟩
        rw [hst, ← pcl_snoc]; rfl
  · have : i = R.length := by omega
    subst this
    (conv => whnf); (repeat' ((first | (with_reducible first | refine Box.mk ?_ | refine And.intro (fun _ => ?_) (fun _ => ?_) | refine (forceH_eq _ _).mpr ?_) | refine ACall.of_pure (by assumption) (by rfl) ?_ | ((with_reducible show Exists _); refine ⟨_, ACall.of_pure (by assumption) (by rfl) ⟨rfl, rfl⟩, ?_⟩) | ((with_reducible show _ ∧ _ ∧ _); refine ⟨by omega, by omega, ?_⟩) | fail) <;> conv => whnf))
    · exfalso; rename_i h; have h : ((R.length : Nat) : Int) < ((pcl R).length : Int) := h; omega
    · rw [List.take_length]; rfl

/-! ### the greatest of these -/
theorem great_ok (s : Sp) (R : List Px) (p : Px) (hp : POk p) (hR : ∀ q ∈ R, POk q) (hl : R.length ≤ 1000000000000) : PCall P 69 [spv s, .sl (pcl R), pxv p] (.sl (pcl (greatL s R p))) := by
  have q1 := under_ok s R p hp hR hl
  have hA : ∀ q ∈ underL s R p, POk q := fun q hq => hR q (under_mem.1 hq).1
  have hul := underL_len s p R
  unfold greatL
  generalize underL s R p = A at *
  have hlc := pcl_len A
  refine PCall.of_awp tok mixed fn69 (Nat.le_of_ble_eq_true rfl) ?_
  (conv => whnf); (repeat' ((first | (with_reducible first | refine Box.mk ?_ | refine And.intro (fun _ => ?_) (fun _ => ?_) | refine (forceH_eq _ _).mpr ?_) | refine ACall.of_pure (by assumption) (by rfl) ?_ | ((with_reducible show Exists _); refine ⟨_, ACall.of_pure (by assumption) (by rfl) ⟨rfl, rfl⟩, ?_⟩) | ((with_reducible show _ ∧ _ ∧ _); refine ⟨by omega, by omega, ?_⟩) | fail) <;> conv => whnf))
  refine aloop (fun i : Nat => i ≤ A.length) (fun i => ⟨envL [(3, .ptr 0 0), (5, .ptr 1 0), (7, .sl (pcl A)), (8, .own 2), (16, .int .i64 ((pcl A).length : Int)), (17, .int .i64 (i : Int))], [.box 26 (scs s), .box 34 (pcs p)] ++ [Ob.row 34 12 (pcl ((A.take i).filter fun x => !A.any fun y => belowP s y x))]⟩) (fun i => A.length - i) 0 (Nat.zero_le _) ?_ ?_
  · exact weak_nl [(0, true), (1, true)] (l1 := [(3, .ptr 0 0), (5, .ptr 1 0), (7, .sl (pcl A)), (8, .nils), (16, .int .i64 ((pcl A).length : Int)), (17, .int .i64 0)]) (H1 := [.box 26 (scs s), .box 34 (pcs p)]) 34 12 (by decide) rfl rfl rfl ⟨rfl, rfl, rfl, rfl, rfl, rfl, trivial⟩ ⟨.inl rfl, .inl rfl, .inl rfl, .inr ⟨rfl, rfl⟩, .inl rfl, .inl rfl, trivial⟩ ⟨.inl rfl, .inl rfl, trivial⟩
  intro i hi
  have hgl : ((A.take i).filter fun x => !A.any fun y => belowP s y x).length ≤ i := Nat.le_trans (List.length_filter_le _ _) (by rw [List.length_take]; omega)
  have hgc := pcl_len ((A.take i).filter fun x => !A.any fun y => belowP s y x)
  by_cases hlt : i < A.length
  · have hx := List.getElem?_eq_getElem hlt
    have hst : (A.take (i + 1)).filter (fun x => !A.any fun y => belowP s y x) = (A.take i).filter (fun x => !A.any fun y => belowP s y x) ++ if (A.any fun y => belowP s y A[i]) = true then [] else [A[i]] := by
      rw [List.take_add_one, hx, List.filter_append]
      cases h : A.any fun y => belowP s y A[i] <;> simp [h]
    have hxo := hA _ (List.mem_of_getElem? hx)
    generalize A[i] = x at *
    generalize (A.take i).filter (fun x => !A.any fun y => belowP s y x) = G at *
    (conv => whnf); (repeat' ((first | (with_reducible first | refine Box.mk ?_ | refine And.intro (fun _ => ?_) (fun _ => ?_) | refine (forceH_eq _ _).mpr ?_) | refine ACall.of_pure (by assumption) (by rfl) ?_ | ((with_reducible show Exists _); refine ⟨_, ACall.of_pure (by assumption) (by rfl) ⟨rfl, rfl⟩, ?_⟩) | ((with_reducible show _ ∧ _ ∧ _); refine ⟨by omega, by omega, ?_⟩) | fail) <;> conv => whnf))
    rotate_left
    · exfalso; rename_i h; have h : ¬ (i : Int) < ((pcl A).length : Int) := h; omega
    refine aloop (fun j : Nat => j ≤ A.length ∧ ∀ k y, k < j → A[k]? = some y → belowP s y x = false) (fun j => ⟨envL [(3, .ptr 0 0), (5, .ptr 1 0), (7, .sl (pcl A)), (8, .own 2), (9, .int .i64 (i : Int)), (16, .int .i64 ((pcl A).length : Int)), (17, .int .i64 (i : Int)), (21, .int .i64 ((pcl A).length : Int)), (22, .int .i64 (j : Int))], [.box 26 (scs s), .box 34 (pcs p)] ++ [Ob.row 34 12 (pcl G)]⟩) (fun j => A.length - j) 0 ⟨Nat.zero_le _, fun k y h => absurd h (Nat.not_lt_zero _)⟩
      (weak_to ⟨rfl, rfl, rfl, rfl, rfl, rfl, rfl, rfl, rfl, trivial⟩ rfl) ?_
    rintro j ⟨hj, hno⟩
    by_cases hlt2 : j < A.length
    · have hy := List.getElem?_eq_getElem hlt2
      have hyo := hA _ (List.mem_of_getElem? hy)
      have hno2 : belowP s A[j] x = false → ∀ k y, k < j + 1 → A[k]? = some y → belowP s y x = false := fun hb k y hk hky => by
        rcases Nat.lt_or_ge k j with h | h
        · exact hno k y h hky
        · have : k = j := by omega
          subst this
          rw [hy] at hky
          rw [← Option.some.inj hky]; exact hb
      have hyes : belowP s A[j] x = true → (A.any fun y => belowP s y x) = true := fun hb => List.any_eq_true.2 ⟨_, List.mem_of_getElem? hy, hb⟩
      generalize A[j] = y at *
      have q2 := below_ok s y x hyo hxo
      generalize belowP s y x = b at *
      (conv => whnf); (repeat' ((first | (with_reducible first | refine Box.mk ?_ | refine And.intro (fun _ => ?_) (fun _ => ?_) | refine (forceH_eq _ _).mpr ?_) | refine ACall.of_pure (by assumption) (by rfl) ?_ | ((with_reducible show Exists _); refine ⟨_, ACall.of_pure (by assumption) (by rfl) ⟨rfl, rfl⟩, ?_⟩) | ((with_reducible show _ ∧ _ ∧ _); refine ⟨by omega, by omega, ?_⟩) | fail) <;> conv => whnf))
      rotate_left
      · exfalso; rename_i h; have h : ¬ (j : Int) < ((pcl A).length : Int) := h; omega
      refine ⟨[], by kernel_rfl, ?_⟩
      cases b
      · (conv => whnf); (repeat' ((first | (with_reducible first | refine Box.mk ?_ | refine And.intro (fun _ => ?_) (fun _ => ?_) | refine (forceH_eq _ _).mpr ?_) | refine ACall.of_pure (by assumption) (by rfl) ?_ | ((with_reducible show Exists _); refine ⟨_, ACall.of_pure (by assumption) (by rfl) ⟨rfl, rfl⟩, ?_⟩) | ((with_reducible show _ ∧ _ ∧ _); refine ⟨by omega, by omega, ?_⟩) | fail) <;> conv => whnf))
        refine ⟨by omega, pcs y, by rw [Int.toNat_natCast, pcl_get, hy]; rfl, rfl, ?_⟩
        (conv => whnf); (repeat' ((first | (with_reducible first | refine Box.mk ?_ | refine And.intro (fun _ => ?_) (fun _ => ?_) | refine (forceH_eq _ _).mpr ?_) | refine ACall.of_pure (by assumption) (by rfl) ?_ | ((with_reducible show Exists _); refine ⟨_, ACall.of_pure (by assumption) (by rfl) ⟨rfl, rfl⟩, ?_⟩) | ((with_reducible show _ ∧ _ ∧ _); refine ⟨by omega, by omega, ?_⟩) | fail) <;> conv => whnf))
        refine ⟨by omega, pcs x, by rw [Int.toNat_natCast, pcl_get, hx]; rfl, rfl, ?_⟩
        (conv => whnf); (repeat' ((first | (with_reducible first | refine Box.mk ?_ | refine And.intro (fun _ => ?_) (fun _ => ?_) | refine (forceH_eq _ _).mpr ?_) | refine ACall.of_pure (by assumption) (by rfl) ?_ | ((with_reducible show Exists _); refine ⟨_, ACall.of_pure (by assumption) (by rfl) ⟨rfl, rfl⟩, ?_⟩) | ((with_reducible show _ ∧ _ ∧ _); refine ⟨by omega, by omega, ?_⟩) | fail) <;> conv => whnf))
        exact ⟨j + 1, ⟨hlt2, hno2 rfl⟩, by omega, weak_to ⟨rfl, rfl, rfl, rfl, rfl, rfl, rfl, rfl, wrap_nat (m := 1) (by omega), trivial⟩ rfl⟩
      · (conv => whnf); (repeat' ((first | (with_reducible first | refine Box.mk ?_ | refine And.intro (fun _ => ?_) (fun _ => ?_) | refine (forceH_eq _ _).mpr ?_) | refine ACall.of_pure (by assumption) (by rfl) ?_ | ((with_reducible show Exists _); refine ⟨_, ACall.of_pure (by assumption) (by rfl) ⟨rfl, rfl⟩, ?_⟩) | ((with_reducible show _ ∧ _ ∧ _); refine ⟨by omega, by omega, ?_⟩) | fail) <;> conv => whnf))
        refine ⟨by omega, pcs y, by rw [Int.toNat_natCast, pcl_get, hy]; rfl, rfl, ?_⟩
        (conv => whnf); (repeat' ((first | (with_reducible first | refine Box.mk ?_ | refine And.intro (fun _ => ?_) (fun _ => ?_) | refine (forceH_eq _ _).mpr ?_) | refine ACall.of_pure (by assumption) (by rfl) ?_ | ((with_reducible show Exists _); refine ⟨_, ACall.of_pure (by assumption) (by rfl) ⟨rfl, rfl⟩, ?_⟩) | ((with_reducible show _ ∧ _ ∧ _); refine ⟨by omega, by omega, ?_⟩) | fail) <;> conv => whnf))
        refine ⟨by omega, pcs x, by rw [Int.toNat_natCast, pcl_get, hx]; rfl, rfl, ?_⟩
        (conv => whnf); (repeat' ((first | (with_reducible first | refine Box.mk ?_ | refine And.intro (fun _ => ?_) (fun _ => ?_) | refine (forceH_eq _ _).mpr ?_) | refine ACall.of_pure (by assumption) (by rfl) ?_ | ((with_reducible show Exists _); refine ⟨_, ACall.of_pure (by assumption) (by rfl) ⟨rfl, rfl⟩, ?_⟩) | ((with_reducible show _ ∧ _ ∧ _); refine ⟨by omega, by omega, ?_⟩) | fail) <;> conv => whnf))
        rw [if_pos (hyes rfl), List.append_nil] at hst
        refine ⟨i + 1, hlt, by omega, weak_to ⟨rfl, rfl, rfl, rfl, rfl, wrap_nat (m := 1) (by omega), trivial⟩ ?_⟩
        rw [hst]; rfl
    · have : j = A.length := by omega
      subst this
      have hno3 : (A.any fun y => belowP s y x) = false := by
        rw [List.any_eq_false]
        intro y hy
        obtain ⟨k, hk⟩ := List.getElem?_of_mem hy
        rw [hno k y (List.getElem?_eq_some_iff.1 hk).1 hk]; decide
      rw [if_neg (by rw [hno3]; decide)] at hst
      (conv => whnf); (repeat' ((first | (with_reducible first | refine Box.mk ?_ | refine And.intro (fun _ => ?_) (fun _ => ?_) | refine (forceH_eq _ _).mpr ?_) | refine ACall.of_pure (by assumption) (by rfl) ?_ | ((with_reducible show Exists _); refine ⟨_, ACall.of_pure (by assumption) (by rfl) ⟨rfl, rfl⟩, ?_⟩) | ((with_reducible show _ ∧ _ ∧ _); refine ⟨by omega, by omega, ?_⟩) | fail) <;> conv => whnf))
      · exfalso; rename_i h; have h : ((A.length : Nat) : Int) < ((pcl A).length : Int) := h; omega
      refine ⟨by omega, pcs x, by rw [Int.toNat_natCast, pcl_get, hx]; rfl, rfl, ?_⟩
      (conv => whnf); (repeat' ((first | (with_reducible first | refine Box.mk ?_ | refine And.intro (fun _ => ?_) (fun _ => ?_) | refine (forceH_eq _ _).mpr ?_) | refine ACall.of_pure (by assumption) (by rfl) ?_ | ((with_reducible show Exists _); refine ⟨_, ACall.of_pure (by assumption) (by rfl) ⟨rfl, rfl⟩, ?_⟩) | ((with_reducible show _ ∧ _ ∧ _); refine ⟨by omega, by omega, ?_⟩) | fail) <;> conv => whnf))
      refine ⟨fun c hc => by rw [List.mem_singleton.1 hc]; exact ⟨rfl, rfl⟩, by rw [hgc]; show (_ + 1) * 112 ≤ _; omega, by rw [hgc]; show _ + 1 ≤ _; omega, ?_⟩
      (conv => whnf); (repeat' ((first | (with_reducible first | refine Box.mk ?_ | refine And.intro (fun _ => ?_) (fun _ => ?_) | refine (forceH_eq _ _).mpr ?_) | refine ACall.of_pure (by assumption) (by rfl) ?_ | ((with_reducible show Exists _); refine ⟨_, ACall.of_pure (by assumption) (by rfl) ⟨rfl, rfl⟩, ?_⟩) | ((with_reducible show _ ∧ _ ∧ _); refine ⟨by omega, by omega, ?_⟩) | fail) <;> conv => whnf))
      refine ⟨i + 1, hlt, by omega, weak_ren_to [(0, true), (1, true), (4, true)] rfl rfl ?_ ⟨rfl, rfl, rfl, rfl, rfl, wrap_nat (m := 1) (by omega), trivial⟩⟩
      rw [hst, ← pcl_snoc]; rfl
  · have : i = A.length := by omega
    subst this
    (conv => whnf); (repeat' ((first | (with_reducible first | refine Box.mk ?_ | refine And.intro (fun _ => ?_) (fun _ => ?_) | refine (forceH_eq _ _).mpr ?_) | refine ACall.of_pure (by assumption) (by rfl) ?_ | ((with_reducible show Exists _); refine ⟨_, ACall.of_pure (by assumption) (by rfl) ⟨rfl, rfl⟩, ?_⟩) | ((with_reducible show _ ∧ _ ∧ _); refine ⟨by omega, by omega, ?_⟩) | fail) <;> conv => whnf))
    · exfalso; rename_i h; have h : ((A.length : Nat) : Int) < ((pcl A).length : Int) := h; omega
    · rw [List.take_length]; rfl
end Go.Proofs.YtgaohmfmomeflaaGreatDoor
end

section
/- exact: lists gone through by a function value; what is covered; what rests. -/
namespace Go.Proofs.YtgaohmfmomeflaaGreatDoor
open Go.Ve

theorem pidxFn_ok {f : FuncId} {cap : List AV} {H : Hp} {q : Px → Bool} (l : List Px) (hf : ∀ p ∈ l, DCall P f (pxv p :: cap) H (.bool (q p)) H) (hl : l.length ≤ 9223372036854775807) :
    DCall P 126 [.sl (pcl l), .fn f cap] H (.int .i64 (idxG q 0 l)) H := by
  have hlc := pcl_len l
  refine ACall.of_awp (K := fun r H' => r = .int .i64 (idxG q 0 l) ∧ H' = H) tok mixed fn126 (Nat.le_of_ble_eq_true rfl) ?_
  (conv => whnf); (repeat' ((first | (with_reducible first | refine Box.mk ?_ | refine And.intro (fun _ => ?_) (fun _ => ?_) | refine (forceH_eq _ _).mpr ?_) | refine ACall.of_pure (by assumption) (by rfl) ?_ | ((with_reducible show Exists _); refine ⟨_, ACall.of_pure (by assumption) (by rfl) ⟨rfl, rfl⟩, ?_⟩) | ((with_reducible show _ ∧ _ ∧ _); refine ⟨by omega, by omega, ?_⟩) | fail) <;> conv => whnf))
  refine aloopH (fun i : Nat => i ≤ l.length ∧ ∀ j x, j < i → l[j]? = some x → q x = false) (fun i : Nat => [(0, .sl (pcl l)), (1, .fn f cap), (7, .int .i64 ((pcl l).length : Int)), (8, .int .i64 i)]) (fun _ H => H) (fun i => l.length - i) 0 ⟨Nat.zero_le _, fun j c h => by omega⟩ (weak_to ⟨rfl, rfl, rfl, rfl, trivial⟩ rfl) ?_
  rintro i ⟨hi, hok⟩
  by_cases hlt : i < l.length
  · have hx := List.getElem?_eq_getElem hlt
    have hfx := hf _ (List.mem_of_getElem? hx)
    have hok2 : q l[i] = false → ∀ j x, j < i + 1 → l[j]? = some x → q x = false := fun hne j x hj hxj => by
      rcases Nat.lt_or_ge j i with h | h
      · exact hok j x h hxj
      · have : j = i := by omega
        subst this
        rw [hx] at hxj
        rw [← Option.some.inj hxj]; exact hne
    have hit : q l[i] = true → idxG q 0 l = (i : Int) := fun he => by
      rw [idxG_hit hx he hok, Nat.zero_add]
    generalize l[i] = x at *
    generalize q x = b at *
    (conv => whnf); (repeat' ((first | (with_reducible first | refine Box.mk ?_ | refine And.intro (fun _ => ?_) (fun _ => ?_) | refine (forceH_eq _ _).mpr ?_) | refine ACall.of_pure (by assumption) (by rfl) ?_ | ((with_reducible show Exists _); refine ⟨_, ACall.of_pure (by assumption) (by rfl) ⟨rfl, rfl⟩, ?_⟩) | ((with_reducible show _ ∧ _ ∧ _); refine ⟨by omega, by omega, ?_⟩) | fail) <;> conv => whnf))
    rotate_left
    · exfalso; rename_i h; have h : ¬ (i : Int) < ((pcl l).length : Int) := h; omega
    refine (forceL_eq _ _).mpr ?_
    (conv => whnf); (repeat' ((first | (with_reducible first | refine Box.mk ?_ | refine And.intro (fun _ => ?_) (fun _ => ?_) | refine (forceH_eq _ _).mpr ?_) | refine ACall.of_pure (by assumption) (by rfl) ?_ | ((with_reducible show Exists _); refine ⟨_, ACall.of_pure (by assumption) (by rfl) ⟨rfl, rfl⟩, ?_⟩) | ((with_reducible show _ ∧ _ ∧ _); refine ⟨by omega, by omega, ?_⟩) | fail) <;> conv => whnf))
    refine ⟨by omega, pcs x, by rw [Int.toNat_natCast, pcl_get, hx]; rfl, rfl, ?_⟩
    (conv => whnf); (repeat' ((first | (with_reducible first | refine Box.mk ?_ | refine And.intro (fun _ => ?_) (fun _ => ?_) | refine (forceH_eq _ _).mpr ?_) | refine ACall.of_pure (by assumption) (by rfl) ?_ | ((with_reducible show Exists _); refine ⟨_, ACall.of_pure (by assumption) (by rfl) ⟨rfl, rfl⟩, ?_⟩) | ((with_reducible show _ ∧ _ ∧ _); refine ⟨by omega, by omega, ?_⟩) | fail) <;> conv => whnf))
    refine hfx.mono ?_
    rintro r H' ⟨rfl, rfl⟩
    cases b
    · (conv => whnf); (repeat' ((first | (with_reducible first | refine Box.mk ?_ | refine And.intro (fun _ => ?_) (fun _ => ?_) | refine (forceH_eq _ _).mpr ?_) | refine ACall.of_pure (by assumption) (by rfl) ?_ | ((with_reducible show Exists _); refine ⟨_, ACall.of_pure (by assumption) (by rfl) ⟨rfl, rfl⟩, ?_⟩) | ((with_reducible show _ ∧ _ ∧ _); refine ⟨by omega, by omega, ?_⟩) | fail) <;> conv => whnf))
      exact ⟨i + 1, ⟨hlt, hok2 rfl⟩, by omega, weak_to ⟨rfl, rfl, rfl, wrap_nat (m := 1) (by omega), trivial⟩ rfl⟩
    · (conv => whnf); (repeat' ((first | (with_reducible first | refine Box.mk ?_ | refine And.intro (fun _ => ?_) (fun _ => ?_) | refine (forceH_eq _ _).mpr ?_) | refine ACall.of_pure (by assumption) (by rfl) ?_ | ((with_reducible show Exists _); refine ⟨_, ACall.of_pure (by assumption) (by rfl) ⟨rfl, rfl⟩, ?_⟩) | ((with_reducible show _ ∧ _ ∧ _); refine ⟨by omega, by omega, ?_⟩) | fail) <;> conv => whnf))
      exact ⟨congrArg (AV.int .i64) (hit rfl).symm, rfl⟩
  · have : i = l.length := by omega
    subst this
    (conv => whnf); (repeat' ((first | (with_reducible first | refine Box.mk ?_ | refine And.intro (fun _ => ?_) (fun _ => ?_) | refine (forceH_eq _ _).mpr ?_) | refine ACall.of_pure (by assumption) (by rfl) ?_ | ((with_reducible show Exists _); refine ⟨_, ACall.of_pure (by assumption) (by rfl) ⟨rfl, rfl⟩, ?_⟩) | ((with_reducible show _ ∧ _ ∧ _); refine ⟨by omega, by omega, ?_⟩) | fail) <;> conv => whnf))
    · exfalso; rename_i h; have h : ((l.length : Nat) : Int) < ((pcl l).length : Int) := h; omega
    refine ⟨congrArg (AV.int .i64) ?_, rfl⟩
    rw [idxG_miss]
    intro y hy
    obtain ⟨j, hj⟩ := List.getElem?_of_mem hy
    exact hok j y (List.getElem?_eq_some_iff.1 hj).1 hj
theorem pconFn_ok {f : FuncId} {cap : List AV} {H : Hp} {q : Px → Bool} (l : List Px) (hf : ∀ p ∈ l, DCall P f (pxv p :: cap) H (.bool (q p)) H) (hl : l.length ≤ 9223372036854775807) :
    DCall P 96 [.sl (pcl l), .fn f cap] H (.bool (l.any q)) H := by
  have q1 := pidxFn_ok l hf hl
  rw [← idxG_any (k := 0)]
  refine ACall.of_awp (K := fun r H' => r = .bool (decide (0 ≤ idxG q 0 l)) ∧ H' = H) tok mixed fn96 (Nat.le_of_ble_eq_true rfl) ?_
  (conv => whnf); (repeat' ((first | (with_reducible first | refine Box.mk ?_ | refine And.intro (fun _ => ?_) (fun _ => ?_) | refine (forceH_eq _ _).mpr ?_) | refine ACall.of_pure (by assumption) (by rfl) ?_ | ((with_reducible show Exists _); refine ⟨_, ACall.of_pure (by assumption) (by rfl) ⟨rfl, rfl⟩, ?_⟩) | ((with_reducible show _ ∧ _ ∧ _); refine ⟨by omega, by omega, ?_⟩) | fail) <;> conv => whnf))
  refine (forceL_eq _ _).mpr ?_
  (conv => whnf); (repeat' ((first | (with_reducible first | refine Box.mk ?_ | refine And.intro (fun _ => ?_) (fun _ => ?_) | refine (forceH_eq _ _).mpr ?_) | refine ACall.of_pure (by assumption) (by rfl) ?_ | ((with_reducible show Exists _); refine ⟨_, ACall.of_pure (by assumption) (by rfl) ⟨rfl, rfl⟩, ?_⟩) | ((with_reducible show _ ∧ _ ∧ _); refine ⟨by omega, by omega, ?_⟩) | fail) <;> conv => whnf))
  refine q1.mono ?_
  rintro r H' ⟨rfl, rfl⟩
  (conv => whnf); (repeat' ((first | (with_reducible first | refine Box.mk ?_ | refine And.intro (fun _ => ?_) (fun _ => ?_) | refine (forceH_eq _ _).mpr ?_) | refine ACall.of_pure (by assumption) (by rfl) ?_ | ((with_reducible show Exists _); refine ⟨_, ACall.of_pure (by assumption) (by rfl) ⟨rfl, rfl⟩, ?_⟩) | ((with_reducible show _ ∧ _ ∧ _); refine ⟨by omega, by omega, ?_⟩) | fail) <;> conv => whnf))
  · exact ⟨bool_true (decide_eq_true (by assumption)), rfl⟩
  · exact ⟨bool_false (decide_eq_false (by assumption)), rfl⟩
def cvH (s : Sp) (x : Px) : Hp := [.box 26 (scs s), .box 34 (pcs x)]
theorem cov1_ok (s : Sp) (x q : Px) (hx : POk x) (hq : POk q) : DCall P 102 [pxv q, .ptr 0 0, .ptr 1 0] (cvH s x) (.bool (overP s q x)) (cvH s x) := by
  have q1 := pOver_ok s q x hq hx
  refine DCall.of_awp tok mixed fn102 (Nat.le_of_ble_eq_true rfl) ?_
  (conv => whnf); (repeat' ((first | (with_reducible first | refine Box.mk ?_ | refine And.intro (fun _ => ?_) (fun _ => ?_) | refine (forceH_eq _ _).mpr ?_) | refine ACall.of_pure (by assumption) (by rfl) ?_ | ((with_reducible show Exists _); refine ⟨_, ACall.of_pure (by assumption) (by rfl) ⟨rfl, rfl⟩, ?_⟩) | ((with_reducible show ∃ L, drawR L _ = true ∧ _); refine ⟨[], by kernel_rfl, ?_⟩) | ((with_reducible show _ ∧ _ ∧ _); refine ⟨by omega, by omega, ?_⟩) | fail) <;> conv => whnf))
  exact weak_ren_to [(0, true), (1, true)] rfl rfl rfl ⟨rfl, trivial⟩
theorem covered_ok (s : Sp) (g : List Px) (x : Px) (hx : POk x) (hg : ∀ q ∈ g, POk q) (hl : g.length ≤ 9223372036854775807) : PCall P 70 [spv s, .sl (pcl g), pxv x] (.bool (g.any fun q => overP s q x)) := by
  have q1 := pconFn_ok (q := fun q => overP s q x) g (fun q hq => cov1_ok s x q hx (hg q hq)) hl
  refine PCall.of_awp tok mixed fn70 (Nat.le_of_ble_eq_true rfl) ?_
  (conv => whnf); (repeat' ((first | (with_reducible first | refine Box.mk ?_ | refine And.intro (fun _ => ?_) (fun _ => ?_) | refine (forceH_eq _ _).mpr ?_) | refine ACall.of_pure (by assumption) (by rfl) ?_ | ((with_reducible show Exists _); refine ⟨_, ACall.of_pure (by assumption) (by rfl) ⟨rfl, rfl⟩, ?_⟩) | ((with_reducible show ∃ L, drawR L _ = true ∧ _); refine ⟨[], by kernel_rfl, ?_⟩) | ((with_reducible show _ ∧ _ ∧ _); refine ⟨by omega, by omega, ?_⟩) | fail) <;> conv => whnf))
  refine aW [0, 1] q1 rfl rfl rfl ?_
  (conv => whnf); (repeat' ((first | (with_reducible first | refine Box.mk ?_ | refine And.intro (fun _ => ?_) (fun _ => ?_) | refine (forceH_eq _ _).mpr ?_) | refine ACall.of_pure (by assumption) (by rfl) ?_ | ((with_reducible show Exists _); refine ⟨_, ACall.of_pure (by assumption) (by rfl) ⟨rfl, rfl⟩, ?_⟩) | ((with_reducible show ∃ L, drawR L _ = true ∧ _); refine ⟨[], by kernel_rfl, ?_⟩) | ((with_reducible show _ ∧ _ ∧ _); refine ⟨by omega, by omega, ?_⟩) | fail) <;> conv => whnf))
  rfl

/-! ### what rests -/
theorem sumF_take {f : Px → Bool} {L : Ml} {i : Nat} {x : Px × Nat} (h : L[i]? = some x) : sumF f (L.take (i + 1)) = sumF f (L.take i) + (bif f x.1 then x.2 else 0) := by
  rw [List.take_add_one, h]
  exact (sumF_app _ _ _).trans (by simp [sumF])
theorem sumF_take_le (f : Px → Bool) (L : Ml) (i : Nat) : sumF f (L.take i) ≤ totM L := Nat.le_trans (sumF_le _ _) (by
  have h : totM (L.take i ++ L.drop i) = _ := sumF_app _ _ _
  rw [List.take_append_drop] at h
  rw [h]; exact Nat.le_add_right _ _)
theorem rest_ok (s : Sp) (l : Ml) (hI : MI s l) (R : List Px) (p : Px) (hp : POk p) (hR : ∀ q ∈ R, POk q) (hl : R.length ≤ 1000000000000) :
    DCall P 38 [.ptr 0 0, .sl (pcl R), pxv p] (MH s l) (.int .u64 (restR s l R p : Int)) (MH s l) := by
  have q1 := space_ok s l
  have q2 := loads_ok s l hI
  have q3 := great_ok s R p hp hR hl
  have hLl := Nat.le_trans (loadsM_len (l := l)) hI.len
  have hLt : totM (loadsM l) ≤ 4611686018427387904 := by rw [show totM (loadsM l) = totM l from sumF_loadsM _ hI.nodup]; exact hI.tot
  have hLo := hI.ok.loads
  have e0 : restR s l R p = restG s (loadsM l) R p := by
    rw [← restG_eq hR hI.ok]
    unfold restG
    rw [sumF_loadsM _ hI.nodup]
  rw [e0]
  unfold restG
  have hgo : ∀ q ∈ greatL s R p, POk q := fun q hq => hR q (under_mem.1 (List.mem_filter.1 hq).1).1
  have hgl : (greatL s R p).length ≤ 1000000000000 := Nat.le_trans (List.length_filter_le _ _) (Nat.le_trans (underL_len s p R) hl)
  generalize greatL s R p = G at *
  generalize loadsM l = L at *
  have hLc := lcl_len L
  refine DCall.of_awp tok mixed fn38 (Nat.le_of_ble_eq_true rfl) ?_
  (conv => whnf); (repeat' ((first | (with_reducible first | refine Box.mk ?_ | refine And.intro (fun _ => ?_) (fun _ => ?_) | refine (forceH_eq _ _).mpr ?_) | refine ACall.of_pure (by assumption) (by rfl) ?_ | ((with_reducible show Exists _); refine ⟨_, ACall.of_pure (by assumption) (by rfl) ⟨rfl, rfl⟩, ?_⟩) | ((with_reducible show _ ∧ _ ∧ _); refine ⟨by omega, by omega, ?_⟩) | fail) <;> conv => whnf))
  refine aW [0, 1] q1 rfl rfl rfl ?_
  (conv => whnf); (repeat' ((first | (with_reducible first | refine Box.mk ?_ | refine And.intro (fun _ => ?_) (fun _ => ?_) | refine (forceH_eq _ _).mpr ?_) | refine ACall.of_pure (by assumption) (by rfl) ?_ | ((with_reducible show Exists _); refine ⟨_, ACall.of_pure (by assumption) (by rfl) ⟨rfl, rfl⟩, ?_⟩) | ((with_reducible show _ ∧ _ ∧ _); refine ⟨by omega, by omega, ?_⟩) | fail) <;> conv => whnf))
  refine aW [0, 1] q2 rfl rfl rfl ?_
  (conv => whnf); (repeat' ((first | (with_reducible first | refine Box.mk ?_ | refine And.intro (fun _ => ?_) (fun _ => ?_) | refine (forceH_eq _ _).mpr ?_) | refine ACall.of_pure (by assumption) (by rfl) ?_ | ((with_reducible show Exists _); refine ⟨_, ACall.of_pure (by assumption) (by rfl) ⟨rfl, rfl⟩, ?_⟩) | ((with_reducible show _ ∧ _ ∧ _); refine ⟨by omega, by omega, ?_⟩) | fail) <;> conv => whnf))
  refine aloop (fun i : Nat => i ≤ L.length) (fun i => ⟨envL [(5, .ptr 2 0), (7, .ptr 3 0), (8, .sl (pcl G)), (9, .int .u64 (sumF (fun x => overP s p x && !G.any fun g => overP s g x) (L.take i) : Int)), (19, .sl (lcl L)), (20, .int .i64 ((lcl L).length : Int)), (21, .int .i64 (i : Int))], MH s l ++ [.box 34 (pcs p), .box 26 (scs s)]⟩) (fun i => L.length - i) 0 (Nat.zero_le _)
    (weak_to ⟨rfl, rfl, rfl, rfl, rfl, rfl, rfl, trivial⟩ rfl) ?_
  intro i hi
  by_cases hlt : i < L.length
  · have hx := List.getElem?_eq_getElem hlt
    have hst := sumF_take (f := fun x => overP s p x && !G.any fun g => overP s g x) hx
    have hle := sumF_take_le (fun x => overP s p x && !G.any fun g => overP s g x) L (i + 1)
    have hxo : POk L[i].1 := hLo.at (List.mem_of_getElem? hx)
    generalize L[i] = x at *
    have q4 := pOver_ok s p x.1 hp hxo
    have q5 := covered_ok s G x.1 hxo hgo (by omega)
    generalize sumF (fun x => overP s p x && !G.any fun g => overP s g x) (L.take i) = S at *
    generalize overP s p x.1 = o at *
    generalize (G.any fun g => overP s g x.1) = c at *
    cases o
    · (conv => whnf); (repeat' ((first | (with_reducible first | refine Box.mk ?_ | refine And.intro (fun _ => ?_) (fun _ => ?_) | refine (forceH_eq _ _).mpr ?_) | refine ACall.of_pure (by assumption) (by rfl) ?_ | ((with_reducible show Exists _); refine ⟨_, ACall.of_pure (by assumption) (by rfl) ⟨rfl, rfl⟩, ?_⟩) | ((with_reducible show _ ∧ _ ∧ _); refine ⟨by omega, by omega, ?_⟩) | fail) <;> conv => whnf))
      rotate_left
      · exfalso; rename_i h; have h : ¬ (i : Int) < ((lcl L).length : Int) := h; omega
      refine ⟨by omega, lcs x, by rw [Int.toNat_natCast, lcl_get, hx]; rfl, rfl, ?_⟩
      (conv => whnf); (repeat' ((first | (with_reducible first | refine Box.mk ?_ | refine And.intro (fun _ => ?_) (fun _ => ?_) | refine (forceH_eq _ _).mpr ?_) | refine ACall.of_pure (by assumption) (by rfl) ?_ | ((with_reducible show Exists _); refine ⟨_, ACall.of_pure (by assumption) (by rfl) ⟨rfl, rfl⟩, ?_⟩) | ((with_reducible show _ ∧ _ ∧ _); refine ⟨by omega, by omega, ?_⟩) | fail) <;> conv => whnf))
      refine ⟨i + 1, hlt, by omega, weak_ren_to [(0, true), (1, true), (2, true), (3, true)] rfl rfl rfl ⟨rfl, rfl, rfl, congrArg (AV.int .u64) ?_, rfl, rfl, wrap_nat (m := 1) (by omega), trivial⟩⟩
      rw [hst]; rfl
    · cases c
      · (conv => whnf); (repeat' ((first | (with_reducible first | refine Box.mk ?_ | refine And.intro (fun _ => ?_) (fun _ => ?_) | refine (forceH_eq _ _).mpr ?_) | refine ACall.of_pure (by assumption) (by rfl) ?_ | ((with_reducible show Exists _); refine ⟨_, ACall.of_pure (by assumption) (by rfl) ⟨rfl, rfl⟩, ?_⟩) | ((with_reducible show _ ∧ _ ∧ _); refine ⟨by omega, by omega, ?_⟩) | fail) <;> conv => whnf))
        rotate_left
        · exfalso; rename_i h; have h : ¬ (i : Int) < ((lcl L).length : Int) := h; omega
        refine ⟨by omega, lcs x, by rw [Int.toNat_natCast, lcl_get, hx]; rfl, rfl, ?_⟩
        (conv => whnf); (repeat' ((first | (with_reducible first | refine Box.mk ?_ | refine And.intro (fun _ => ?_) (fun _ => ?_) | refine (forceH_eq _ _).mpr ?_) | refine ACall.of_pure (by assumption) (by rfl) ?_ | ((with_reducible show Exists _); refine ⟨_, ACall.of_pure (by assumption) (by rfl) ⟨rfl, rfl⟩, ?_⟩) | ((with_reducible show _ ∧ _ ∧ _); refine ⟨by omega, by omega, ?_⟩) | fail) <;> conv => whnf))
        refine ⟨i + 1, hlt, by omega, weak_ren_to [(0, true), (1, true), (2, true), (3, true)] rfl rfl rfl ⟨rfl, rfl, rfl, congrArg (AV.int .u64) ?_, rfl, rfl, wrap_nat (m := 1) (by omega), trivial⟩⟩
        rw [hst] at hle ⊢
        show IntKind.u64.wrap ((S : Int) + (x.2 : Int)) = ((S + x.2 : Nat) : Int)
        have hle : S + x.2 ≤ totM L := hle
        rw [wrap_u64 (by omega) (by omega)]; omega
      · (conv => whnf); (repeat' ((first | (with_reducible first | refine Box.mk ?_ | refine And.intro (fun _ => ?_) (fun _ => ?_) | refine (forceH_eq _ _).mpr ?_) | refine ACall.of_pure (by assumption) (by rfl) ?_ | ((with_reducible show Exists _); refine ⟨_, ACall.of_pure (by assumption) (by rfl) ⟨rfl, rfl⟩, ?_⟩) | ((with_reducible show _ ∧ _ ∧ _); refine ⟨by omega, by omega, ?_⟩) | fail) <;> conv => whnf))
        rotate_left
        · exfalso; rename_i h; have h : ¬ (i : Int) < ((lcl L).length : Int) := h; omega
        refine ⟨by omega, lcs x, by rw [Int.toNat_natCast, lcl_get, hx]; rfl, rfl, ?_⟩
        (conv => whnf); (repeat' ((first | (with_reducible first | refine Box.mk ?_ | refine And.intro (fun _ => ?_) (fun _ => ?_) | refine (forceH_eq _ _).mpr ?_) | refine ACall.of_pure (by assumption) (by rfl) ?_ | ((with_reducible show Exists _); refine ⟨_, ACall.of_pure (by assumption) (by rfl) ⟨rfl, rfl⟩, ?_⟩) | ((with_reducible show _ ∧ _ ∧ _); refine ⟨by omega, by omega, ?_⟩) | fail) <;> conv => whnf))
        refine ⟨i + 1, hlt, by omega, weak_ren_to [(0, true), (1, true), (2, true), (3, true)] rfl rfl rfl ⟨rfl, rfl, rfl, congrArg (AV.int .u64) ?_, rfl, rfl, wrap_nat (m := 1) (by omega), trivial⟩⟩
        rw [hst]; rfl
  · have : i = L.length := by omega
    subst this
    (conv => whnf); (repeat' ((first | (with_reducible first | refine Box.mk ?_ | refine And.intro (fun _ => ?_) (fun _ => ?_) | refine (forceH_eq _ _).mpr ?_) | refine ACall.of_pure (by assumption) (by rfl) ?_ | ((with_reducible show Exists _); refine ⟨_, ACall.of_pure (by assumption) (by rfl) ⟨rfl, rfl⟩, ?_⟩) | ((with_reducible show _ ∧ _ ∧ _); refine ⟨by omega, by omega, ?_⟩) | fail) <;> conv => whnf))
    · exfalso; rename_i h; have h : ((L.length : Nat) : Int) < ((lcl L).length : Int) := h; omega
    rw [List.take_length]
    exact weak_ren_to [(0, true), (1, true)] rfl rfl rfl ⟨rfl, trivial⟩
end Go.Proofs.YtgaohmfmomeflaaGreatDoor
end

section
/- model: Over. -/
namespace Go.Proofs.YtgaohmfmomeflaaGreatDoor
open Go.Ve

theorem pNilSl {f : FuncId} {args : List AV} (h : PCall P f args .nils) : PCall P f args (.sl []) := by
  unfold PCall at *
  refine ⟨h.1, fun M0 w vs h1 h2 hv => Calls.mono (h.2 M0 w vs h1 h2 hv) ?_⟩
  rintro e w' ⟨v, rfl, hb, hr⟩
  exact ⟨v, rfl, hb, by rw [hr.nils_inv]; exact .sl0 _⟩
theorem gAll_sl (s : Sp) (p : Px) (hp : POk p) : PCall P 50 [spv s, pxv p] (.sl (pcl (allP s p))) := by
  have h := gAll_ok s p hp
  cases he : allP s p with
  | nil => rw [he] at h; exact pNilSl h
  | cons x r => rw [he] at h; rwa [pvl_sl (by simp)] at h
def ones (l : List Px) : Ml := l.map fun p => (p, 1)
theorem cntL_snoc (l : List Px) (p : Px) : cntL (l ++ [p]) = addM (cntL l) p 1 := by
  unfold cntL; rw [List.map_append]; exact putF_snoc _ _ _
theorem tot_cntL (l : List Px) : totM (cntL l) = l.length := by
  unfold cntL
  rw [totM, sumF_putAll]
  induction l with
  | nil => rfl
  | cons x l ih => rw [List.map_cons, sumF_cons, ih, cond_true, List.length_cons]; omega
theorem len_cntL (l : List Px) : (cntL l).length ≤ l.length := by
  have := putF_len (l.map fun p => (p, 1)) []
  rw [List.length_map] at this
  unfold cntL
  simpa using this
theorem addM_two {p : Px} {w : Nat} : ∀ {r : Ml}, p ∉ keysM r → addM (r ++ [(p, 0)]) p w = r ++ [(p, w)]
  | [], _ => by show (if p = p then _ else _) = _; rw [if_pos rfl, Nat.zero_add]; rfl
  | y :: r, hr => by
    have hr : p ∉ y.1 :: keysM r := hr
    rw [List.mem_cons, not_or] at hr
    rw [List.cons_append, addM, if_neg (fun e => hr.1 e.symm), addM_two hr.2]; rfl
theorem upsM_snoc (s : Sp) (l : Ml) (x : Px × Nat) : upsM s (l ++ [x]) = upsM s l ++ allP s x.1 := by simp [upsM]
theorem mOver_ok (s : Sp) (l : Ml) (hI : MI s l) : DCall P 22 [.ptr 0 0] (MH s l) (.sl (pcl (ovM s l))) (MH s l) := by
  have q1 := made_ok s l
  have q2 := loads_ok s l hI
  have hlen : (loadsM l).length ≤ 65536 := Nat.le_trans loadsM_len hI.len
  have hok := hI.ok.loads
  have huL := upsM_len s (loadsM l)
  unfold ovM
  generalize loadsM l = L at *
  have hLc := lcl_len L
  have q3 := sortedF_ok (c := hgtP) (g := 53) (fun x y => @byHeight_ok told x y) to_hgtP (fun _ _ h => hgtP_zero h) (l := cntL (upsM s L)) (nodup_putAll _) (by have := len_cntL (upsM s L); omega) (seqI_ok (cntL (upsM s L)) (by have := len_cntL (upsM s L); omega))
  refine DCall.of_awp tok mixed fn22 (Nat.le_of_ble_eq_true rfl) ?_
  (conv => whnf); (repeat' ((first | (with_reducible first | refine Box.mk ?_ | refine And.intro (fun _ => ?_) (fun _ => ?_) | refine (forceH_eq _ _).mpr ?_) | refine ACall.of_pure (by assumption) (by rfl) ?_ | ((with_reducible show Exists _); refine ⟨_, ACall.of_pure (by assumption) (by rfl) ⟨rfl, rfl⟩, ?_⟩) | ((with_reducible show ∃ L, drawR L _ = true ∧ _); refine ⟨[], by kernel_rfl, ?_⟩) | ((with_reducible show _ ∧ _ ∧ _); refine ⟨by omega, by omega, ?_⟩) | fail) <;> conv => whnf))
  refine aW [0, 1] q1 rfl rfl rfl ?_
  (conv => whnf); (repeat' ((first | (with_reducible first | refine Box.mk ?_ | refine And.intro (fun _ => ?_) (fun _ => ?_) | refine (forceH_eq _ _).mpr ?_) | refine ACall.of_pure (by assumption) (by rfl) ?_ | ((with_reducible show Exists _); refine ⟨_, ACall.of_pure (by assumption) (by rfl) ⟨rfl, rfl⟩, ?_⟩) | ((with_reducible show ∃ L, drawR L _ = true ∧ _); refine ⟨[], by kernel_rfl, ?_⟩) | ((with_reducible show _ ∧ _ ∧ _); refine ⟨by omega, by omega, ?_⟩) | fail) <;> conv => whnf))
  refine aW [0, 1] q2 rfl rfl rfl ?_
  (conv => whnf); (repeat' ((first | (with_reducible first | refine Box.mk ?_ | refine And.intro (fun _ => ?_) (fun _ => ?_) | refine (forceH_eq _ _).mpr ?_) | refine ACall.of_pure (by assumption) (by rfl) ?_ | ((with_reducible show Exists _); refine ⟨_, ACall.of_pure (by assumption) (by rfl) ⟨rfl, rfl⟩, ?_⟩) | ((with_reducible show ∃ L, drawR L _ = true ∧ _); refine ⟨[], by kernel_rfl, ?_⟩) | ((with_reducible show _ ∧ _ ∧ _); refine ⟨by omega, by omega, ?_⟩) | fail) <;> conv => whnf))
  refine aloop (fun i : Nat => i ≤ L.length) (fun i => ⟨envL [(0, .ptr 0 0), (3, .own 2), (13, .sl (lcl L)), (14, .int .i64 ((lcl L).length : Int)), (15, .int .i64 (i : Int))], MH s l ++ [Ob.map pks (mes i64V 0 (cntL (upsM s (L.take i)))) (cntL (upsM s (L.take i))).length]⟩) (fun i => L.length - i) 0 (Nat.zero_le _)
    (weak_to ⟨rfl, rfl, rfl, rfl, rfl, trivial⟩ rfl) ?_
  intro i hi
  (conv => whnf); (repeat' ((first | (with_reducible first | refine Box.mk ?_ | refine And.intro (fun _ => ?_) (fun _ => ?_) | refine (forceH_eq _ _).mpr ?_) | refine ACall.of_pure (by assumption) (by rfl) ?_ | ((with_reducible show Exists _); refine ⟨_, ACall.of_pure (by assumption) (by rfl) ⟨rfl, rfl⟩, ?_⟩) | ((with_reducible show ∃ L, drawR L _ = true ∧ _); refine ⟨[], by kernel_rfl, ?_⟩) | ((with_reducible show _ ∧ _ ∧ _); refine ⟨by omega, by omega, ?_⟩) | fail) <;> conv => whnf))
  · rename_i hlt
    have hlt : i < L.length := by rw [hLc] at hlt; omega
    have hx := List.getElem?_eq_getElem hlt
    have hst : upsM s (L.take (i + 1)) = upsM s (L.take i) ++ allP s L[i].1 := by
      rw [List.take_add_one, hx]; exact upsM_snoc _ _ _
    have hxo : POk L[i].1 := hok.at (List.mem_of_getElem? hx)
    have hul : (upsM s (L.take (i + 1))).length ≤ 65536 * 33153 := by
      refine Nat.le_trans (upsM_len s _) (Nat.mul_le_mul_right _ ?_)
      rw [List.length_take]; omega
    generalize L[i] = x at *
    have q4 := gAll_sl s x.1 hxo
    have hql := allP_len s x.1
    generalize allP s x.1 = q at *
    have hqc := pcl_len q
    refine ⟨by omega, lcs x, by rw [Int.toNat_natCast, lcl_get, hx]; rfl, rfl, ?_⟩
    (conv => whnf); (repeat' ((first | (with_reducible first | refine Box.mk ?_ | refine And.intro (fun _ => ?_) (fun _ => ?_) | refine (forceH_eq _ _).mpr ?_) | refine ACall.of_pure (by assumption) (by rfl) ?_ | ((with_reducible show Exists _); refine ⟨_, ACall.of_pure (by assumption) (by rfl) ⟨rfl, rfl⟩, ?_⟩) | ((with_reducible show ∃ L, drawR L _ = true ∧ _); refine ⟨[], by kernel_rfl, ?_⟩) | ((with_reducible show _ ∧ _ ∧ _); refine ⟨by omega, by omega, ?_⟩) | fail) <;> conv => whnf))
    refine aloop (fun j : Nat => j ≤ q.length) (fun j => ⟨envL [(0, .ptr 0 0), (3, .own 2), (13, .sl (lcl L)), (14, .int .i64 ((lcl L).length : Int)), (15, .int .i64 (i : Int)), (25, .sl (pcl q)), (26, .int .i64 ((pcl q).length : Int)), (27, .int .i64 (j : Int))], MH s l ++ [Ob.map pks (mes i64V 0 (cntL (upsM s (L.take i) ++ q.take j))) (cntL (upsM s (L.take i) ++ q.take j)).length]⟩) (fun j => q.length - j) 0 (Nat.zero_le _)
      (weak_ren_to [(0, true), (1, true), (2, true)] rfl rfl (by rw [List.take_zero, List.append_nil]; rfl) ⟨rfl, rfl, rfl, rfl, rfl, rfl, rfl, rfl, trivial⟩) ?_
    intro j hj
    (conv => whnf); (repeat' ((first | (with_reducible first | refine Box.mk ?_ | refine And.intro (fun _ => ?_) (fun _ => ?_) | refine (forceH_eq _ _).mpr ?_) | refine ACall.of_pure (by assumption) (by rfl) ?_ | ((with_reducible show Exists _); refine ⟨_, ACall.of_pure (by assumption) (by rfl) ⟨rfl, rfl⟩, ?_⟩) | ((with_reducible show _ ∧ _ ∧ _); refine ⟨by omega, by omega, ?_⟩) | fail) <;> conv => whnf))
    · rename_i hlt2
      have hlt2 : j < q.length := by rw [hqc] at hlt2; omega
      have hy := List.getElem?_eq_getElem hlt2
      have hcs : cntL (upsM s (L.take i) ++ q.take (j + 1)) = addM (cntL (upsM s (L.take i) ++ q.take j)) q[j] 1 := by
        rw [List.take_add_one, hy, ← List.append_assoc]; exact cntL_snoc _ _
      have htot : totM (cntL (upsM s (L.take i) ++ q.take j)) ≤ 65536 * 33153 := by
        rw [tot_cntL, List.length_append, List.length_take]
        rw [hst, List.length_append] at hul
        omega
      have hn : (keysM (cntL (upsM s (L.take i) ++ q.take j))).Nodup := nodup_putAll _
      generalize cntL (upsM s (L.take i) ++ q.take j) = c at *
      generalize q[j] = p at *
      have hlk := look_le (l := c) p
      refine ⟨by omega, pcs p, by rw [Int.toNat_natCast, pcl_get, hy]; rfl, rfl, ?_⟩
      (conv => whnf); (repeat' ((first | (with_reducible first | refine Box.mk ?_ | refine And.intro (fun _ => ?_) (fun _ => ?_) | refine (forceH_eq _ _).mpr ?_) | refine ACall.of_pure (by assumption) (by rfl) ?_ | ((with_reducible show Exists _); refine ⟨_, ACall.of_pure (by assumption) (by rfl) ⟨rfl, rfl⟩, ?_⟩) | ((with_reducible show _ ∧ _ ∧ _); refine ⟨by omega, by omega, ?_⟩) | fail) <;> conv => whnf))
      refine ⟨[(4, [2])], by kernel_rfl, ?_⟩
      (conv => whnf); (repeat' ((first | (with_reducible first | refine Box.mk ?_ | refine And.intro (fun _ => ?_) (fun _ => ?_) | refine (forceH_eq _ _).mpr ?_) | refine ACall.of_pure (by assumption) (by rfl) ?_ | ((with_reducible show Exists _); refine ⟨_, ACall.of_pure (by assumption) (by rfl) ⟨rfl, rfl⟩, ?_⟩) | ((with_reducible show _ ∧ _ ∧ _); refine ⟨by omega, by omega, ?_⟩) | fail) <;> conv => whnf))
      by_cases hin : p ∈ keysM c
      · obtain ⟨z, hz, hzp⟩ := List.mem_map.1 hin
        obtain ⟨k, hk⟩ := List.getElem?_of_mem hz
        have hlx : look c p = z.2 := by rw [← hzp]; exact look_mem hn hz
        have e3 : IntKind.i64.wrap ((z.2 : Int) + 1) = ((z.2 + 1 : Nat) : Int) := by rw [wrap_i64 (by omega) (by omega)]; omega
        refine ⟨mes_ok hn, at_yes rfl hn hk (by rw [hzp]; rfl) ?_⟩
        (conv => whnf); (repeat' ((first | (with_reducible first | refine Box.mk ?_ | refine And.intro (fun _ => ?_) (fun _ => ?_) | refine (forceH_eq _ _).mpr ?_) | refine ACall.of_pure (by assumption) (by rfl) ?_ | ((with_reducible show Exists _); refine ⟨_, ACall.of_pure (by assumption) (by rfl) ⟨rfl, rfl⟩, ?_⟩) | ((with_reducible show _ ∧ _ ∧ _); refine ⟨by omega, by omega, ?_⟩) | fail) <;> conv => whnf))
        refine ⟨mes_ok hn, at_yes rfl hn hk (by rw [hzp]; rfl) ?_⟩
        (conv => whnf); (repeat' ((first | (with_reducible first | refine Box.mk ?_ | refine And.intro (fun _ => ?_) (fun _ => ?_) | refine (forceH_eq _ _).mpr ?_) | refine ACall.of_pure (by assumption) (by rfl) ?_ | ((with_reducible show Exists _); refine ⟨_, ACall.of_pure (by assumption) (by rfl) ⟨rfl, rfl⟩, ?_⟩) | ((with_reducible show _ ∧ _ ∧ _); refine ⟨by omega, by omega, ?_⟩) | fail) <;> conv => whnf))
        refine ⟨⟨⟨mes_ok hn, at_yes rfl hn hk (by rw [hzp]; rfl) ⟨rfl, rfl⟩⟩, trivial⟩, ?_⟩
        (conv => whnf); (repeat' ((first | (with_reducible first | refine Box.mk ?_ | refine And.intro (fun _ => ?_) (fun _ => ?_) | refine (forceH_eq _ _).mpr ?_) | refine ACall.of_pure (by assumption) (by rfl) ?_ | ((with_reducible show Exists _); refine ⟨_, ACall.of_pure (by assumption) (by rfl) ⟨rfl, rfl⟩, ?_⟩) | ((with_reducible show _ ∧ _ ∧ _); refine ⟨by omega, by omega, ?_⟩) | fail) <;> conv => whnf))
        refine ⟨mes_ok hn, at_stamp hk rfl ?_⟩
        (conv => whnf); (repeat' ((first | (with_reducible first | refine Box.mk ?_ | refine And.intro (fun _ => ?_) (fun _ => ?_) | refine (forceH_eq _ _).mpr ?_) | refine ACall.of_pure (by assumption) (by rfl) ?_ | ((with_reducible show Exists _); refine ⟨_, ACall.of_pure (by assumption) (by rfl) ⟨rfl, rfl⟩, ?_⟩) | ((with_reducible show _ ∧ _ ∧ _); refine ⟨by omega, by omega, ?_⟩) | fail) <;> conv => whnf))
        refine ⟨j + 1, hlt2, by omega, weak_ren_to [(0, true), (1, true), (2, true)] rfl rfl ?_ ⟨rfl, rfl, rfl, rfl, rfl, rfl, rfl, wrap_nat (m := 1) (by omega), trivial⟩⟩
        show MH s l ++ [Ob.map pks ((mes i64V 0 c).set k (pcs z.1, AV.int .i64 (IntKind.i64.wrap ((z.2 : Int) + 1)), k)) c.length] = MH s l ++ [Ob.map pks (mes i64V 0 (cntL (upsM s (L.take i) ++ q.take (j + 1)))) (cntL (upsM s (L.take i) ++ q.take (j + 1))).length]
        have e4 := addM_set (v := i64V) (k := 0) 1 hn hk
        rw [Nat.zero_add, hzp] at e4
        rw [hcs, e3, hzp]
        show _ ++ [Ob.map pks ((mes i64V 0 c).set k (pcs p, i64V (z.2 + 1), k)) c.length] = _
        rw [e4, ← addM_len_in 1 hin]
      · have hlx : look c p = 0 := look_none hin
        have e3 : IntKind.i64.wrap (0 + 1) = ((1 : Nat) : Int) := by decide
        have es : mes i64V 0 (c ++ [(p, 0)]) = mes i64V 0 c ++ [(pcs p, AV.int .i64 0, c.length)] := by rw [mes_snoc, Nat.zero_add]; rfl
        have hn2 : (keysM (c ++ [(p, 0)])).Nodup := by
          have := nodup_addM hn p 0
          rwa [addM_new 0 hin] at this
        have hk : (c ++ [(p, 0)])[c.length]? = some (p, 0) := by simp
        refine ⟨mes_ok hn, at_no rfl hin rfl ?_⟩
        (conv => whnf); (repeat' ((first | (with_reducible first | refine Box.mk ?_ | refine And.intro (fun _ => ?_) (fun _ => ?_) | refine (forceH_eq _ _).mpr ?_) | refine ACall.of_pure (by assumption) (by rfl) ?_ | ((with_reducible show Exists _); refine ⟨_, ACall.of_pure (by assumption) (by rfl) ⟨rfl, rfl⟩, ?_⟩) | ((with_reducible show _ ∧ _ ∧ _); refine ⟨by omega, by omega, ?_⟩) | fail) <;> conv => whnf))
        refine ⟨mes_ok hn, at_no rfl hin rfl ?_⟩
        (conv => whnf); (repeat' ((first | (with_reducible first | refine Box.mk ?_ | refine And.intro (fun _ => ?_) (fun _ => ?_) | refine (forceH_eq _ _).mpr ?_) | refine ACall.of_pure (by assumption) (by rfl) ?_ | ((with_reducible show Exists _); refine ⟨_, ACall.of_pure (by assumption) (by rfl) ⟨rfl, rfl⟩, ?_⟩) | ((with_reducible show _ ∧ _ ∧ _); refine ⟨by omega, by omega, ?_⟩) | fail) <;> conv => whnf))
        refine ⟨⟨⟨mes_ok' es hn2, at_yes' es rfl hn2 hk rfl ⟨rfl, rfl⟩⟩, trivial⟩, ?_⟩
        (conv => whnf); (repeat' ((first | (with_reducible first | refine Box.mk ?_ | refine And.intro (fun _ => ?_) (fun _ => ?_) | refine (forceH_eq _ _).mpr ?_) | refine ACall.of_pure (by assumption) (by rfl) ?_ | ((with_reducible show Exists _); refine ⟨_, ACall.of_pure (by assumption) (by rfl) ⟨rfl, rfl⟩, ?_⟩) | ((with_reducible show _ ∧ _ ∧ _); refine ⟨by omega, by omega, ?_⟩) | fail) <;> conv => whnf))
        refine ⟨mes_ok' es hn2, at_stamp' es hk rfl ?_⟩
        (conv => whnf); (repeat' ((first | (with_reducible first | refine Box.mk ?_ | refine And.intro (fun _ => ?_) (fun _ => ?_) | refine (forceH_eq _ _).mpr ?_) | refine ACall.of_pure (by assumption) (by rfl) ?_ | ((with_reducible show Exists _); refine ⟨_, ACall.of_pure (by assumption) (by rfl) ⟨rfl, rfl⟩, ?_⟩) | ((with_reducible show _ ∧ _ ∧ _); refine ⟨by omega, by omega, ?_⟩) | fail) <;> conv => whnf))
        refine ⟨j + 1, hlt2, by omega, weak_ren_to [(0, true), (1, true), (2, true)] rfl rfl ?_ ⟨rfl, rfl, rfl, rfl, rfl, rfl, rfl, wrap_nat (m := 1) (by omega), trivial⟩⟩
        show MH s l ++ [Ob.map pks ((mes i64V 0 c ++ [(pcs p, AV.int .i64 0, c.length)]).set c.length (pcs p, AV.int .i64 (IntKind.i64.wrap (0 + 1)), c.length)) (c.length + 1)] = MH s l ++ [Ob.map pks (mes i64V 0 (cntL (upsM s (L.take i) ++ q.take (j + 1)))) (cntL (upsM s (L.take i) ++ q.take (j + 1))).length]
        have e4 := addM_set (v := i64V) (k := 0) 1 hn2 hk
        rw [Nat.zero_add, es, Nat.zero_add, addM_two hin, ← addM_new 1 hin] at e4
        rw [hcs, e3]
        show _ ++ [Ob.map pks ((mes i64V 0 c ++ [(pcs p, AV.int .i64 0, c.length)]).set c.length (pcs p, i64V 1, c.length)) (c.length + 1)] = _
        rw [e4]
        have e8 : (addM c p 1).length = c.length + 1 := by rw [addM_new 1 hin, List.length_append]; rfl
        rw [e8]
    · rename_i hlt2
      have : j = q.length := by rw [hqc] at hlt2; omega
      subst this
      refine ⟨i + 1, hlt, by omega, weak_to ⟨rfl, rfl, rfl, rfl, wrap_nat (m := 1) (by omega), trivial⟩ ?_⟩
      rw [hst, List.take_length]
      rfl
  · rename_i hlt
    have : i = L.length := by rw [hLc] at hlt; omega
    subst this
    rw [List.take_length] at *
    refine aW [2] (keysI_fn (cntL (upsM s L))) rfl rfl rfl ?_
    (conv => whnf); (repeat' ((first | (with_reducible first | refine Box.mk ?_ | refine And.intro (fun _ => ?_) (fun _ => ?_) | refine (forceH_eq _ _).mpr ?_) | refine ACall.of_pure (by assumption) (by rfl) ?_ | ((with_reducible show Exists _); refine ⟨_, ACall.of_pure (by assumption) (by rfl) ⟨rfl, rfl⟩, ?_⟩) | ((with_reducible show ∃ L, drawR L _ = true ∧ _); refine ⟨[], by kernel_rfl, ?_⟩) | ((with_reducible show _ ∧ _ ∧ _); refine ⟨by omega, by omega, ?_⟩) | fail) <;> conv => whnf))
    refine aW [2, 3] q3 rfl rfl rfl ?_
    (conv => whnf); (repeat' ((first | (with_reducible first | refine Box.mk ?_ | refine And.intro (fun _ => ?_) (fun _ => ?_) | refine (forceH_eq _ _).mpr ?_) | refine ACall.of_pure (by assumption) (by rfl) ?_ | ((with_reducible show Exists _); refine ⟨_, ACall.of_pure (by assumption) (by rfl) ⟨rfl, rfl⟩, ?_⟩) | ((with_reducible show ∃ L, drawR L _ = true ∧ _); refine ⟨[], by kernel_rfl, ?_⟩) | ((with_reducible show _ ∧ _ ∧ _); refine ⟨by omega, by omega, ?_⟩) | fail) <;> conv => whnf))
    exact weak_ren_to [(0, true), (1, true)] rfl rfl rfl ⟨rfl, trivial⟩
end Go.Proofs.YtgaohmfmomeflaaGreatDoor
end

section
/- model: Join; what is filled with all that can be put. -/
namespace Go.Proofs.YtgaohmfmomeflaaGreatDoor
open Go.Ve

end Go.Proofs.YtgaohmfmomeflaaGreatDoor
end

section
/- model: Join that is refused; what is filled with all that can be put. -/
namespace Go.Proofs.YtgaohmfmomeflaaGreatDoor
open Go.Ve

/-! ### filled -/
/-- What is taken of a list, one behind the other. -/
def takeP (s : Sp) (t : Ml) (x : Px × Nat) : Ml := if putE s (putAll t) x.1 x.2 = 0 then t ++ [x] else t
def fillT (s : Sp) (l : Ml) : Ml := (l.take 200).foldl (takeP s) []
structure TI (s : Sp) (t : Ml) : Prop where
  mi : MI s (putAll t)
theorem putAll_snoc (t : Ml) (x : Px × Nat) : putAll (t ++ [x]) = addM (putAll t) x.1 x.2 := putF_snoc _ _ _
theorem MI.put {s : Sp} {l : Ml} (h : MI s l) {p : Px} {w : Nat} (hp : POk p) (hl : l.length < 65536) (he : putE s l p w = 0) : MI s (addM l p w) := by
  unfold putE at he
  cases hr : leafR s p with
  | false => rw [hr, cond_false] at he; cases he
  | true =>
    rw [hr, cond_true] at he
    by_cases ho : 4611686018427387904 - totM l < w
    · rw [if_pos ho] at he; cases he
    · refine ⟨h.sound, nodup_addM h.nodup _ _, ?_, fun q hq => ?_, ?_, fun q hq => ?_⟩
      · rw [tot_addM]; have := h.tot; omega
      · rcases mem_keys_addM.1 hq with hq | rfl
        · exact h.ok q hq
        · exact hp
      · have := addM_len p w l; omega
      · rcases mem_keys_addM.1 hq with hq | rfl
        · exact h.leaf q hq
        · exact hr
theorem putAll_len (t : Ml) : (putAll t).length ≤ t.length := by
  have := putF_len t []
  simpa using this
theorem TI.take {s : Sp} {t : Ml} (h : TI s t) {x : Px × Nat} (hx : POk x.1) (ht : t.length < 65536) : TI s (takeP s t x) := by
  unfold takeP
  by_cases he : putE s (putAll t) x.1 x.2 = 0
  · rw [if_pos he]
    refine ⟨?_⟩
    rw [putAll_snoc]
    exact h.mi.put hx (Nat.lt_of_le_of_lt (putAll_len t) ht) he
  · rw [if_neg he]; exact h
theorem takeP_len (s : Sp) (t : Ml) (x : Px × Nat) : (takeP s t x).length ≤ t.length + 1 := by
  unfold takeP
  split
  · rw [List.length_append]; exact Nat.le_refl _
  · exact Nat.le_succ _
theorem fold_len (s : Sp) : ∀ (l t : Ml), (l.foldl (takeP s) t).length ≤ t.length + l.length
  | [], _ => Nat.le_refl _
  | x :: l, t => by
    have h1 := fold_len s l (takeP s t x)
    have h2 := takeP_len s t x
    rw [List.foldl_cons, List.length_cons]; omega
theorem fold_TI {s : Sp} : ∀ {l t : Ml}, TI s t → (∀ x ∈ l, POk x.1) → t.length + l.length ≤ 65536 → TI s (l.foldl (takeP s) t)
  | [], _, h, _, _ => h
  | x :: l, t, h, ho, hl => by
    rw [List.length_cons] at hl
    have h2 := takeP_len s t x
    exact fold_TI (l := l) (h.take (ho x List.mem_cons_self) (by omega)) (fun y hy => ho y (List.mem_cons_of_mem _ hy)) (by omega)
theorem fold_snoc (s : Sp) (l t : Ml) (x : Px × Nat) : (l ++ [x]).foldl (takeP s) t = takeP s (l.foldl (takeP s) t) x := by simp
theorem fillT_ok {s : Sp} (hs : soundS s = true) {l : Ml} (ho : ∀ x ∈ l, POk x.1) : MI s (putAll (fillT s l)) :=
  (fold_TI (s := s) (l := l.take 200) (t := []) ⟨MI.nil hs⟩ (fun x hx => ho x (List.mem_of_mem_take hx)) (by rw [List.length_take]; simp; omega)).mi
theorem fill_ok (s : Sp) (hs : soundS s = true) (l : Ml) (ho : ∀ x ∈ l, POk x.1) :
    DCall P 20 [spv s, .sl (lcl l)] [] (.tup [.ptr 0 0, .sl (lcl (fillT s l))]) (MH s (putAll (fillT s l))) := by
  have q1 := new_ok s hs
  have hlc := lcl_len l
  unfold fillT
  refine DCall.of_awp tok mixed fn20 (Nat.le_of_ble_eq_true rfl) ?_
  (conv => whnf); (repeat' ((first | (with_reducible first | refine Box.mk ?_ | refine And.intro (fun _ => ?_) (fun _ => ?_) | refine (forceH_eq _ _).mpr ?_) | refine ACall.of_pure (by assumption) (by rfl) ?_ | ((with_reducible show Exists _); refine ⟨_, ACall.of_pure (by assumption) (by rfl) ⟨rfl, rfl⟩, ?_⟩) | ((with_reducible show _ ∧ _ ∧ _); refine ⟨by omega, by omega, ?_⟩) | fail) <;> conv => whnf))
  refine aW [] q1 rfl rfl rfl ?_
  (conv => whnf); (repeat' ((first | (with_reducible first | refine Box.mk ?_ | refine And.intro (fun _ => ?_) (fun _ => ?_) | refine (forceH_eq _ _).mpr ?_) | refine ACall.of_pure (by assumption) (by rfl) ?_ | ((with_reducible show Exists _); refine ⟨_, ACall.of_pure (by assumption) (by rfl) ⟨rfl, rfl⟩, ?_⟩) | ((with_reducible show _ ∧ _ ∧ _); refine ⟨by omega, by omega, ?_⟩) | fail) <;> conv => whnf))
  refine aloop (fun i : Nat => i ≤ l.length ∧ i ≤ 200) (fun i => ⟨envL [(1, .sl (lcl l)), (6, .ptr 0 0), (7, .own 2), (8, .int .i64 (i : Int))], MH s (putAll ((l.take i).foldl (takeP s) [])) ++ [Ob.row 46 13 (lcl ((l.take i).foldl (takeP s) []))]⟩) (fun i => l.length - i) 0 ⟨Nat.zero_le _, Nat.zero_le _⟩ ?_ ?_
  · exact (weak_ren_to (l := [(1, .sl (lcl l)), (6, .ptr 0 0), (7, .nils), (8, .int .i64 0)]) (H' := MH s []) [(1, true), (2, true)] rfl rfl rfl ⟨rfl, rfl, rfl, rfl, trivial⟩).trans
      (weak_nilrow (s := ⟨envL [(1, .sl (lcl l)), (6, .ptr 0 0), (7, .nils), (8, .int .i64 0)], MH s []⟩) (l := [(1, .sl (lcl l)), (6, .ptr 0 0), (7, .own 2), (8, .int .i64 0)]) (H' := MH s []) 46 13 (by decide) ⟨.inl rfl, .inl rfl, .inr ⟨rfl, rfl⟩, .inl rfl, trivial⟩ ⟨.inl rfl, .inl rfl, trivial⟩)
  rintro i ⟨hi, hi2⟩
  have htl : ((l.take i).foldl (takeP s) []).length ≤ 200 := by
    have := fold_len s (l.take i) []
    rw [List.length_take] at this
    simp only [List.length_nil] at this
    omega
  have hTI : TI s ((l.take i).foldl (takeP s) []) := fold_TI ⟨MI.nil hs⟩ (fun x hx => ho x (List.mem_of_mem_take hx)) (by rw [List.length_take]; simp; omega)
  have fin : ¬ (i < l.length ∧ i < 200) → (l.take i) = l.take 200 := fun h => by
    rcases Nat.lt_or_ge i l.length with h1 | h1
    · have : i = 200 := by omega
      rw [this]
    · rw [List.take_of_length_le h1, List.take_of_length_le (by omega)]
  (conv => whnf); (repeat' ((first | (with_reducible first | refine Box.mk ?_ | refine And.intro (fun _ => ?_) (fun _ => ?_) | refine (forceH_eq _ _).mpr ?_) | refine ACall.of_pure (by assumption) (by rfl) ?_ | ((with_reducible show Exists _); refine ⟨_, ACall.of_pure (by assumption) (by rfl) ⟨rfl, rfl⟩, ?_⟩) | ((with_reducible show _ ∧ _ ∧ _); refine ⟨by omega, by omega, ?_⟩) | fail) <;> conv => whnf))
  · rename_i h1 h2
    have h1 : i < l.length := by rw [hlc] at h1; omega
    have h2 : i < 200 := by have h2 : (i : Int) < 200 := h2; omega
    have hx := List.getElem?_eq_getElem h1
    have hst : (l.take (i + 1)).foldl (takeP s) [] = takeP s ((l.take i).foldl (takeP s) []) l[i] := by
      rw [List.take_add_one, hx]; exact fold_snoc _ _ _ _
    have hxo : POk l[i].1 := ho _ (List.mem_of_getElem? hx)
    generalize l[i] = x at *
    generalize (l.take i).foldl (takeP s) [] = t at *
    have q2 := put_ok s (putAll t) hTI.mi x.1 hxo x.2
    have hlt := lcl_len t
    unfold putM at q2
    by_cases he : putE s (putAll t) x.1 x.2 = 0
    · rw [show takeP s t x = t ++ [x] from if_pos he] at hst
      rw [if_pos he] at q2
      rw [he, ← putAll_snoc, ← hst] at q2
      have hst2 : lcl ((l.take (i + 1)).foldl (takeP s) []) = lcl t ++ [lcs x] := by rw [hst, lcl_snoc]
      refine ⟨[(2011, [])], by kernel_rfl, ?_⟩
      (conv => whnf); (repeat' ((first | (with_reducible first | refine Box.mk ?_ | refine And.intro (fun _ => ?_) (fun _ => ?_) | refine (forceH_eq _ _).mpr ?_) | refine ACall.of_pure (by assumption) (by rfl) ?_ | ((with_reducible show Exists _); refine ⟨_, ACall.of_pure (by assumption) (by rfl) ⟨rfl, rfl⟩, ?_⟩) | ((with_reducible show _ ∧ _ ∧ _); refine ⟨by omega, by omega, ?_⟩) | fail) <;> conv => whnf))
      refine ⟨by omega, lcs x, by rw [Int.toNat_natCast, lcl_get, hx]; rfl, rfl, ?_⟩
      (conv => whnf); (repeat' ((first | (with_reducible first | refine Box.mk ?_ | refine And.intro (fun _ => ?_) (fun _ => ?_) | refine (forceH_eq _ _).mpr ?_) | refine ACall.of_pure (by assumption) (by rfl) ?_ | ((with_reducible show Exists _); refine ⟨_, ACall.of_pure (by assumption) (by rfl) ⟨rfl, rfl⟩, ?_⟩) | ((with_reducible show _ ∧ _ ∧ _); refine ⟨by omega, by omega, ?_⟩) | fail) <;> conv => whnf))
      refine ⟨by omega, lcs x, by rw [Int.toNat_natCast, lcl_get, hx]; rfl, rfl, ?_⟩
      (conv => whnf); (repeat' ((first | (with_reducible first | refine Box.mk ?_ | refine And.intro (fun _ => ?_) (fun _ => ?_) | refine (forceH_eq _ _).mpr ?_) | refine ACall.of_pure (by assumption) (by rfl) ?_ | ((with_reducible show Exists _); refine ⟨_, ACall.of_pure (by assumption) (by rfl) ⟨rfl, rfl⟩, ?_⟩) | ((with_reducible show _ ∧ _ ∧ _); refine ⟨by omega, by omega, ?_⟩) | fail) <;> conv => whnf))
      refine aDw [0, 1] q2 rfl rfl rfl ?_
      (conv => whnf); (repeat' ((first | (with_reducible first | refine Box.mk ?_ | refine And.intro (fun _ => ?_) (fun _ => ?_) | refine (forceH_eq _ _).mpr ?_) | refine ACall.of_pure (by assumption) (by rfl) ?_ | ((with_reducible show Exists _); refine ⟨_, ACall.of_pure (by assumption) (by rfl) ⟨rfl, rfl⟩, ?_⟩) | ((with_reducible show _ ∧ _ ∧ _); refine ⟨by omega, by omega, ?_⟩) | fail) <;> conv => whnf))
      rotate_left
      · rename_i h; exact absurd rfl h
      refine ⟨by omega, lcs x, by rw [Int.toNat_natCast, lcl_get, hx]; rfl, rfl, ?_⟩
      (conv => whnf); (repeat' ((first | (with_reducible first | refine Box.mk ?_ | refine And.intro (fun _ => ?_) (fun _ => ?_) | refine (forceH_eq _ _).mpr ?_) | refine ACall.of_pure (by assumption) (by rfl) ?_ | ((with_reducible show Exists _); refine ⟨_, ACall.of_pure (by assumption) (by rfl) ⟨rfl, rfl⟩, ?_⟩) | ((with_reducible show _ ∧ _ ∧ _); refine ⟨by omega, by omega, ?_⟩) | fail) <;> conv => whnf))
      refine ⟨fun c hc => by rw [List.mem_singleton.1 hc]; exact ⟨rfl, rfl⟩, by rw [hlt]; show (_ + 1) * 120 ≤ _; omega, by rw [hlt]; show _ + 1 ≤ _; omega, ?_⟩
      (conv => whnf); (repeat' ((first | (with_reducible first | refine Box.mk ?_ | refine And.intro (fun _ => ?_) (fun _ => ?_) | refine (forceH_eq _ _).mpr ?_) | refine ACall.of_pure (by assumption) (by rfl) ?_ | ((with_reducible show Exists _); refine ⟨_, ACall.of_pure (by assumption) (by rfl) ⟨rfl, rfl⟩, ?_⟩) | ((with_reducible show _ ∧ _ ∧ _); refine ⟨by omega, by omega, ?_⟩) | fail) <;> conv => whnf))
      refine ⟨i + 1, ⟨h1, h2⟩, by omega, weak_ren_to [(0, true), (1, true), (4, true)] rfl rfl ?_ ⟨rfl, rfl, rfl, wrap_nat (m := 1) (by omega), trivial⟩⟩
      rw [hst2]
      rfl
    · rw [show takeP s t x = t from if_neg he] at hst
      rw [if_neg he] at q2
      refine ⟨[(2011, [])], by kernel_rfl, ?_⟩
      (conv => whnf); (repeat' ((first | (with_reducible first | refine Box.mk ?_ | refine And.intro (fun _ => ?_) (fun _ => ?_) | refine (forceH_eq _ _).mpr ?_) | refine ACall.of_pure (by assumption) (by rfl) ?_ | ((with_reducible show Exists _); refine ⟨_, ACall.of_pure (by assumption) (by rfl) ⟨rfl, rfl⟩, ?_⟩) | ((with_reducible show _ ∧ _ ∧ _); refine ⟨by omega, by omega, ?_⟩) | fail) <;> conv => whnf))
      refine ⟨by omega, lcs x, by rw [Int.toNat_natCast, lcl_get, hx]; rfl, rfl, ?_⟩
      (conv => whnf); (repeat' ((first | (with_reducible first | refine Box.mk ?_ | refine And.intro (fun _ => ?_) (fun _ => ?_) | refine (forceH_eq _ _).mpr ?_) | refine ACall.of_pure (by assumption) (by rfl) ?_ | ((with_reducible show Exists _); refine ⟨_, ACall.of_pure (by assumption) (by rfl) ⟨rfl, rfl⟩, ?_⟩) | ((with_reducible show _ ∧ _ ∧ _); refine ⟨by omega, by omega, ?_⟩) | fail) <;> conv => whnf))
      refine ⟨by omega, lcs x, by rw [Int.toNat_natCast, lcl_get, hx]; rfl, rfl, ?_⟩
      (conv => whnf); (repeat' ((first | (with_reducible first | refine Box.mk ?_ | refine And.intro (fun _ => ?_) (fun _ => ?_) | refine (forceH_eq _ _).mpr ?_) | refine ACall.of_pure (by assumption) (by rfl) ?_ | ((with_reducible show Exists _); refine ⟨_, ACall.of_pure (by assumption) (by rfl) ⟨rfl, rfl⟩, ?_⟩) | ((with_reducible show _ ∧ _ ∧ _); refine ⟨by omega, by omega, ?_⟩) | fail) <;> conv => whnf))
      refine aDw [0, 1] q2 rfl rfl rfl ?_
      (conv => whnf); (repeat' ((first | (with_reducible first | refine Box.mk ?_ | refine And.intro (fun _ => ?_) (fun _ => ?_) | refine (forceH_eq _ _).mpr ?_) | refine ACall.of_pure (by assumption) (by rfl) ?_ | ((with_reducible show Exists _); refine ⟨_, ACall.of_pure (by assumption) (by rfl) ⟨rfl, rfl⟩, ?_⟩) | ((with_reducible show _ ∧ _ ∧ _); refine ⟨by omega, by omega, ?_⟩) | fail) <;> conv => whnf))
      · rename_i h; exact absurd h he
      refine ⟨i + 1, ⟨h1, h2⟩, by omega, weak_ren_to [(0, true), (1, true), (2, true)] rfl rfl ?_ ⟨rfl, rfl, rfl, wrap_nat (m := 1) (by omega), trivial⟩⟩
      rw [hst]
      rfl
  · rename_i h1 h2
    have h2 : ¬ (i : Int) < 200 := h2
    rw [← fin (by omega)]
    exact weak_cr 2 [(0, true), (1, true)] rfl rfl rfl rfl rfl
  · rename_i h1
    rw [hlc] at h1
    rw [← fin (by omega)]
    exact weak_cr 2 [(0, true), (1, true)] rfl rfl rfl rfl rfl
theorem fill_no (s : Sp) (hs : soundS s = false) (l : Ml) :
    PCall P 20 [spv s, .sl (lcl l)] (.tup [.nilp, .nils]) := by
  have q1 := new_nil s hs
  have hlc := lcl_len l
  refine PCall.of_awp tok mixed fn20 (Nat.le_of_ble_eq_true rfl) ?_
  (conv => whnf); (repeat' ((first | (with_reducible first | refine Box.mk ?_ | refine And.intro (fun _ => ?_) (fun _ => ?_) | refine (forceH_eq _ _).mpr ?_) | refine ACall.of_pure (by assumption) (by rfl) ?_ | ((with_reducible show Exists _); refine ⟨_, ACall.of_pure (by assumption) (by rfl) ⟨rfl, rfl⟩, ?_⟩) | ((with_reducible show _ ∧ _ ∧ _); refine ⟨by omega, by omega, ?_⟩) | fail) <;> conv => whnf))
  refine aloop (fun i : Nat => i ≤ l.length) (fun i => ⟨envL [(1, .sl (lcl l)), (6, .nilp), (7, .nils), (8, .int .i64 (i : Int))], []⟩) (fun i => l.length - i) 0 (Nat.zero_le _) (weak_ren_to [] rfl rfl rfl ⟨rfl, rfl, rfl, rfl, trivial⟩) ?_
  intro i hi
  (conv => whnf); (repeat' ((first | (with_reducible first | refine Box.mk ?_ | refine And.intro (fun _ => ?_) (fun _ => ?_) | refine (forceH_eq _ _).mpr ?_) | refine ACall.of_pure (by assumption) (by rfl) ?_ | ((with_reducible show Exists _); refine ⟨_, ACall.of_pure (by assumption) (by rfl) ⟨rfl, rfl⟩, ?_⟩) | ((with_reducible show _ ∧ _ ∧ _); refine ⟨by omega, by omega, ?_⟩) | fail) <;> conv => whnf))
  · rename_i h1 h2
    have h1 : i < l.length := by rw [hlc] at h1; omega
    have hx := List.getElem?_eq_getElem h1
    generalize l[i] = x at *
    have q2 := put_nil x.1 x.2
    refine ⟨[], by kernel_rfl, ?_⟩
    (conv => whnf); (repeat' ((first | (with_reducible first | refine Box.mk ?_ | refine And.intro (fun _ => ?_) (fun _ => ?_) | refine (forceH_eq _ _).mpr ?_) | refine ACall.of_pure (by assumption) (by rfl) ?_ | ((with_reducible show Exists _); refine ⟨_, ACall.of_pure (by assumption) (by rfl) ⟨rfl, rfl⟩, ?_⟩) | ((with_reducible show _ ∧ _ ∧ _); refine ⟨by omega, by omega, ?_⟩) | fail) <;> conv => whnf))
    refine ⟨by omega, lcs x, by rw [Int.toNat_natCast, lcl_get, hx]; rfl, rfl, ?_⟩
    (conv => whnf); (repeat' ((first | (with_reducible first | refine Box.mk ?_ | refine And.intro (fun _ => ?_) (fun _ => ?_) | refine (forceH_eq _ _).mpr ?_) | refine ACall.of_pure (by assumption) (by rfl) ?_ | ((with_reducible show Exists _); refine ⟨_, ACall.of_pure (by assumption) (by rfl) ⟨rfl, rfl⟩, ?_⟩) | ((with_reducible show _ ∧ _ ∧ _); refine ⟨by omega, by omega, ?_⟩) | fail) <;> conv => whnf))
    refine ⟨by omega, lcs x, by rw [Int.toNat_natCast, lcl_get, hx]; rfl, rfl, ?_⟩
    (conv => whnf); (repeat' ((first | (with_reducible first | refine Box.mk ?_ | refine And.intro (fun _ => ?_) (fun _ => ?_) | refine (forceH_eq _ _).mpr ?_) | refine ACall.of_pure (by assumption) (by rfl) ?_ | ((with_reducible show Exists _); refine ⟨_, ACall.of_pure (by assumption) (by rfl) ⟨rfl, rfl⟩, ?_⟩) | ((with_reducible show _ ∧ _ ∧ _); refine ⟨by omega, by omega, ?_⟩) | fail) <;> conv => whnf))
    · rename_i h; exact absurd h (by decide)
    · exact ⟨i + 1, h1, by omega, weak_to ⟨rfl, rfl, rfl, wrap_nat (m := 1) (by have h2 : (i : Int) < 200 := h2; omega), trivial⟩ rfl⟩
  all_goals rfl
end Go.Proofs.YtgaohmfmomeflaaGreatDoor
end

section
/- exact: the true report. -/
namespace Go.Proofs.YtgaohmfmomeflaaGreatDoor
open Go.Ve

theorem emade_ok (s : Sp) (l : Ml) (hs : soundS s = true) : DCall P 60 [.ptr 0 0] (MH s l) (.bool true) (MH s l) := by
  have q1 := space_ok s l
  have hn := sound_n hs
  refine DCall.of_awp tok mixed fn60 (Nat.le_of_ble_eq_true rfl) ?_
  (conv => whnf); (repeat' ((first | (with_reducible first | refine Box.mk ?_ | refine And.intro (fun _ => ?_) (fun _ => ?_) | refine (forceH_eq _ _).mpr ?_) | refine ACall.of_pure (by assumption) (by rfl) ?_ | ((with_reducible show Exists _); refine ⟨_, ACall.of_pure (by assumption) (by rfl) ⟨rfl, rfl⟩, ?_⟩) | ((with_reducible show _ ∧ _ ∧ _); refine ⟨by omega, by omega, ?_⟩) | fail) <;> conv => whnf))
  refine aW [0, 1] q1 rfl rfl rfl ?_
  (conv => whnf); (repeat' ((first | (with_reducible first | refine Box.mk ?_ | refine And.intro (fun _ => ?_) (fun _ => ?_) | refine (forceH_eq _ _).mpr ?_) | refine ACall.of_pure (by assumption) (by rfl) ?_ | ((with_reducible show Exists _); refine ⟨_, ACall.of_pure (by assumption) (by rfl) ⟨rfl, rfl⟩, ?_⟩) | ((with_reducible show _ ∧ _ ∧ _); refine ⟨by omega, by omega, ?_⟩) | fail) <;> conv => whnf))
  · exact weak_to ⟨rfl, trivial⟩ rfl
  · exfalso; rename_i h; have h : ¬ 0 < s.n := h; omega
theorem emade_nil : PCall P 60 [.nilp] (.bool false) := by
  have q1 := space_nil
  refine PCall.of_awp tok mixed fn60 (Nat.le_of_ble_eq_true rfl) ?_
  (conv => whnf); (repeat' ((first | (with_reducible first | refine Box.mk ?_ | refine And.intro (fun _ => ?_) (fun _ => ?_) | refine (forceH_eq _ _).mpr ?_) | refine ACall.of_pure (by assumption) (by rfl) ?_ | ((with_reducible show Exists _); refine ⟨_, ACall.of_pure (by assumption) (by rfl) ⟨rfl, rfl⟩, ?_⟩) | ((with_reducible show ∃ L, drawR L _ = true ∧ _); refine ⟨[], by kernel_rfl, ?_⟩) | ((with_reducible show _ ∧ _ ∧ _); refine ⟨by omega, by omega, ?_⟩) | fail) <;> conv => whnf))
  all_goals first
    | rfl
    | (rename_i h; exact absurd h (by decide))
theorem heavies_nil (a b : Int) : PCall P 32 [.nilp, .int .i64 a, .int .i64 b] (.tup [.nils, .int .i64 6]) := by
  have q1 := emade_nil
  refine PCall.of_awp tok mixed fn32 (Nat.le_of_ble_eq_true rfl) ?_
  (conv => whnf); (repeat' ((first | (with_reducible first | refine Box.mk ?_ | refine And.intro (fun _ => ?_) (fun _ => ?_) | refine (forceH_eq _ _).mpr ?_) | refine ACall.of_pure (by assumption) (by rfl) ?_ | ((with_reducible show Exists _); refine ⟨_, ACall.of_pure (by assumption) (by rfl) ⟨rfl, rfl⟩, ?_⟩) | ((with_reducible show _ ∧ _ ∧ _); refine ⟨by omega, by omega, ?_⟩) | fail) <;> conv => whnf))
  all_goals first
    | rfl
    | contradiction
theorem heavies_bad (s : Sp) (l : Ml) (hs : soundS s = true) (a b : Int) (h : ¬ (1 ≤ a ∧ a ≤ b ∧ b ≤ 1048576)) :
    DCall P 32 [.ptr 0 0, .int .i64 a, .int .i64 b] (MH s l) (.tup [.nils, .int .i64 1]) (MH s l) := by
  have q1 := emade_ok s l hs
  refine DCall.of_awp tok mixed fn32 (Nat.le_of_ble_eq_true rfl) ?_
  (conv => whnf); (repeat' ((first | (with_reducible first | refine Box.mk ?_ | refine And.intro (fun _ => ?_) (fun _ => ?_) | refine (forceH_eq _ _).mpr ?_) | refine ACall.of_pure (by assumption) (by rfl) ?_ | ((with_reducible show Exists _); refine ⟨_, ACall.of_pure (by assumption) (by rfl) ⟨rfl, rfl⟩, ?_⟩) | ((with_reducible show _ ∧ _ ∧ _); refine ⟨by omega, by omega, ?_⟩) | fail) <;> conv => whnf))
  refine aW [0, 1] q1 rfl rfl rfl ?_
  (conv => whnf); (repeat' ((first | (with_reducible first | refine Box.mk ?_ | refine And.intro (fun _ => ?_) (fun _ => ?_) | refine (forceH_eq _ _).mpr ?_) | refine ACall.of_pure (by assumption) (by rfl) ?_ | ((with_reducible show Exists _); refine ⟨_, ACall.of_pure (by assumption) (by rfl) ⟨rfl, rfl⟩, ?_⟩) | ((with_reducible show _ ∧ _ ∧ _); refine ⟨by omega, by omega, ?_⟩) | fail) <;> conv => whnf))
  all_goals first
    | (exfalso; omega)
    | exact weak_to ⟨rfl, trivial⟩ rfl
/-! ### lines as cells -/
def lns (x : Ln) : List AV := [.int .i64 x.p.a0, .int .i64 x.p.a1, .int .i64 x.p.k0.kind, .int .i64 x.p.k0.len, .int .u64 ((x.p.k0.n / H64 : Nat) : Int), .int .u64 ((x.p.k0.n % H64 : Nat) : Int), .str x.p.k0.path,
  .int .i64 x.p.k1.kind, .int .i64 x.p.k1.len, .int .u64 ((x.p.k1.n / H64 : Nat) : Int), .int .u64 ((x.p.k1.n % H64 : Nat) : Int), .str x.p.k1.path, .int .u64 (x.lo : Int), .int .u64 (x.hi : Int), .int .u64 (x.est : Int)]
def lnl (l : List Ln) : List (List AV) := l.map lns
theorem lnl_len (l : List Ln) : (lnl l).length = l.length := by simp [lnl]
theorem lnl_get (l : List Ln) (i : Nat) : (lnl l)[i]? = (l[i]?).map lns := by simp [lnl]
theorem lnl_snoc (l : List Ln) (x : Ln) : lnl l ++ [lns x] = lnl (l ++ [x]) := by simp [lnl]
theorem lnl_kf (l : List Ln) : ∀ c ∈ lnl l, c.all kf1 = true := fun c hc => by
  obtain ⟨x, _, rfl⟩ := List.mem_map.1 hc; rfl
theorem mes_kf : ∀ (l : Ml) (k : Nat), ∀ e ∈ mes u64V k l, e.1.all kf1 = true ∧ kfv e.2.1 = true
  | [], _, e, he => by cases he
  | x :: r, k, e, he => by
    rcases List.mem_cons.1 he with rfl | he
    · exact ⟨rfl, rfl⟩
    · exact mes_kf r (k + 1) e he
/-- The true report's prefixes. -/
def trueP (s : Sp) (l : Ml) (a b : Nat) : List Px := hvs s l a b (totM l) (ovM s l)
theorem rest_le (s : Sp) (l : Ml) (R : List Px) (p : Px) : restR s l R p ≤ totM l := sumF_le _ _
theorem heavies_ok (s : Sp) (l : Ml) (hI : MI s l) (a b : Nat) (ha : 1 ≤ a) (hab : a ≤ b) (hb : b ≤ 1048576) :
    DCall P 32 [.ptr 0 0, .int .i64 (a : Int), .int .i64 (b : Int)] (MH s l) (.tup [.sl (lnl (linesOf s l (trueP s l a b))), .int .i64 0]) (MH s l) := by
  have q1 := emade_ok s l hI.sound
  have q2 := mOver_ok s l hI
  have q3 := total_ok s l
  have hpw := ov_pw hI
  have hAo := ovM_ok (s := s) hI.ok
  have hAl : (ovM s l).length ≤ 65536 * 33153 := Nat.le_trans (ovM_len s l) (Nat.mul_le_mul_right _ hI.len)
  have ht := hI.tot
  unfold trueP
  generalize ovM s l = A at *
  have hAc := pcl_len A
  refine DCall.of_awp tok mixed fn32 (Nat.le_of_ble_eq_true rfl) ?_
  (conv => whnf); (repeat' ((first | (with_reducible first | refine Box.mk ?_ | refine And.intro (fun _ => ?_) (fun _ => ?_) | refine (forceH_eq _ _).mpr ?_) | refine ACall.of_pure (by assumption) (by rfl) ?_ | ((with_reducible show Exists _); refine ⟨_, ACall.of_pure (by assumption) (by rfl) ⟨rfl, rfl⟩, ?_⟩) | ((with_reducible show _ ∧ _ ∧ _); refine ⟨by omega, by omega, ?_⟩) | fail) <;> conv => whnf))
  refine aW [0, 1] q1 rfl rfl rfl ?_
  (conv => whnf); (repeat' ((first | (with_reducible first | refine Box.mk ?_ | refine And.intro (fun _ => ?_) (fun _ => ?_) | refine (forceH_eq _ _).mpr ?_) | refine ACall.of_pure (by assumption) (by rfl) ?_ | ((with_reducible show Exists _); refine ⟨_, ACall.of_pure (by assumption) (by rfl) ⟨rfl, rfl⟩, ?_⟩) | ((with_reducible show _ ∧ _ ∧ _); refine ⟨by omega, by omega, ?_⟩) | fail) <;> conv => whnf))
  all_goals try (exfalso; omega)
  refine aW [0, 1] q2 rfl rfl rfl ?_
  (conv => whnf); (repeat' ((first | (with_reducible first | refine Box.mk ?_ | refine And.intro (fun _ => ?_) (fun _ => ?_) | refine (forceH_eq _ _).mpr ?_) | refine ACall.of_pure (by assumption) (by rfl) ?_ | ((with_reducible show Exists _); refine ⟨_, ACall.of_pure (by assumption) (by rfl) ⟨rfl, rfl⟩, ?_⟩) | ((with_reducible show _ ∧ _ ∧ _); refine ⟨by omega, by omega, ?_⟩) | fail) <;> conv => whnf))
  refine aloop (fun i : Nat => i ≤ A.length) (fun i => ⟨envL [(0, .ptr 0 0), (1, .int .i64 (a : Int)), (2, .int .i64 (b : Int)), (8, .own 2), (9, .own 3), (31, .sl (pcl A)), (32, .int .i64 ((pcl A).length : Int)), (33, .int .i64 (i : Int))], MH s l ++ [Ob.row 89 15 (lnl (linesOf s l (hvs s l a b (totM l) (A.take i)))), Ob.row 34 12 (pcl (hvs s l a b (totM l) (A.take i)))]⟩) (fun i => A.length - i) 0 (Nat.zero_le _) ?_ ?_
  · exact (weak_nl [(0, true), (1, true)] (l1 := [(0, .ptr 0 0), (1, .int .i64 (a : Int)), (2, .int .i64 (b : Int)), (8, .nils), (9, .nils), (31, .sl (pcl A)), (32, .int .i64 ((pcl A).length : Int)), (33, .int .i64 0)]) (l2 := [(0, .ptr 0 0), (1, .int .i64 (a : Int)), (2, .int .i64 (b : Int)), (8, .own 2), (9, .nils), (31, .sl (pcl A)), (32, .int .i64 ((pcl A).length : Int)), (33, .int .i64 0)]) (H1 := MH s l) 89 15 (by decide) rfl rfl rfl ⟨rfl, rfl, rfl, rfl, rfl, rfl, rfl, rfl, trivial⟩ ⟨.inl rfl, .inl rfl, .inl rfl, .inr ⟨rfl, rfl⟩, .inl rfl, .inl rfl, .inl rfl, .inl rfl, trivial⟩ ⟨.inl rfl, .inl rfl, trivial⟩).trans
      (weak_nilrow (s := ⟨envL [(0, .ptr 0 0), (1, .int .i64 (a : Int)), (2, .int .i64 (b : Int)), (8, .own 2), (9, .nils), (31, .sl (pcl A)), (32, .int .i64 ((pcl A).length : Int)), (33, .int .i64 0)], MH s l ++ [Ob.row 89 15 []]⟩) (l := [(0, .ptr 0 0), (1, .int .i64 (a : Int)), (2, .int .i64 (b : Int)), (8, .own 2), (9, .own 3), (31, .sl (pcl A)), (32, .int .i64 ((pcl A).length : Int)), (33, .int .i64 0)]) (H' := MH s l ++ [Ob.row 89 15 []]) 34 12 (by decide) ⟨.inl rfl, .inl rfl, .inl rfl, .inl rfl, .inr ⟨rfl, rfl⟩, .inl rfl, .inl rfl, .inl rfl, trivial⟩ ⟨.inl rfl, .inl rfl, .inl rfl, trivial⟩)
  intro i hi
  have hsl := hvs_len s l a b (totM l) (A.take i)
  have hso : ∀ q ∈ hvs s l a b (totM l) (A.take i), POk q := fun q hq => hAo q (List.mem_of_mem_take (hvs_sub hq))
  rw [List.length_take] at hsl
  by_cases hlt : i < A.length
  · have hx := List.getElem?_eq_getElem hlt
    have hst : hvs s l a b (totM l) (A.take (i + 1)) = hvStep s l a b (totM l) (hvs s l a b (totM l) (A.take i)) A[i] := by
      rw [List.take_add_one, hx]; exact hvs_snoc _ _ _ _ _ _ _
    have hxo := hAo _ (List.mem_of_getElem? hx)
    have hnb : ∀ q ∈ hvs s l a b (totM l) (A.take i), belowP s q A[i] = false := fun q hq => by
      obtain ⟨j, hj⟩ := List.getElem?_of_mem (hvs_sub hq)
      obtain ⟨hj1, hj2⟩ := List.getElem?_eq_some_iff.1 hj
      rw [List.length_take] at hj1
      rw [List.getElem_take] at hj2
      have := (List.pairwise_iff_getElem.1 hpw j i (by omega) hlt (by omega)).1
      rw [hj2] at this; exact this
    generalize hvs s l a b (totM l) (A.take i) = S at *
    generalize A[i] = p at *
    have hls := lines_snoc (L := l) hnb
    have q4 := rest_ok s l hI S p hxo hso (by omega)
    have hrl := rest_le s l S p
    unfold hvStep at hst
    have q5 := heavy_ok a b (restR s l S p) (totM l) ha (by omega) (by omega) hb (by show _ < 18446744073709551616; omega) (by show _ < 18446744073709551616; omega)
    have q6 := weight_ok s l hI p hxo
    have hlc := lnl_len (linesOf s l S)
    have hll : (linesOf s l S).length = S.length := by unfold linesOf; rw [List.length_map]
    have hpc := pcl_len S
    have hln : lns (lineOf s l S p) = pcs p ++ [.int .u64 (wgt s l p : Int), .int .u64 (wgt s l p : Int), .int .u64 (restR s l S p : Int)] := rfl
    generalize hLL : linesOf s l S = LL at *
    generalize heavyN a b (restR s l S p) (totM l) = hv at *
    generalize restR s l S p = rr at *
    (conv => whnf); (repeat' ((first | (with_reducible first | refine Box.mk ?_ | refine And.intro (fun _ => ?_) (fun _ => ?_) | refine (forceH_eq _ _).mpr ?_) | refine ACall.of_pure (by assumption) (by rfl) ?_ | ((with_reducible show Exists _); refine ⟨_, ACall.of_pure (by assumption) (by rfl) ⟨rfl, rfl⟩, ?_⟩) | ((with_reducible show _ ∧ _ ∧ _); refine ⟨by omega, by omega, ?_⟩) | fail) <;> conv => whnf))
    rotate_left
    · exfalso; rename_i h; have h : ¬ (i : Int) < ((pcl A).length : Int) := h; omega
    refine ⟨by omega, pcs p, by rw [Int.toNat_natCast, pcl_get, hx]; rfl, rfl, ?_⟩
    (conv => whnf); (repeat' ((first | (with_reducible first | refine Box.mk ?_ | refine And.intro (fun _ => ?_) (fun _ => ?_) | refine (forceH_eq _ _).mpr ?_) | refine ACall.of_pure (by assumption) (by rfl) ?_ | ((with_reducible show Exists _); refine ⟨_, ACall.of_pure (by assumption) (by rfl) ⟨rfl, rfl⟩, ?_⟩) | ((with_reducible show _ ∧ _ ∧ _); refine ⟨by omega, by omega, ?_⟩) | fail) <;> conv => whnf))
    refine ⟨[], by kernel_rfl, ?_⟩
    (conv => whnf); (repeat' ((first | (with_reducible first | refine Box.mk ?_ | refine And.intro (fun _ => ?_) (fun _ => ?_) | refine (forceH_eq _ _).mpr ?_) | refine ACall.of_pure (by assumption) (by rfl) ?_ | ((with_reducible show Exists _); refine ⟨_, ACall.of_pure (by assumption) (by rfl) ⟨rfl, rfl⟩, ?_⟩) | ((with_reducible show _ ∧ _ ∧ _); refine ⟨by omega, by omega, ?_⟩) | fail) <;> conv => whnf))
    refine ⟨_, ACall.view 3 rfl (pcl_kf _) rfl (aW [0, 1] q4 rfl rfl rfl ⟨rfl, ⟨rfl, mes_kf _ _, lnl_kf _, trivial, rfl, trivial⟩, rfl, rfl, rfl⟩), ?_⟩
    (conv => whnf); (repeat' ((first | (with_reducible first | refine Box.mk ?_ | refine And.intro (fun _ => ?_) (fun _ => ?_) | refine (forceH_eq _ _).mpr ?_) | refine ACall.of_pure (by assumption) (by rfl) ?_ | ((with_reducible show Exists _); refine ⟨_, ACall.of_pure (by assumption) (by rfl) ⟨rfl, rfl⟩, ?_⟩) | ((with_reducible show _ ∧ _ ∧ _); refine ⟨by omega, by omega, ?_⟩) | fail) <;> conv => whnf))
    refine aW [0, 1] q3 rfl rfl rfl ?_
    cases hv
    · (conv => whnf); (repeat' ((first | (with_reducible first | refine Box.mk ?_ | refine And.intro (fun _ => ?_) (fun _ => ?_) | refine (forceH_eq _ _).mpr ?_) | refine ACall.of_pure (by assumption) (by rfl) ?_ | ((with_reducible show Exists _); refine ⟨_, ACall.of_pure (by assumption) (by rfl) ⟨rfl, rfl⟩, ?_⟩) | ((with_reducible show _ ∧ _ ∧ _); refine ⟨by omega, by omega, ?_⟩) | fail) <;> conv => whnf))
      rw [cond_false] at hst
      refine ⟨i + 1, hlt, by omega, weak_ren_to [(0, true), (1, true), (2, true), (3, true)] rfl rfl ?_ ⟨rfl, rfl, rfl, rfl, rfl, rfl, rfl, wrap_nat (m := 1) (by omega), trivial⟩⟩
      rw [hst, hLL]; rfl
    · rw [cond_true] at hst
      (conv => whnf); (repeat' ((first | (with_reducible first | refine Box.mk ?_ | refine And.intro (fun _ => ?_) (fun _ => ?_) | refine (forceH_eq _ _).mpr ?_) | refine ACall.of_pure (by assumption) (by rfl) ?_ | ((with_reducible show Exists _); refine ⟨_, ACall.of_pure (by assumption) (by rfl) ⟨rfl, rfl⟩, ?_⟩) | ((with_reducible show _ ∧ _ ∧ _); refine ⟨by omega, by omega, ?_⟩) | fail) <;> conv => whnf))
      refine aW [0, 1] q6 rfl rfl rfl ?_
      (conv => whnf); (repeat' ((first | (with_reducible first | refine Box.mk ?_ | refine And.intro (fun _ => ?_) (fun _ => ?_) | refine (forceH_eq _ _).mpr ?_) | refine ACall.of_pure (by assumption) (by rfl) ?_ | ((with_reducible show Exists _); refine ⟨_, ACall.of_pure (by assumption) (by rfl) ⟨rfl, rfl⟩, ?_⟩) | ((with_reducible show _ ∧ _ ∧ _); refine ⟨by omega, by omega, ?_⟩) | fail) <;> conv => whnf))
      refine ⟨fun c hc => by rw [List.mem_singleton.1 hc]; exact ⟨rfl, rfl⟩, by rw [hlc]; show (_ + 1) * 136 ≤ _; omega, by rw [hlc]; show _ + 1 ≤ _; omega, ?_⟩
      (conv => whnf); (repeat' ((first | (with_reducible first | refine Box.mk ?_ | refine And.intro (fun _ => ?_) (fun _ => ?_) | refine (forceH_eq _ _).mpr ?_) | refine ACall.of_pure (by assumption) (by rfl) ?_ | ((with_reducible show Exists _); refine ⟨_, ACall.of_pure (by assumption) (by rfl) ⟨rfl, rfl⟩, ?_⟩) | ((with_reducible show _ ∧ _ ∧ _); refine ⟨by omega, by omega, ?_⟩) | fail) <;> conv => whnf))
      refine ⟨fun c hc => by rw [List.mem_singleton.1 hc]; exact ⟨rfl, rfl⟩, by rw [hpc]; show (_ + 1) * 112 ≤ _; omega, by rw [hpc]; show _ + 1 ≤ _; omega, ?_⟩
      (conv => whnf); (repeat' ((first | (with_reducible first | refine Box.mk ?_ | refine And.intro (fun _ => ?_) (fun _ => ?_) | refine (forceH_eq _ _).mpr ?_) | refine ACall.of_pure (by assumption) (by rfl) ?_ | ((with_reducible show Exists _); refine ⟨_, ACall.of_pure (by assumption) (by rfl) ⟨rfl, rfl⟩, ?_⟩) | ((with_reducible show _ ∧ _ ∧ _); refine ⟨by omega, by omega, ?_⟩) | fail) <;> conv => whnf))
      refine ⟨i + 1, hlt, by omega, weak_ren_to [(0, true), (1, true), (6, true), (8, true)] rfl rfl ?_ ⟨rfl, rfl, rfl, rfl, rfl, rfl, rfl, wrap_nat (m := 1) (by omega), trivial⟩⟩
      rw [hst, hls, ← lnl_snoc, ← pcl_snoc, hln]; rfl
  · have : i = A.length := by omega
    subst this
    (conv => whnf); (repeat' ((first | (with_reducible first | refine Box.mk ?_ | refine And.intro (fun _ => ?_) (fun _ => ?_) | refine (forceH_eq _ _).mpr ?_) | refine ACall.of_pure (by assumption) (by rfl) ?_ | ((with_reducible show Exists _); refine ⟨_, ACall.of_pure (by assumption) (by rfl) ⟨rfl, rfl⟩, ?_⟩) | ((with_reducible show _ ∧ _ ∧ _); refine ⟨by omega, by omega, ?_⟩) | fail) <;> conv => whnf))
    · exfalso; rename_i h; have h : ((A.length : Nat) : Int) < ((pcl A).length : Int) := h; omega
    rw [List.take_length]
    exact weak_cr 2 [(0, true), (1, true)] rfl rfl rfl rfl rfl
end Go.Proofs.YtgaohmfmomeflaaGreatDoor
end

section
/- exact: the judge's parts. -/
namespace Go.Proofs.YtgaohmfmomeflaaGreatDoor
open Go.Ve

theorem ACall.nilA [Dr] {f : FuncId} {args : List AV} {H : Hp} {K : KV} (h : ACall P f (mpAL nlN args) H K) : ACall P f args H K := by
  unfold ACall at *
  refine ⟨h.1, fun M0 σ w vs hs hv => h.2 M0 σ w vs hs ⟨by rw [mpAL_len]; exact hv.1, fun i y hy => ?_⟩⟩
  obtain ⟨x, hx, rfl⟩ := mpAL_get hy
  exact mpA_rv (fun x v hx => nlN_rv (fun _ _ h => h) hx) (hv.2 i x hx)
theorem lidxFn_ok {f : FuncId} {cap : List AV} {H : Hp} {q : Ln → Bool} (l : List Ln) (hf : ∀ p ∈ l, DCall P f (.agg (lns p) :: cap) H (.bool (q p)) H) (hl : l.length ≤ 9223372036854775807) :
    DCall P 127 [.sl (lnl l), .fn f cap] H (.int .i64 (idxG q 0 l)) H := by
  have hlc := lnl_len l
  refine ACall.of_awp (K := fun r H' => r = .int .i64 (idxG q 0 l) ∧ H' = H) tok mixed fn127 (Nat.le_of_ble_eq_true rfl) ?_
  (conv => whnf); (repeat' ((first | (with_reducible first | refine Box.mk ?_ | refine And.intro (fun _ => ?_) (fun _ => ?_) | refine (forceH_eq _ _).mpr ?_) | refine ACall.of_pure (by assumption) (by rfl) ?_ | ((with_reducible show Exists _); refine ⟨_, ACall.of_pure (by assumption) (by rfl) ⟨rfl, rfl⟩, ?_⟩) | ((with_reducible show _ ∧ _ ∧ _); refine ⟨by omega, by omega, ?_⟩) | fail) <;> conv => whnf))
  refine aloopH (fun i : Nat => i ≤ l.length ∧ ∀ j x, j < i → l[j]? = some x → q x = false) (fun i : Nat => [(0, .sl (lnl l)), (1, .fn f cap), (7, .int .i64 ((lnl l).length : Int)), (8, .int .i64 i)]) (fun _ H => H) (fun i => l.length - i) 0 ⟨Nat.zero_le _, fun j c h => by omega⟩ (weak_to ⟨rfl, rfl, rfl, rfl, trivial⟩ rfl) ?_
  rintro i ⟨hi, hok⟩
  by_cases hlt : i < l.length
  · have hx := List.getElem?_eq_getElem hlt
    have hfx := hf _ (List.mem_of_getElem? hx)
    have hok2 : q l[i] = false → ∀ j x, j < i + 1 → l[j]? = some x → q x = false := fun hne j x hj hxj => by
      rcases Nat.lt_or_ge j i with h | h
      · exact hok j x h hxj
      · have : j = i := by omega
        subst this
        rw [hx] at hxj
        rw [← Option.some.inj hxj]; exact hne
    have hit : q l[i] = true → idxG q 0 l = (i : Int) := fun he => by
      rw [idxG_hit hx he hok, Nat.zero_add]
    generalize l[i] = x at *
    generalize q x = b at *
    (conv => whnf); (repeat' ((first | (with_reducible first | refine Box.mk ?_ | refine And.intro (fun _ => ?_) (fun _ => ?_) | refine (forceH_eq _ _).mpr ?_) | refine ACall.of_pure (by assumption) (by rfl) ?_ | ((with_reducible show Exists _); refine ⟨_, ACall.of_pure (by assumption) (by rfl) ⟨rfl, rfl⟩, ?_⟩) | ((with_reducible show _ ∧ _ ∧ _); refine ⟨by omega, by omega, ?_⟩) | fail) <;> conv => whnf))
    rotate_left
    · exfalso; rename_i h; have h : ¬ (i : Int) < ((lnl l).length : Int) := h; omega
    refine (forceL_eq _ _).mpr ?_
    (conv => whnf); (repeat' ((first | (with_reducible first | refine Box.mk ?_ | refine And.intro (fun _ => ?_) (fun _ => ?_) | refine (forceH_eq _ _).mpr ?_) | refine ACall.of_pure (by assumption) (by rfl) ?_ | ((with_reducible show Exists _); refine ⟨_, ACall.of_pure (by assumption) (by rfl) ⟨rfl, rfl⟩, ?_⟩) | ((with_reducible show _ ∧ _ ∧ _); refine ⟨by omega, by omega, ?_⟩) | fail) <;> conv => whnf))
    refine ⟨by omega, lns x, by rw [Int.toNat_natCast, lnl_get, hx]; rfl, rfl, ?_⟩
    (conv => whnf); (repeat' ((first | (with_reducible first | refine Box.mk ?_ | refine And.intro (fun _ => ?_) (fun _ => ?_) | refine (forceH_eq _ _).mpr ?_) | refine ACall.of_pure (by assumption) (by rfl) ?_ | ((with_reducible show Exists _); refine ⟨_, ACall.of_pure (by assumption) (by rfl) ⟨rfl, rfl⟩, ?_⟩) | ((with_reducible show _ ∧ _ ∧ _); refine ⟨by omega, by omega, ?_⟩) | fail) <;> conv => whnf))
    refine hfx.mono ?_
    rintro r H' ⟨rfl, rfl⟩
    cases b
    · (conv => whnf); (repeat' ((first | (with_reducible first | refine Box.mk ?_ | refine And.intro (fun _ => ?_) (fun _ => ?_) | refine (forceH_eq _ _).mpr ?_) | refine ACall.of_pure (by assumption) (by rfl) ?_ | ((with_reducible show Exists _); refine ⟨_, ACall.of_pure (by assumption) (by rfl) ⟨rfl, rfl⟩, ?_⟩) | ((with_reducible show _ ∧ _ ∧ _); refine ⟨by omega, by omega, ?_⟩) | fail) <;> conv => whnf))
      exact ⟨i + 1, ⟨hlt, hok2 rfl⟩, by omega, weak_to ⟨rfl, rfl, rfl, wrap_nat (m := 1) (by omega), trivial⟩ rfl⟩
    · (conv => whnf); (repeat' ((first | (with_reducible first | refine Box.mk ?_ | refine And.intro (fun _ => ?_) (fun _ => ?_) | refine (forceH_eq _ _).mpr ?_) | refine ACall.of_pure (by assumption) (by rfl) ?_ | ((with_reducible show Exists _); refine ⟨_, ACall.of_pure (by assumption) (by rfl) ⟨rfl, rfl⟩, ?_⟩) | ((with_reducible show _ ∧ _ ∧ _); refine ⟨by omega, by omega, ?_⟩) | fail) <;> conv => whnf))
      exact ⟨congrArg (AV.int .i64) (hit rfl).symm, rfl⟩
  · have : i = l.length := by omega
    subst this
    (conv => whnf); (repeat' ((first | (with_reducible first | refine Box.mk ?_ | refine And.intro (fun _ => ?_) (fun _ => ?_) | refine (forceH_eq _ _).mpr ?_) | refine ACall.of_pure (by assumption) (by rfl) ?_ | ((with_reducible show Exists _); refine ⟨_, ACall.of_pure (by assumption) (by rfl) ⟨rfl, rfl⟩, ?_⟩) | ((with_reducible show _ ∧ _ ∧ _); refine ⟨by omega, by omega, ?_⟩) | fail) <;> conv => whnf))
    · exfalso; rename_i h; have h : ((l.length : Nat) : Int) < ((lnl l).length : Int) := h; omega
    refine ⟨congrArg (AV.int .i64) ?_, rfl⟩
    rw [idxG_miss]
    intro y hy
    obtain ⟨j, hj⟩ := List.getElem?_of_mem hy
    exact hok j y (List.getElem?_eq_some_iff.1 hj).1 hj
theorem lconFn_ok {f : FuncId} {cap : List AV} {H : Hp} {q : Ln → Bool} (l : List Ln) (hf : ∀ p ∈ l, DCall P f (.agg (lns p) :: cap) H (.bool (q p)) H) (hl : l.length ≤ 9223372036854775807) :
    DCall P 98 [.sl (lnl l), .fn f cap] H (.bool (l.any q)) H := by
  have q1 := lidxFn_ok l hf hl
  rw [← idxG_any (k := 0)]
  refine ACall.of_awp (K := fun r H' => r = .bool (decide (0 ≤ idxG q 0 l)) ∧ H' = H) tok mixed fn98 (Nat.le_of_ble_eq_true rfl) ?_
  (conv => whnf); (repeat' ((first | (with_reducible first | refine Box.mk ?_ | refine And.intro (fun _ => ?_) (fun _ => ?_) | refine (forceH_eq _ _).mpr ?_) | refine ACall.of_pure (by assumption) (by rfl) ?_ | ((with_reducible show Exists _); refine ⟨_, ACall.of_pure (by assumption) (by rfl) ⟨rfl, rfl⟩, ?_⟩) | ((with_reducible show _ ∧ _ ∧ _); refine ⟨by omega, by omega, ?_⟩) | fail) <;> conv => whnf))
  refine (forceL_eq _ _).mpr ?_
  (conv => whnf); (repeat' ((first | (with_reducible first | refine Box.mk ?_ | refine And.intro (fun _ => ?_) (fun _ => ?_) | refine (forceH_eq _ _).mpr ?_) | refine ACall.of_pure (by assumption) (by rfl) ?_ | ((with_reducible show Exists _); refine ⟨_, ACall.of_pure (by assumption) (by rfl) ⟨rfl, rfl⟩, ?_⟩) | ((with_reducible show _ ∧ _ ∧ _); refine ⟨by omega, by omega, ?_⟩) | fail) <;> conv => whnf))
  refine q1.mono ?_
  rintro r H' ⟨rfl, rfl⟩
  (conv => whnf); (repeat' ((first | (with_reducible first | refine Box.mk ?_ | refine And.intro (fun _ => ?_) (fun _ => ?_) | refine (forceH_eq _ _).mpr ?_) | refine ACall.of_pure (by assumption) (by rfl) ?_ | ((with_reducible show Exists _); refine ⟨_, ACall.of_pure (by assumption) (by rfl) ⟨rfl, rfl⟩, ?_⟩) | ((with_reducible show _ ∧ _ ∧ _); refine ⟨by omega, by omega, ?_⟩) | fail) <;> conv => whnf))
  · exact ⟨bool_true (decide_eq_true (by assumption)), rfl⟩
  · exact ⟨bool_false (decide_eq_false (by assumption)), rfl⟩

/-! ### a court -/
def crt (k a b : Nat) (R : List Px) : List AV := [.ptr 0 0, .int .i64 (k : Int), .int .i64 (a : Int), .int .i64 (b : Int), .sl (pcl R)]
/-- The model, and the variable that holds what is asked of a line. -/
def alH (s : Sp) (l : Ml) (f : FuncId) (k a b : Nat) (R : List Px) : Hp := MH s l ++ [.box 124 [.bfn f (crt k a b R)]]
theorem not_ok (s : Sp) (l : Ml) (f : FuncId) (k a b : Nat) (R : List Px) (x : Ln) (q : Bool) (hf : DCall P f [.agg (crt k a b R), .agg (lns x)] (MH s l) (.bool q) (MH s l)) :
    DCall P 97 [.agg (lns x), .ptr 2 0] (alH s l f k a b R) (.bool (!q)) (alH s l f k a b R) := by
  refine DCall.of_awp tok mixed fn97 (Nat.le_of_ble_eq_true rfl) ?_
  (conv => whnf); (repeat' ((first | (with_reducible first | refine Box.mk ?_ | refine And.intro (fun _ => ?_) (fun _ => ?_) | refine (forceH_eq _ _).mpr ?_) | refine ACall.of_pure (by assumption) (by rfl) ?_ | ((with_reducible show Exists _); refine ⟨_, ACall.of_pure (by assumption) (by rfl) ⟨rfl, rfl⟩, ?_⟩) | ((with_reducible show _ ∧ _ ∧ _); refine ⟨by omega, by omega, ?_⟩) | fail) <;> conv => whnf))
  refine aW [0, 1] hf rfl rfl rfl ?_
  (conv => whnf); (repeat' ((first | (with_reducible first | refine Box.mk ?_ | refine And.intro (fun _ => ?_) (fun _ => ?_) | refine (forceH_eq _ _).mpr ?_) | refine ACall.of_pure (by assumption) (by rfl) ?_ | ((with_reducible show Exists _); refine ⟨_, ACall.of_pure (by assumption) (by rfl) ⟨rfl, rfl⟩, ?_⟩) | ((with_reducible show _ ∧ _ ∧ _); refine ⟨by omega, by omega, ?_⟩) | fail) <;> conv => whnf))
  exact weak_ren_to [(0, true), (1, true), (2, true)] rfl rfl rfl ⟨rfl, trivial⟩
theorem all_ok (s : Sp) (l : Ml) (f : FuncId) (k a b : Nat) (R : List Px) (ls : List Ln) (q : Ln → Bool) (hf : ∀ x ∈ ls, DCall P f [.agg (crt k a b R), .agg (lns x)] (MH s l) (.bool (q x)) (MH s l)) (hl : ls.length ≤ 9223372036854775807) :
    DCall P 64 [.sl (lnl ls), .bfn f (crt k a b R)] (MH s l) (.bool (ls.all q)) (MH s l) := by
  have q1 := lconFn_ok (q := fun x => !q x) ls (fun x hx => not_ok s l f k a b R x (q x) (hf x hx)) hl
  have e : ls.all q = !(ls.any fun x => !q x) := by rw [List.not_any_eq_all_not]; congr 1; funext x; simp
  rw [e]
  refine DCall.of_awp tok mixed fn64 (Nat.le_of_ble_eq_true rfl) ?_
  (conv => whnf); (repeat' ((first | (with_reducible first | refine Box.mk ?_ | refine And.intro (fun _ => ?_) (fun _ => ?_) | refine (forceH_eq _ _).mpr ?_) | refine ACall.of_pure (by assumption) (by rfl) ?_ | ((with_reducible show Exists _); refine ⟨_, ACall.of_pure (by assumption) (by rfl) ⟨rfl, rfl⟩, ?_⟩) | ((with_reducible show _ ∧ _ ∧ _); refine ⟨by omega, by omega, ?_⟩) | fail) <;> conv => whnf))
  refine aW [0, 1, 2] q1 rfl rfl rfl ?_
  (conv => whnf); (repeat' ((first | (with_reducible first | refine Box.mk ?_ | refine And.intro (fun _ => ?_) (fun _ => ?_) | refine (forceH_eq _ _).mpr ?_) | refine ACall.of_pure (by assumption) (by rfl) ?_ | ((with_reducible show Exists _); refine ⟨_, ACall.of_pure (by assumption) (by rfl) ⟨rfl, rfl⟩, ?_⟩) | ((with_reducible show _ ∧ _ ∧ _); refine ⟨by omega, by omega, ?_⟩) | fail) <;> conv => whnf))
  exact weak_ren_to [(0, true), (1, true)] rfl rfl rfl ⟨rfl, trivial⟩
/-- Nearly enough. -/
def enoughB (k a b n w t : Nat) : Bool := decide (a * k * n ≤ b * k * w + t * (b * n))
theorem enough_ok (s : Sp) (l : Ml) (hI : MI s l) (k a b : Nat) (hk : k ≤ 200) (ha : a ≤ 1048576) (hb : b ≤ 1048576) (R : List Px) (w t : Nat) (hw : w ≤ totM l) (ht : t ≤ 4294967296) :
    DCall P 99 [.agg (crt k a b R), .int .u64 (w : Int), .int .i64 (t : Int)] (MH s l) (.bool (enoughB k a b (totM l) w t)) (MH s l) := by
  have q1 := total_ok s l
  have hn := hI.tot
  have m1 : b * k ≤ 1048576 * 200 := Nat.mul_le_mul hb hk
  have m2 : a * k ≤ 1048576 * 200 := Nat.mul_le_mul ha hk
  have w1 : IntKind.u64.wrap (IntKind.i64.wrap ((b : Int) * (k : Int))) = ((b * k : Nat) : Int) := by rw [← Int.natCast_mul, wrap_i64 (by omega) (by omega), wrap_u64 (by omega) (by omega)]
  have w2 : IntKind.u64.wrap (IntKind.i64.wrap ((a : Int) * (k : Int))) = ((a * k : Nat) : Int) := by rw [← Int.natCast_mul, wrap_i64 (by omega) (by omega), wrap_u64 (by omega) (by omega)]
  have w3 : IntKind.u64.wrap (b : Int) = (b : Int) := by rw [wrap_u64 (by omega) (by omega)]
  have q2 := wmul_ok (b * k) w (by show _ < 18446744073709551616; omega) (by show _ < 18446744073709551616; omega)
  have q3 := wmul_ok b (totM l) (by show _ < 18446744073709551616; omega) (by show _ < 18446744073709551616; omega)
  have q4 := wmul_ok (a * k) (totM l) (by show _ < 18446744073709551616; omega) (by show _ < 18446744073709551616; omega)
  have b1 : b * k * w ≤ 209715200 * 4611686018427387904 := Nat.mul_le_mul (by omega) (by omega)
  have b2 : b * totM l ≤ 1048576 * 4611686018427387904 := Nat.mul_le_mul hb hn
  have b3 : ∀ i : Nat, i ≤ 4294967296 → i * (b * totM l) ≤ 4294967296 * (1048576 * 4611686018427387904) := fun i hi => Nat.mul_le_mul hi b2
  rw [← w1] at q2
  rw [← w3] at q3
  rw [← w2] at q4
  refine DCall.of_awp tok mixed fn99 (Nat.le_of_ble_eq_true rfl) ?_
  (conv => whnf); (repeat' ((first | (with_reducible first | refine Box.mk ?_ | refine And.intro (fun _ => ?_) (fun _ => ?_) | refine (forceH_eq _ _).mpr ?_) | refine ACall.of_pure (by assumption) (by rfl) ?_ | ((with_reducible show Exists _); refine ⟨_, ACall.of_pure (by assumption) (by rfl) ⟨rfl, rfl⟩, ?_⟩) | ((with_reducible show _ ∧ _ ∧ _); refine ⟨by omega, by omega, ?_⟩) | fail) <;> conv => whnf))
  refine aW [0, 1] q1 rfl rfl rfl ?_
  (conv => whnf); (repeat' ((first | (with_reducible first | refine Box.mk ?_ | refine And.intro (fun _ => ?_) (fun _ => ?_) | refine (forceH_eq _ _).mpr ?_) | refine ACall.of_pure (by assumption) (by rfl) ?_ | ((with_reducible show Exists _); refine ⟨_, ACall.of_pure (by assumption) (by rfl) ⟨rfl, rfl⟩, ?_⟩) | ((with_reducible show _ ∧ _ ∧ _); refine ⟨by omega, by omega, ?_⟩) | fail) <;> conv => whnf))
  have h0 : b * k * w = b * k * w + 0 * (b * totM l) := by rw [Nat.zero_mul, Nat.add_zero]
  refine aloop (fun i : Nat => i ≤ t) (fun i => ⟨envL [(3, .ptr 2 0), (7, .int .u64 (totM l : Int)), (8, .ptr 3 0), (20, .int .i64 (t : Int)), (21, .int .i64 (i : Int))], MH s l ++ [.box 122 (crt k a b R), .box 153 [.int .u64 (((b * k * w + i * (b * totM l)) / H64 : Nat) : Int), .int .u64 (((b * k * w + i * (b * totM l)) % H64 : Nat) : Int)]]⟩) (fun i => t - i) 0 (Nat.zero_le _)
    (weak_to ⟨rfl, rfl, rfl, rfl, rfl, trivial⟩ (by rw [← h0]; rfl)) ?_
  intro i hi
  have hq := b3 i (by omega)
  by_cases hlt : i < t
  · have q5 := wadd_ok (b * k * w + i * (b * totM l)) (b * totM l) (by omega)
    have e : b * k * w + i * (b * totM l) + b * totM l = b * k * w + (i + 1) * (b * totM l) := by rw [Nat.add_mul, Nat.one_mul, Nat.add_assoc]
    rw [e] at q5
    (conv => whnf); (repeat' ((first | (with_reducible first | refine Box.mk ?_ | refine And.intro (fun _ => ?_) (fun _ => ?_) | refine (forceH_eq _ _).mpr ?_) | refine ACall.of_pure (by assumption) (by rfl) ?_ | ((with_reducible show Exists _); refine ⟨_, ACall.of_pure (by assumption) (by rfl) ⟨rfl, rfl⟩, ?_⟩) | ((with_reducible show _ ∧ _ ∧ _); refine ⟨by omega, by omega, ?_⟩) | fail) <;> conv => whnf))
    rotate_left
    · exfalso; rename_i h; have h : ¬ (i : Int) < (t : Int) := h; omega
    refine ⟨[], by kernel_rfl, ?_⟩
    (conv => whnf); (repeat' ((first | (with_reducible first | refine Box.mk ?_ | refine And.intro (fun _ => ?_) (fun _ => ?_) | refine (forceH_eq _ _).mpr ?_) | refine ACall.of_pure (by assumption) (by rfl) ?_ | ((with_reducible show Exists _); refine ⟨_, ACall.of_pure (by assumption) (by rfl) ⟨rfl, rfl⟩, ?_⟩) | ((with_reducible show _ ∧ _ ∧ _); refine ⟨by omega, by omega, ?_⟩) | fail) <;> conv => whnf))
    exact ⟨i + 1, hlt, by omega, weak_to ⟨rfl, rfl, rfl, rfl, wrap_nat (m := 1) (by omega), trivial⟩ rfl⟩
  · have : i = t := by omega
    subst this
    have q6 := wcmp_ok (b * k * w + i * (b * totM l)) (a * k * totM l)
    (conv => whnf); (repeat' ((first | (with_reducible first | refine Box.mk ?_ | refine And.intro (fun _ => ?_) (fun _ => ?_) | refine (forceH_eq _ _).mpr ?_) | refine ACall.of_pure (by assumption) (by rfl) ?_ | ((with_reducible show Exists _); refine ⟨_, ACall.of_pure (by assumption) (by rfl) ⟨rfl, rfl⟩, ?_⟩) | ((with_reducible show _ ∧ _ ∧ _); refine ⟨by omega, by omega, ?_⟩) | fail) <;> conv => whnf))
    · exfalso; rename_i h; have h : (i : Int) < (i : Int) := h; omega
    refine ⟨[], by kernel_rfl, ?_⟩
    (conv => whnf); (repeat' ((first | (with_reducible first | refine Box.mk ?_ | refine And.intro (fun _ => ?_) (fun _ => ?_) | refine (forceH_eq _ _).mpr ?_) | refine ACall.of_pure (by assumption) (by rfl) ?_ | ((with_reducible show Exists _); refine ⟨_, ACall.of_pure (by assumption) (by rfl) ⟨rfl, rfl⟩, ?_⟩) | ((with_reducible show _ ∧ _ ∧ _); refine ⟨by omega, by omega, ?_⟩) | fail) <;> conv => whnf))
    · rename_i h
      have : enoughB k a b (totM l) w i = true := by
        refine decide_eq_true ?_
        rcases wcmp_cases (b * k * w + i * (b * totM l)) (a * k * totM l) with ⟨h1, h2⟩ | ⟨h1, h2⟩ | ⟨h1, h2⟩ <;> omega
      rw [this]
      exact weak_ren_to [(0, true), (1, true)] rfl rfl rfl ⟨rfl, trivial⟩
    · rename_i h
      have : enoughB k a b (totM l) w i = false := by
        refine decide_eq_false ?_
        rcases wcmp_cases (b * k * w + i * (b * totM l)) (a * k * totM l) with ⟨h1, h2⟩ | ⟨h1, h2⟩ | ⟨h1, h2⟩ <;> omega
      rw [this]
      exact weak_ren_to [(0, true), (1, true)] rfl rfl rfl ⟨rfl, trivial⟩
theorem sound_okL (s : Sp) (l : Ml) (hI : MI s l) (k a b : Nat) (hk : k ≤ 200) (ha : a ≤ 1048576) (hb : b ≤ 1048576) (R : List Px) (x : Ln) (hx : POk x.p) :
    DCall P 66 [.agg (crt k a b R), .agg (lns x)] (MH s l) (.bool (enoughB k a b (totM l) (wgt s l x.p) 1)) (MH s l) := by
  have q1 := weight_ok s l hI x.p hx
  have q2 := enough_ok s l hI k a b hk ha hb R (wgt s l x.p) 1 (sumF_le _ _) (by omega)
  refine DCall.of_awp tok mixed fn66 (Nat.le_of_ble_eq_true rfl) ?_
  (conv => whnf); (repeat' ((first | (with_reducible first | refine Box.mk ?_ | refine And.intro (fun _ => ?_) (fun _ => ?_) | refine (forceH_eq _ _).mpr ?_) | refine ACall.of_pure (by assumption) (by rfl) ?_ | ((with_reducible show Exists _); refine ⟨_, ACall.of_pure (by assumption) (by rfl) ⟨rfl, rfl⟩, ?_⟩) | ((with_reducible show _ ∧ _ ∧ _); refine ⟨by omega, by omega, ?_⟩) | fail) <;> conv => whnf))
  refine ⟨[], by kernel_rfl, ?_⟩
  (conv => whnf); (repeat' ((first | (with_reducible first | refine Box.mk ?_ | refine And.intro (fun _ => ?_) (fun _ => ?_) | refine (forceH_eq _ _).mpr ?_) | refine ACall.of_pure (by assumption) (by rfl) ?_ | ((with_reducible show Exists _); refine ⟨_, ACall.of_pure (by assumption) (by rfl) ⟨rfl, rfl⟩, ?_⟩) | ((with_reducible show _ ∧ _ ∧ _); refine ⟨by omega, by omega, ?_⟩) | fail) <;> conv => whnf))
  refine aDr [0, 1] q1 rfl rfl rfl rfl ?_
  (conv => whnf); (repeat' ((first | (with_reducible first | refine Box.mk ?_ | refine And.intro (fun _ => ?_) (fun _ => ?_) | refine (forceH_eq _ _).mpr ?_) | refine ACall.of_pure (by assumption) (by rfl) ?_ | ((with_reducible show Exists _); refine ⟨_, ACall.of_pure (by assumption) (by rfl) ⟨rfl, rfl⟩, ?_⟩) | ((with_reducible show _ ∧ _ ∧ _); refine ⟨by omega, by omega, ?_⟩) | fail) <;> conv => whnf))
  refine aDr [0, 1] q2 rfl rfl rfl rfl ?_
  (conv => whnf); (repeat' ((first | (with_reducible first | refine Box.mk ?_ | refine And.intro (fun _ => ?_) (fun _ => ?_) | refine (forceH_eq _ _).mpr ?_) | refine ACall.of_pure (by assumption) (by rfl) ?_ | ((with_reducible show Exists _); refine ⟨_, ACall.of_pure (by assumption) (by rfl) ⟨rfl, rfl⟩, ?_⟩) | ((with_reducible show _ ∧ _ ∧ _); refine ⟨by omega, by omega, ?_⟩) | fail) <;> conv => whnf))
  exact weak_ren_to [(0, true), (1, true)] rfl rfl rfl ⟨rfl, trivial⟩
/-- A line says what is so. -/
def boundsB (s : Sp) (l : Ml) (R : List Px) (x : Ln) : Bool := rightP s x.p && decide (x.lo ≤ wgt s l x.p ∧ wgt s l x.p ≤ x.hi ∧ x.est ≤ x.hi) && decide (restR s l R x.p ≤ x.est)
theorem bounds_ok (s : Sp) (l : Ml) (hI : MI s l) (k a b : Nat) (R : List Px) (hR : ∀ q ∈ R, POk q) (hl : R.length ≤ 1000000000000) (x : Ln) (hx : POk x.p) :
    DCall P 65 [.agg (crt k a b R), .agg (lns x)] (MH s l) (.bool (boundsB s l R x)) (MH s l) := by
  have q1 := weight_ok s l hI x.p hx
  have q2 := space_ok s l
  have q3 := pRight_ok s x.p hx
  have q4 := rest_ok s l hI R x.p hx hR hl
  unfold boundsB
  generalize rightP s x.p = r at *
  generalize hw : wgt s l x.p = w at *
  generalize restR s l R x.p = rr at *
  refine DCall.of_awp tok mixed fn65 (Nat.le_of_ble_eq_true rfl) ?_
  cases r
  · (conv => whnf); (repeat' ((first | (with_reducible first | refine Box.mk ?_ | refine And.intro (fun _ => ?_) (fun _ => ?_) | refine (forceH_eq _ _).mpr ?_) | refine ACall.of_pure (by assumption) (by rfl) ?_ | ((with_reducible show Exists _); refine ⟨_, ACall.of_pure (by assumption) (by rfl) ⟨rfl, rfl⟩, ?_⟩) | ((with_reducible show _ ∧ _ ∧ _); refine ⟨by omega, by omega, ?_⟩) | fail) <;> conv => whnf))
    refine aW [0, 1] q1 rfl rfl rfl ?_
    (conv => whnf); (repeat' ((first | (with_reducible first | refine Box.mk ?_ | refine And.intro (fun _ => ?_) (fun _ => ?_) | refine (forceH_eq _ _).mpr ?_) | refine ACall.of_pure (by assumption) (by rfl) ?_ | ((with_reducible show Exists _); refine ⟨_, ACall.of_pure (by assumption) (by rfl) ⟨rfl, rfl⟩, ?_⟩) | ((with_reducible show _ ∧ _ ∧ _); refine ⟨by omega, by omega, ?_⟩) | fail) <;> conv => whnf))
    refine ⟨[], by kernel_rfl, ?_⟩
    (conv => whnf); (repeat' ((first | (with_reducible first | refine Box.mk ?_ | refine And.intro (fun _ => ?_) (fun _ => ?_) | refine (forceH_eq _ _).mpr ?_) | refine ACall.of_pure (by assumption) (by rfl) ?_ | ((with_reducible show Exists _); refine ⟨_, ACall.of_pure (by assumption) (by rfl) ⟨rfl, rfl⟩, ?_⟩) | ((with_reducible show _ ∧ _ ∧ _); refine ⟨by omega, by omega, ?_⟩) | fail) <;> conv => whnf))
    refine aDr [0, 1] q2 rfl rfl rfl rfl ?_
    (conv => whnf); (repeat' ((first | (with_reducible first | refine Box.mk ?_ | refine And.intro (fun _ => ?_) (fun _ => ?_) | refine (forceH_eq _ _).mpr ?_) | refine ACall.of_pure (by assumption) (by rfl) ?_ | ((with_reducible show Exists _); refine ⟨_, ACall.of_pure (by assumption) (by rfl) ⟨rfl, rfl⟩, ?_⟩) | ((with_reducible show _ ∧ _ ∧ _); refine ⟨by omega, by omega, ?_⟩) | fail) <;> conv => whnf))
    exact weak_ren_to [(0, true), (1, true)] rfl rfl rfl ⟨rfl, trivial⟩
  · have no : ¬ (x.lo ≤ w ∧ w ≤ x.hi ∧ x.est ≤ x.hi) → (true && decide (x.lo ≤ w ∧ w ≤ x.hi ∧ x.est ≤ x.hi) && decide (rr ≤ x.est)) = false := fun h => by rw [decide_eq_false h]; rfl
    have yes : (x.lo ≤ w ∧ w ≤ x.hi ∧ x.est ≤ x.hi) → (true && decide (x.lo ≤ w ∧ w ≤ x.hi ∧ x.est ≤ x.hi) && decide (rr ≤ x.est)) = decide (rr ≤ x.est) := fun h => by rw [decide_eq_true h]; rfl
    (conv => whnf); (repeat' ((first | (with_reducible first | refine Box.mk ?_ | refine And.intro (fun _ => ?_) (fun _ => ?_) | refine (forceH_eq _ _).mpr ?_) | refine ACall.of_pure (by assumption) (by rfl) ?_ | ((with_reducible show Exists _); refine ⟨_, ACall.of_pure (by assumption) (by rfl) ⟨rfl, rfl⟩, ?_⟩) | ((with_reducible show _ ∧ _ ∧ _); refine ⟨by omega, by omega, ?_⟩) | fail) <;> conv => whnf))
    refine aW [0, 1] q1 rfl rfl rfl ?_
    (conv => whnf); (repeat' ((first | (with_reducible first | refine Box.mk ?_ | refine And.intro (fun _ => ?_) (fun _ => ?_) | refine (forceH_eq _ _).mpr ?_) | refine ACall.of_pure (by assumption) (by rfl) ?_ | ((with_reducible show Exists _); refine ⟨_, ACall.of_pure (by assumption) (by rfl) ⟨rfl, rfl⟩, ?_⟩) | ((with_reducible show _ ∧ _ ∧ _); refine ⟨by omega, by omega, ?_⟩) | fail) <;> conv => whnf))
    refine ⟨[], by kernel_rfl, ?_⟩
    (conv => whnf); (repeat' ((first | (with_reducible first | refine Box.mk ?_ | refine And.intro (fun _ => ?_) (fun _ => ?_) | refine (forceH_eq _ _).mpr ?_) | refine ACall.of_pure (by assumption) (by rfl) ?_ | ((with_reducible show Exists _); refine ⟨_, ACall.of_pure (by assumption) (by rfl) ⟨rfl, rfl⟩, ?_⟩) | ((with_reducible show _ ∧ _ ∧ _); refine ⟨by omega, by omega, ?_⟩) | fail) <;> conv => whnf))
    refine aDr [0, 1] q2 rfl rfl rfl rfl ?_
    (conv => whnf); (repeat' ((first | (with_reducible first | refine Box.mk ?_ | refine And.intro (fun _ => ?_) (fun _ => ?_) | refine (forceH_eq _ _).mpr ?_) | refine ACall.of_pure (by assumption) (by rfl) ?_ | ((with_reducible show Exists _); refine ⟨_, ACall.of_pure (by assumption) (by rfl) ⟨rfl, rfl⟩, ?_⟩) | ((with_reducible show _ ∧ _ ∧ _); refine ⟨by omega, by omega, ?_⟩) | fail) <;> conv => whnf))
    all_goals first
      | (rw [no (by omega)]; exact weak_ren_to [(0, true), (1, true)] rfl rfl rfl ⟨rfl, trivial⟩)
      | skip
    rw [yes (by omega)]
    refine ⟨[], by kernel_rfl, ?_⟩
    (conv => whnf); (repeat' ((first | (with_reducible first | refine Box.mk ?_ | refine And.intro (fun _ => ?_) (fun _ => ?_) | refine (forceH_eq _ _).mpr ?_) | refine ACall.of_pure (by assumption) (by rfl) ?_ | ((with_reducible show Exists _); refine ⟨_, ACall.of_pure (by assumption) (by rfl) ⟨rfl, rfl⟩, ?_⟩) | ((with_reducible show _ ∧ _ ∧ _); refine ⟨by omega, by omega, ?_⟩) | fail) <;> conv => whnf))
    refine aDr [0, 1] q4 rfl rfl rfl rfl ?_
    (conv => whnf); (repeat' ((first | (with_reducible first | refine Box.mk ?_ | refine And.intro (fun _ => ?_) (fun _ => ?_) | refine (forceH_eq _ _).mpr ?_) | refine ACall.of_pure (by assumption) (by rfl) ?_ | ((with_reducible show Exists _); refine ⟨_, ACall.of_pure (by assumption) (by rfl) ⟨rfl, rfl⟩, ?_⟩) | ((with_reducible show _ ∧ _ ∧ _); refine ⟨by omega, by omega, ?_⟩) | fail) <;> conv => whnf))
    · rename_i h
      rw [decide_eq_true (by omega)]
      exact weak_ren_to [(0, true), (1, true)] rfl rfl rfl ⟨rfl, trivial⟩
    · rename_i h
      rw [decide_eq_false (by omega)]
      exact weak_ren_to [(0, true), (1, true)] rfl rfl rfl ⟨rfl, trivial⟩
end Go.Proofs.YtgaohmfmomeflaaGreatDoor
end

section
/- exact: near, covers; the prefixes of lines; the judge. -/
namespace Go.Proofs.YtgaohmfmomeflaaGreatDoor
open Go.Ve

theorem near_ok (s : Sp) (l : Ml) (hI : MI s l) (k a b : Nat) (hk : k ≤ 200) (ha : a ≤ 1048576) (hb : b ≤ 1048576) (R : List Px) (hR : ∀ q ∈ R, POk q) (hl : R.length ≤ 4294967295) (x : Ln) (hx : POk x.p) :
    DCall P 67 [.agg (crt k a b R), .agg (lns x)] (MH s l) (.bool (decide (s.n = 2) || enoughB k a b (totM l) (restR s l R x.p) (1 + (greatL s R x.p).length))) (MH s l) := by
  have q1 := space_ok s l
  have q2 := rest_ok s l hI R x.p hx hR (by omega)
  have q3 := great_ok s R x.p hx hR (by omega)
  have hgl : (greatL s R x.p).length ≤ R.length := Nat.le_trans (List.length_filter_le _ _) (underL_len s x.p R)
  have q4 := enough_ok s l hI k a b hk ha hb R (restR s l R x.p) (1 + (greatL s R x.p).length) (rest_le _ _ _ _) (by omega)
  generalize restR s l R x.p = rr at *
  generalize greatL s R x.p = G at *
  have hGc := pcl_len G
  have e1 : IntKind.i64.wrap (1 + ((pcl G).length : Int)) = ((1 + G.length : Nat) : Int) := by rw [hGc, wrap_i64 (by omega) (by omega)]; omega
  by_cases hn : s.n = 2
  · rw [decide_eq_true hn, Bool.true_or]
    refine DCall.of_awp tok mixed fn67 (Nat.le_of_ble_eq_true rfl) ?_
    (conv => whnf); (repeat' ((first | (with_reducible first | refine Box.mk ?_ | refine And.intro (fun _ => ?_) (fun _ => ?_) | refine (forceH_eq _ _).mpr ?_) | refine ACall.of_pure (by assumption) (by rfl) ?_ | ((with_reducible show Exists _); refine ⟨_, ACall.of_pure (by assumption) (by rfl) ⟨rfl, rfl⟩, ?_⟩) | ((with_reducible show _ ∧ _ ∧ _); refine ⟨by omega, by omega, ?_⟩) | fail) <;> conv => whnf))
    refine aW [0, 1] q1 rfl rfl rfl ?_
    (conv => whnf); (repeat' ((first | (with_reducible first | refine Box.mk ?_ | refine And.intro (fun _ => ?_) (fun _ => ?_) | refine (forceH_eq _ _).mpr ?_) | refine ACall.of_pure (by assumption) (by rfl) ?_ | ((with_reducible show Exists _); refine ⟨_, ACall.of_pure (by assumption) (by rfl) ⟨rfl, rfl⟩, ?_⟩) | ((with_reducible show _ ∧ _ ∧ _); refine ⟨by omega, by omega, ?_⟩) | fail) <;> conv => whnf))
    refine ⟨[], by kernel_rfl, ?_⟩
    (conv => whnf); (repeat' ((first | (with_reducible first | refine Box.mk ?_ | refine And.intro (fun _ => ?_) (fun _ => ?_) | refine (forceH_eq _ _).mpr ?_) | refine ACall.of_pure (by assumption) (by rfl) ?_ | ((with_reducible show Exists _); refine ⟨_, ACall.of_pure (by assumption) (by rfl) ⟨rfl, rfl⟩, ?_⟩) | ((with_reducible show _ ∧ _ ∧ _); refine ⟨by omega, by omega, ?_⟩) | fail) <;> conv => whnf))
    · exact weak_ren_to [(0, true), (1, true)] rfl rfl rfl ⟨rfl, trivial⟩
    · rename_i h; exact absurd hn h
  · rw [decide_eq_false hn, Bool.false_or]
    rw [← e1] at q4
    refine DCall.of_awp tok mixed fn67 (Nat.le_of_ble_eq_true rfl) ?_
    (conv => whnf); (repeat' ((first | (with_reducible first | refine Box.mk ?_ | refine And.intro (fun _ => ?_) (fun _ => ?_) | refine (forceH_eq _ _).mpr ?_) | refine ACall.of_pure (by assumption) (by rfl) ?_ | ((with_reducible show Exists _); refine ⟨_, ACall.of_pure (by assumption) (by rfl) ⟨rfl, rfl⟩, ?_⟩) | ((with_reducible show _ ∧ _ ∧ _); refine ⟨by omega, by omega, ?_⟩) | fail) <;> conv => whnf))
    refine aW [0, 1] q1 rfl rfl rfl ?_
    (conv => whnf); (repeat' ((first | (with_reducible first | refine Box.mk ?_ | refine And.intro (fun _ => ?_) (fun _ => ?_) | refine (forceH_eq _ _).mpr ?_) | refine ACall.of_pure (by assumption) (by rfl) ?_ | ((with_reducible show Exists _); refine ⟨_, ACall.of_pure (by assumption) (by rfl) ⟨rfl, rfl⟩, ?_⟩) | ((with_reducible show _ ∧ _ ∧ _); refine ⟨by omega, by omega, ?_⟩) | fail) <;> conv => whnf))
    refine ⟨[], by kernel_rfl, ?_⟩
    (conv => whnf); (repeat' ((first | (with_reducible first | refine Box.mk ?_ | refine And.intro (fun _ => ?_) (fun _ => ?_) | refine (forceH_eq _ _).mpr ?_) | refine ACall.of_pure (by assumption) (by rfl) ?_ | ((with_reducible show Exists _); refine ⟨_, ACall.of_pure (by assumption) (by rfl) ⟨rfl, rfl⟩, ?_⟩) | ((with_reducible show _ ∧ _ ∧ _); refine ⟨by omega, by omega, ?_⟩) | fail) <;> conv => whnf))
    · rename_i h; exact absurd h hn
    refine aDr [0, 1] q2 rfl rfl rfl rfl ?_
    (conv => whnf); (repeat' ((first | (with_reducible first | refine Box.mk ?_ | refine And.intro (fun _ => ?_) (fun _ => ?_) | refine (forceH_eq _ _).mpr ?_) | refine ACall.of_pure (by assumption) (by rfl) ?_ | ((with_reducible show Exists _); refine ⟨_, ACall.of_pure (by assumption) (by rfl) ⟨rfl, rfl⟩, ?_⟩) | ((with_reducible show _ ∧ _ ∧ _); refine ⟨by omega, by omega, ?_⟩) | fail) <;> conv => whnf))
    refine aDr [0, 1] q4 rfl rfl rfl rfl ?_
    (conv => whnf); (repeat' ((first | (with_reducible first | refine Box.mk ?_ | refine And.intro (fun _ => ?_) (fun _ => ?_) | refine (forceH_eq _ _).mpr ?_) | refine ACall.of_pure (by assumption) (by rfl) ?_ | ((with_reducible show Exists _); refine ⟨_, ACall.of_pure (by assumption) (by rfl) ⟨rfl, rfl⟩, ?_⟩) | ((with_reducible show _ ∧ _ ∧ _); refine ⟨by omega, by omega, ?_⟩) | fail) <;> conv => whnf))
    exact weak_ren_to [(0, true), (1, true)] rfl rfl rfl ⟨rfl, trivial⟩
def coH (s : Sp) (l : Ml) (k a b : Nat) (R : List Px) : Hp := MH s l ++ [.box 122 (crt k a b R)]
theorem out_ok (s : Sp) (l : Ml) (hI : MI s l) (k a b : Nat) (ha : 1 ≤ a) (hb : 1 ≤ b) (ha2 : a ≤ 1048576) (hb2 : b ≤ 1048576) (R : List Px) (hR : ∀ q ∈ R, POk q) (hl : R.length ≤ 1000000000000) (p : Px) (hp : POk p) :
    DCall P 94 [pxv p, .ptr 2 0] (coH s l k a b R) (.bool (!decide (p ∈ R) && heavyN a b (restR s l R p) (totM l))) (coH s l k a b R) := by
  have q1 := pcontains_ok R p (by omega)
  have q2 := rest_ok s l hI R p hp hR hl
  have q3 := total_ok s l
  have ht := hI.tot
  have hrl := rest_le s l R p
  have q4 := heavy_ok a b (restR s l R p) (totM l) ha hb ha2 hb2 (by show _ < 18446744073709551616; omega) (by show _ < 18446744073709551616; omega)
  generalize restR s l R p = rr at *
  generalize heavyN a b rr (totM l) = hv at *
  generalize decide (p ∈ R) = c at *
  refine DCall.of_awp tok mixed fn94 (Nat.le_of_ble_eq_true rfl) ?_
  cases c
  · (conv => whnf); (repeat' ((first | (with_reducible first | refine Box.mk ?_ | refine And.intro (fun _ => ?_) (fun _ => ?_) | refine (forceH_eq _ _).mpr ?_) | refine ACall.of_pure (by assumption) (by rfl) ?_ | ((with_reducible show Exists _); refine ⟨_, ACall.of_pure (by assumption) (by rfl) ⟨rfl, rfl⟩, ?_⟩) | ((with_reducible show _ ∧ _ ∧ _); refine ⟨by omega, by omega, ?_⟩) | fail) <;> conv => whnf))
    refine ⟨[], by kernel_rfl, ?_⟩
    (conv => whnf); (repeat' ((first | (with_reducible first | refine Box.mk ?_ | refine And.intro (fun _ => ?_) (fun _ => ?_) | refine (forceH_eq _ _).mpr ?_) | refine ACall.of_pure (by assumption) (by rfl) ?_ | ((with_reducible show Exists _); refine ⟨_, ACall.of_pure (by assumption) (by rfl) ⟨rfl, rfl⟩, ?_⟩) | ((with_reducible show _ ∧ _ ∧ _); refine ⟨by omega, by omega, ?_⟩) | fail) <;> conv => whnf))
    refine aDr [0, 1] q2 rfl rfl rfl rfl ?_
    (conv => whnf); (repeat' ((first | (with_reducible first | refine Box.mk ?_ | refine And.intro (fun _ => ?_) (fun _ => ?_) | refine (forceH_eq _ _).mpr ?_) | refine ACall.of_pure (by assumption) (by rfl) ?_ | ((with_reducible show Exists _); refine ⟨_, ACall.of_pure (by assumption) (by rfl) ⟨rfl, rfl⟩, ?_⟩) | ((with_reducible show _ ∧ _ ∧ _); refine ⟨by omega, by omega, ?_⟩) | fail) <;> conv => whnf))
    refine aDr [0, 1] q3 rfl rfl rfl rfl ?_
    (conv => whnf); (repeat' ((first | (with_reducible first | refine Box.mk ?_ | refine And.intro (fun _ => ?_) (fun _ => ?_) | refine (forceH_eq _ _).mpr ?_) | refine ACall.of_pure (by assumption) (by rfl) ?_ | ((with_reducible show Exists _); refine ⟨_, ACall.of_pure (by assumption) (by rfl) ⟨rfl, rfl⟩, ?_⟩) | ((with_reducible show _ ∧ _ ∧ _); refine ⟨by omega, by omega, ?_⟩) | fail) <;> conv => whnf))
    exact weak_ren_to [(0, true), (1, true), (2, true)] rfl rfl rfl ⟨by cases hv <;> rfl, trivial⟩
  · (conv => whnf); (repeat' ((first | (with_reducible first | refine Box.mk ?_ | refine And.intro (fun _ => ?_) (fun _ => ?_) | refine (forceH_eq _ _).mpr ?_) | refine ACall.of_pure (by assumption) (by rfl) ?_ | ((with_reducible show Exists _); refine ⟨_, ACall.of_pure (by assumption) (by rfl) ⟨rfl, rfl⟩, ?_⟩) | ((with_reducible show _ ∧ _ ∧ _); refine ⟨by omega, by omega, ?_⟩) | fail) <;> conv => whnf))
    exact weak_ren_to [(0, true), (1, true), (2, true)] rfl rfl rfl ⟨rfl, trivial⟩
/-- Nothing heavy is left out. -/
def coversB (s : Sp) (l : Ml) (a b : Nat) (R : List Px) : Bool := decide (totM l = 0) || !((ovM s l).any fun p => !decide (p ∈ R) && heavyN a b (restR s l R p) (totM l))
theorem covers_ok (s : Sp) (l : Ml) (hI : MI s l) (k a b : Nat) (ha : 1 ≤ a) (hb : 1 ≤ b) (ha2 : a ≤ 1048576) (hb2 : b ≤ 1048576) (R : List Px) (hR : ∀ q ∈ R, POk q) (hl : R.length ≤ 1000000000000) :
    DCall P 63 [.agg (crt k a b R)] (MH s l) (.bool (coversB s l a b R)) (MH s l) := by
  have q1 := total_ok s l
  have q2 := mOver_ok s l hI
  have q3 := pconFn_ok (q := fun p => !decide (p ∈ R) && heavyN a b (restR s l R p) (totM l)) (ovM s l) (fun p hp => out_ok s l hI k a b ha hb ha2 hb2 R hR hl p (ovM_ok hI.ok p hp)) (by have := ovM_len s l; have := hI.len; omega)
  unfold coversB
  generalize hc : ((ovM s l).any fun p => !decide (p ∈ R) && heavyN a b (restR s l R p) (totM l)) = c at *
  by_cases h0 : totM l = 0
  · rw [decide_eq_true h0, Bool.true_or]
    refine DCall.of_awp tok mixed fn63 (Nat.le_of_ble_eq_true rfl) ?_
    (conv => whnf); (repeat' ((first | (with_reducible first | refine Box.mk ?_ | refine And.intro (fun _ => ?_) (fun _ => ?_) | refine (forceH_eq _ _).mpr ?_) | refine ACall.of_pure (by assumption) (by rfl) ?_ | ((with_reducible show Exists _); refine ⟨_, ACall.of_pure (by assumption) (by rfl) ⟨rfl, rfl⟩, ?_⟩) | ((with_reducible show _ ∧ _ ∧ _); refine ⟨by omega, by omega, ?_⟩) | fail) <;> conv => whnf))
    refine aW [0, 1] q1 rfl rfl rfl ?_
    (conv => whnf); (repeat' ((first | (with_reducible first | refine Box.mk ?_ | refine And.intro (fun _ => ?_) (fun _ => ?_) | refine (forceH_eq _ _).mpr ?_) | refine ACall.of_pure (by assumption) (by rfl) ?_ | ((with_reducible show Exists _); refine ⟨_, ACall.of_pure (by assumption) (by rfl) ⟨rfl, rfl⟩, ?_⟩) | ((with_reducible show _ ∧ _ ∧ _); refine ⟨by omega, by omega, ?_⟩) | fail) <;> conv => whnf))
    · exact weak_ren_to [(0, true), (1, true)] rfl rfl rfl ⟨rfl, trivial⟩
    · rename_i h; exfalso; have h : ¬ ((totM l : Nat) : Int) = 0 := h; omega
  · rw [decide_eq_false h0, Bool.false_or]
    refine DCall.of_awp tok mixed fn63 (Nat.le_of_ble_eq_true rfl) ?_
    (conv => whnf); (repeat' ((first | (with_reducible first | refine Box.mk ?_ | refine And.intro (fun _ => ?_) (fun _ => ?_) | refine (forceH_eq _ _).mpr ?_) | refine ACall.of_pure (by assumption) (by rfl) ?_ | ((with_reducible show Exists _); refine ⟨_, ACall.of_pure (by assumption) (by rfl) ⟨rfl, rfl⟩, ?_⟩) | ((with_reducible show _ ∧ _ ∧ _); refine ⟨by omega, by omega, ?_⟩) | fail) <;> conv => whnf))
    refine aW [0, 1] q1 rfl rfl rfl ?_
    (conv => whnf); (repeat' ((first | (with_reducible first | refine Box.mk ?_ | refine And.intro (fun _ => ?_) (fun _ => ?_) | refine (forceH_eq _ _).mpr ?_) | refine ACall.of_pure (by assumption) (by rfl) ?_ | ((with_reducible show Exists _); refine ⟨_, ACall.of_pure (by assumption) (by rfl) ⟨rfl, rfl⟩, ?_⟩) | ((with_reducible show _ ∧ _ ∧ _); refine ⟨by omega, by omega, ?_⟩) | fail) <;> conv => whnf))
    · rename_i h; exfalso; have h : ((totM l : Nat) : Int) = 0 := h; omega
    refine aW [0, 1] q2 rfl rfl rfl ?_
    (conv => whnf); (repeat' ((first | (with_reducible first | refine Box.mk ?_ | refine And.intro (fun _ => ?_) (fun _ => ?_) | refine (forceH_eq _ _).mpr ?_) | refine ACall.of_pure (by assumption) (by rfl) ?_ | ((with_reducible show Exists _); refine ⟨_, ACall.of_pure (by assumption) (by rfl) ⟨rfl, rfl⟩, ?_⟩) | ((with_reducible show _ ∧ _ ∧ _); refine ⟨by omega, by omega, ?_⟩) | fail) <;> conv => whnf))
    refine aW [0, 1, 2] q3 rfl rfl rfl ?_
    (conv => whnf); (repeat' ((first | (with_reducible first | refine Box.mk ?_ | refine And.intro (fun _ => ?_) (fun _ => ?_) | refine (forceH_eq _ _).mpr ?_) | refine ACall.of_pure (by assumption) (by rfl) ?_ | ((with_reducible show Exists _); refine ⟨_, ACall.of_pure (by assumption) (by rfl) ⟨rfl, rfl⟩, ?_⟩) | ((with_reducible show _ ∧ _ ∧ _); refine ⟨by omega, by omega, ?_⟩) | fail) <;> conv => whnf))
    exact weak_ren_to [(0, true), (1, true)] rfl rfl rfl ⟨rfl, trivial⟩
theorem prefixes_ok (ls : List Ln) (hl : ls.length ≤ 1000000000000) : PCall P 35 [.sl (lnl ls)] (.sl (pcl (ls.map Ln.p))) := by
  have hlc := lnl_len ls
  refine PCall.of_awp tok mixed fn35 (Nat.le_of_ble_eq_true rfl) ?_
  (conv => whnf); (repeat' ((first | (with_reducible first | refine Box.mk ?_ | refine And.intro (fun _ => ?_) (fun _ => ?_) | refine (forceH_eq _ _).mpr ?_) | refine ACall.of_pure (by assumption) (by rfl) ?_ | ((with_reducible show Exists _); refine ⟨_, ACall.of_pure (by assumption) (by rfl) ⟨rfl, rfl⟩, ?_⟩) | ((with_reducible show _ ∧ _ ∧ _); refine ⟨by omega, by omega, ?_⟩) | fail) <;> conv => whnf))
  refine aloop (fun i : Nat => i ≤ ls.length) (fun i => ⟨envL [(3, .own 0), (6, .sl (lnl ls)), (7, .int .i64 ((lnl ls).length : Int)), (8, .int .i64 (i : Int))], [] ++ [Ob.row 34 12 (pcl ((ls.take i).map Ln.p))]⟩) (fun i => ls.length - i) 0 (Nat.zero_le _) ?_ ?_
  · exact weak_nl [] (l1 := [(3, .nils), (6, .sl (lnl ls)), (7, .int .i64 ((lnl ls).length : Int)), (8, .int .i64 0)]) (H1 := []) 34 12 (by decide) rfl rfl rfl ⟨rfl, rfl, rfl, rfl, trivial⟩ ⟨.inr ⟨rfl, rfl⟩, .inl rfl, .inl rfl, .inl rfl, trivial⟩ trivial
  intro i hi
  have htl : (pcl ((ls.take i).map Ln.p)).length = i := by rw [pcl_len, List.length_map, List.length_take]; omega
  (conv => whnf); (repeat' ((first | (with_reducible first | refine Box.mk ?_ | refine And.intro (fun _ => ?_) (fun _ => ?_) | refine (forceH_eq _ _).mpr ?_) | refine ACall.of_pure (by assumption) (by rfl) ?_ | ((with_reducible show Exists _); refine ⟨_, ACall.of_pure (by assumption) (by rfl) ⟨rfl, rfl⟩, ?_⟩) | ((with_reducible show _ ∧ _ ∧ _); refine ⟨by omega, by omega, ?_⟩) | fail) <;> conv => whnf))
  · rename_i hlt
    have hlt : i < ls.length := by omega
    have hx := List.getElem?_eq_getElem hlt
    have hst : pcl ((ls.take (i + 1)).map Ln.p) = pcl ((ls.take i).map Ln.p) ++ [pcs ls[i].p] := by
      rw [List.take_add_one, hx, List.map_append, pcl_snoc]; rfl
    generalize ls[i] = x at *
    refine ⟨by omega, lns x, by rw [Int.toNat_natCast, lnl_get, hx]; rfl, rfl, ?_⟩
    (conv => whnf); (repeat' ((first | (with_reducible first | refine Box.mk ?_ | refine And.intro (fun _ => ?_) (fun _ => ?_) | refine (forceH_eq _ _).mpr ?_) | refine ACall.of_pure (by assumption) (by rfl) ?_ | ((with_reducible show Exists _); refine ⟨_, ACall.of_pure (by assumption) (by rfl) ⟨rfl, rfl⟩, ?_⟩) | ((with_reducible show _ ∧ _ ∧ _); refine ⟨by omega, by omega, ?_⟩) | fail) <;> conv => whnf))
    refine ⟨fun c hc => by rw [List.mem_singleton.1 hc]; exact ⟨rfl, rfl⟩, by rw [htl]; show (_ + 1) * 112 ≤ _; omega, by rw [htl]; show _ + 1 ≤ _; omega, ?_⟩
    (conv => whnf); (repeat' ((first | (with_reducible first | refine Box.mk ?_ | refine And.intro (fun _ => ?_) (fun _ => ?_) | refine (forceH_eq _ _).mpr ?_) | refine ACall.of_pure (by assumption) (by rfl) ?_ | ((with_reducible show Exists _); refine ⟨_, ACall.of_pure (by assumption) (by rfl) ⟨rfl, rfl⟩, ?_⟩) | ((with_reducible show _ ∧ _ ∧ _); refine ⟨by omega, by omega, ?_⟩) | fail) <;> conv => whnf))
    refine ⟨i + 1, hlt, by omega, weak_ren_to [(3, true)] rfl rfl ?_ ⟨rfl, rfl, rfl, wrap_nat (m := 1) (by omega), trivial⟩⟩
    rw [hst]; rfl
  · have : i = ls.length := by omega
    subst this
    rw [List.take_length]; rfl
end Go.Proofs.YtgaohmfmomeflaaGreatDoor
end

section
/- exact: the judge. -/
namespace Go.Proofs.YtgaohmfmomeflaaGreatDoor
open Go.Ve

def vz : List AV := [.bool false, .bool false, .bool false, .bool false]
theorem judge_bad (s : Sp) (l : Ml) (hs : soundS s = true) (k a b : Int) (h : rightR k a b = false) (v : AV) :
    DCall P 33 [.ptr 0 0, .int .i64 k, .int .i64 a, .int .i64 b, v] (MH s l) (.tup [.agg vz, .int .i64 1]) (MH s l) := by
  have q1 := emade_ok s l hs
  have q2 := rright_ok k a b
  rw [h] at q2
  refine DCall.of_awp tok mixed fn33 (Nat.le_of_ble_eq_true rfl) ?_
  (conv => whnf); (repeat' ((first | (with_reducible first | refine Box.mk ?_ | refine And.intro (fun _ => ?_) (fun _ => ?_) | refine (forceH_eq _ _).mpr ?_) | refine ACall.of_pure (by assumption) (by rfl) ?_ | ((with_reducible show Exists _); refine ⟨_, ACall.of_pure (by assumption) (by rfl) ⟨rfl, rfl⟩, ?_⟩) | ((with_reducible show _ ∧ _ ∧ _); refine ⟨by omega, by omega, ?_⟩) | fail) <;> conv => whnf))
  refine aW [0, 1] q1 rfl rfl rfl ?_
  (conv => whnf); (repeat' ((first | (with_reducible first | refine Box.mk ?_ | refine And.intro (fun _ => ?_) (fun _ => ?_) | refine (forceH_eq _ _).mpr ?_) | refine ACall.of_pure (by assumption) (by rfl) ?_ | ((with_reducible show Exists _); refine ⟨_, ACall.of_pure (by assumption) (by rfl) ⟨rfl, rfl⟩, ?_⟩) | ((with_reducible show _ ∧ _ ∧ _); refine ⟨by omega, by omega, ?_⟩) | fail) <;> conv => whnf))
  exact weak_ren_to [(0, true), (1, true)] rfl rfl rfl ⟨rfl, trivial⟩
def soundB (s : Sp) (l : Ml) (k a b : Nat) (x : Ln) : Bool := enoughB k a b (totM l) (wgt s l x.p) 1
def nearB (s : Sp) (l : Ml) (k a b : Nat) (R : List Px) (x : Ln) : Bool := decide (s.n = 2) || enoughB k a b (totM l) (restR s l R x.p) (1 + (greatL s R x.p).length)
theorem judge_ok (s : Sp) (l : Ml) (hI : MI s l) (k a b : Nat) (hr : rightR k a b = true) (ls : List Ln) (hls : ∀ x ∈ ls, POk x.p) (hl : ls.length ≤ 4294967295) :
    DCall P 33 [.ptr 0 0, .int .i64 (k : Int), .int .i64 (a : Int), .int .i64 (b : Int), .sl (lnl ls)] (MH s l)
      (.tup [.agg [.bool (coversB s l a b (ls.map Ln.p)), .bool (ls.all (boundsB s l (ls.map Ln.p))), .bool (ls.all (soundB s l k a b)), .bool (ls.all (nearB s l k a b (ls.map Ln.p)))], .int .i64 0]) (MH s l) := by
  have hr0 := hr
  have hr := of_decide_eq_true hr
  have hR : ∀ q ∈ ls.map Ln.p, POk q := fun q hq => by
    obtain ⟨x, hx, rfl⟩ := List.mem_map.1 hq
    exact hls x hx
  have hRl : (ls.map Ln.p).length = ls.length := List.length_map _
  have q1 := emade_ok s l hI.sound
  have q2 := rright_ok k a b
  rw [hr0] at q2
  have q3 := covers_ok s l hI k a b (by omega) (by omega) (by omega) (by omega) (ls.map Ln.p) hR (by omega)
  have q4 := all_ok s l 65 k a b (ls.map Ln.p) ls (boundsB s l (ls.map Ln.p)) (fun x hx => bounds_ok s l hI k a b (ls.map Ln.p) hR (by omega) x (hls x hx)) (by omega)
  have q5 := all_ok s l 66 k a b (ls.map Ln.p) ls (soundB s l k a b) (fun x hx => sound_okL s l hI k a b (by omega) (by omega) (by omega) (ls.map Ln.p) x (hls x hx)) (by omega)
  have q6 := all_ok s l 67 k a b (ls.map Ln.p) ls (nearB s l k a b (ls.map Ln.p)) (fun x hx => near_ok s l hI k a b (by omega) (by omega) (by omega) (ls.map Ln.p) hR (by omega) x (hls x hx)) (by omega)
  generalize coversB s l a b (ls.map Ln.p) = c1 at *
  generalize ls.all (boundsB s l (ls.map Ln.p)) = c2 at *
  generalize ls.all (soundB s l k a b) = c3 at *
  generalize ls.all (nearB s l k a b (ls.map Ln.p)) = c4 at *
  have hlc := lnl_len ls
  refine DCall.of_awp tok mixed fn33 (Nat.le_of_ble_eq_true rfl) ?_
  (conv => whnf); (repeat' ((first | (with_reducible first | refine Box.mk ?_ | refine And.intro (fun _ => ?_) (fun _ => ?_) | refine (forceH_eq _ _).mpr ?_) | refine ACall.of_pure (by assumption) (by rfl) ?_ | ((with_reducible show Exists _); refine ⟨_, ACall.of_pure (by assumption) (by rfl) ⟨rfl, rfl⟩, ?_⟩) | ((with_reducible show _ ∧ _ ∧ _); refine ⟨by omega, by omega, ?_⟩) | fail) <;> conv => whnf))
  refine aW [0, 1] q1 rfl rfl rfl ?_
  (conv => whnf); (repeat' ((first | (with_reducible first | refine Box.mk ?_ | refine And.intro (fun _ => ?_) (fun _ => ?_) | refine (forceH_eq _ _).mpr ?_) | refine ACall.of_pure (by assumption) (by rfl) ?_ | ((with_reducible show Exists _); refine ⟨_, ACall.of_pure (by assumption) (by rfl) ⟨rfl, rfl⟩, ?_⟩) | ((with_reducible show _ ∧ _ ∧ _); refine ⟨by omega, by omega, ?_⟩) | fail) <;> conv => whnf))
  refine aloop (fun x : Option Nat => match x with | some i => i < ls.length | none => True)
    (fun x => match x with
      | some i => ⟨envL [(4, .sl (lnl ls)), (10, .ptr 2 0), (12, .ptr 3 0), (33, .sl (lnl ls)), (34, .int .i64 ((lnl ls).length : Int)), (35, .int .i64 (i : Int))], MH s l ++ [.box 80 vz, .box 122 [.ptr 0 0, .int .i64 (k : Int), .int .i64 (a : Int), .int .i64 (b : Int), .own 4]] ++ [Ob.row 34 12 (pcl ((ls.take i).map Ln.p))]⟩
      | none => ⟨envL [(4, .sl (lnl ls)), (10, .ptr 2 0), (12, .ptr 3 0), (33, .sl (lnl ls)), (34, .int .i64 ((lnl ls).length : Int)), (35, .int .i64 (ls.length : Int))], MH s l ++ [.box 80 vz, .box 122 (crt k a b (ls.map Ln.p))]⟩)
    (fun x => match x with | some i => ls.length - i | none => 0) (if 0 < ls.length then some 0 else none) ?_ ?_ ?_
  · by_cases h : 0 < ls.length
    · rw [if_pos h]; exact h
    · rw [if_neg h]; trivial
  · by_cases h : 0 < ls.length
    · rw [if_pos h]
      dsimp only
      show Weak _ _ ⟨envL [(4, .sl (lnl ls)), (10, .ptr 2 0), (12, .ptr 3 0), (33, .sl (lnl ls)), (34, .int .i64 ((lnl ls).length : Int)), (35, .int .i64 0)], (MH s l ++ [.box 80 vz, .box 122 [.ptr 0 0, .int .i64 (k : Int), .int .i64 (a : Int), .int .i64 (b : Int), .own 4]]) ++ [Ob.row 34 12 []]⟩
      exact weak_nilrow 34 12 (by decide) ⟨.inl rfl, .inl rfl, .inl rfl, .inl rfl, .inl rfl, .inl rfl, trivial⟩ ⟨.inl rfl, .inl rfl, .inl rfl, .inr ⟨rfl, .inl rfl, .inl rfl, .inl rfl, .inl rfl, .inr ⟨rfl, rfl⟩, trivial⟩, trivial⟩
    · rw [if_neg h]
      dsimp only
      have h0 : ls = [] := by
        cases ls with
        | nil => rfl
        | cons x r => exact absurd (Nat.succ_pos _) h
      subst h0
      exact weak_nils rfl ⟨rfl, rfl, rfl, rfl, rfl, rfl, trivial⟩
  intro x hx
  cases x with
  | some i =>
    have hlt : i < ls.length := hx
    have hg := List.getElem?_eq_getElem hlt
    have hst : pcl ((ls.take (i + 1)).map Ln.p) = pcl ((ls.take i).map Ln.p) ++ [pcs ls[i].p] := by
      rw [List.take_add_one, hg, List.map_append, pcl_snoc]; rfl
    have htl : (pcl ((ls.take i).map Ln.p)).length = i := by rw [pcl_len, List.length_map, List.length_take]; omega
    generalize ls[i] = y at *
    (conv => whnf); (repeat' ((first | (with_reducible first | refine Box.mk ?_ | refine And.intro (fun _ => ?_) (fun _ => ?_) | refine (forceH_eq _ _).mpr ?_) | refine ACall.of_pure (by assumption) (by rfl) ?_ | ((with_reducible show Exists _); refine ⟨_, ACall.of_pure (by assumption) (by rfl) ⟨rfl, rfl⟩, ?_⟩) | ((with_reducible show _ ∧ _ ∧ _); refine ⟨by omega, by omega, ?_⟩) | fail) <;> conv => whnf))
    rotate_left
    · exfalso; rename_i h; have h : ¬ (i : Int) < ((lnl ls).length : Int) := h; omega
    refine ⟨by omega, lns y, by rw [Int.toNat_natCast, lnl_get, hg]; rfl, rfl, ?_⟩
    (conv => whnf); (repeat' ((first | (with_reducible first | refine Box.mk ?_ | refine And.intro (fun _ => ?_) (fun _ => ?_) | refine (forceH_eq _ _).mpr ?_) | refine ACall.of_pure (by assumption) (by rfl) ?_ | ((with_reducible show Exists _); refine ⟨_, ACall.of_pure (by assumption) (by rfl) ⟨rfl, rfl⟩, ?_⟩) | ((with_reducible show _ ∧ _ ∧ _); refine ⟨by omega, by omega, ?_⟩) | fail) <;> conv => whnf))
    refine ⟨fun c hc => by rw [List.mem_singleton.1 hc]; exact ⟨rfl, rfl⟩, by rw [htl]; show (_ + 1) * 112 ≤ _; omega, by rw [htl]; show _ + 1 ≤ _; omega, ?_⟩
    (conv => whnf); (repeat' ((first | (with_reducible first | refine Box.mk ?_ | refine And.intro (fun _ => ?_) (fun _ => ?_) | refine (forceH_eq _ _).mpr ?_) | refine ACall.of_pure (by assumption) (by rfl) ?_ | ((with_reducible show Exists _); refine ⟨_, ACall.of_pure (by assumption) (by rfl) ⟨rfl, rfl⟩, ?_⟩) | ((with_reducible show _ ∧ _ ∧ _); refine ⟨by omega, by omega, ?_⟩) | fail) <;> conv => whnf))
    by_cases hlt2 : i + 1 < ls.length
    · refine ⟨some (i + 1), hlt2, by show ls.length - (i + 1) < ls.length - i; omega, weak_ren_to [(0, true), (1, true), (2, true), (3, true), (7, true)] rfl rfl ?_ ⟨rfl, rfl, rfl, rfl, rfl, wrap_nat (m := 1) (by omega), trivial⟩⟩
      rw [hst]; rfl
    · have he : i + 1 = ls.length := by omega
      have hst2 : pcl (ls.map Ln.p) = pcl ((ls.take i).map Ln.p) ++ [pcs y.p] := by
        rw [← hst, he, List.take_length]
      refine ⟨none, trivial, by show 0 < ls.length - i; omega, ?_⟩
      refine Weak.trans (weak_ren_to (l := [(4, .sl (lnl ls)), (10, .ptr 2 0), (12, .ptr 3 0), (33, .sl (lnl ls)), (34, .int .i64 ((lnl ls).length : Int)), (35, .int .i64 (ls.length : Int))]) (H' := MH s l ++ [.box 80 vz, .box 122 [.ptr 0 0, .int .i64 (k : Int), .int .i64 (a : Int), .int .i64 (b : Int), .own 4]] ++ [Ob.row 34 12 (pcl (ls.map Ln.p))]) [(0, true), (1, true), (2, true), (3, true), (7, true)] rfl rfl ?_ ⟨rfl, rfl, rfl, rfl, rfl, ?_, trivial⟩) ?_
      · rw [hst2]; rfl
      · show AV.int .i64 (IntKind.i64.wrap ((i : Int) + 1)) = _
        rw [wrap_i64 (by omega) (by omega), ← he]; rfl
      · refine Weak.trans (weak_const 4 (H1 := MH s l ++ [.box 80 vz, .box 122 (crt k a b (ls.map Ln.p))] ++ [.frz (pcl (ls.map Ln.p))]) (l := [(4, .sl (lnl ls)), (10, .ptr 2 0), (12, .ptr 3 0), (33, .sl (lnl ls)), (34, .int .i64 ((lnl ls).length : Int)), (35, .int .i64 (ls.length : Int))]) rfl rfl ⟨rfl, rfl, rfl, rfl, rfl, rfl, trivial⟩) ?_
        exact weak_ren_to [(0, true), (1, true), (2, true), (3, true)] rfl rfl rfl ⟨rfl, rfl, rfl, rfl, rfl, rfl, trivial⟩
  | none =>
    (conv => whnf); (repeat' ((first | (with_reducible first | refine Box.mk ?_ | refine And.intro (fun _ => ?_) (fun _ => ?_) | refine (forceH_eq _ _).mpr ?_) | refine ACall.of_pure (by assumption) (by rfl) ?_ | ((with_reducible show Exists _); refine ⟨_, ACall.of_pure (by assumption) (by rfl) ⟨rfl, rfl⟩, ?_⟩) | ((with_reducible show _ ∧ _ ∧ _); refine ⟨by omega, by omega, ?_⟩) | fail) <;> conv => whnf))
    · exfalso; rename_i h; have h : (ls.length : Int) < ((lnl ls).length : Int) := h; omega
    refine ⟨[(7, [0, 1, 3, 5])], by kernel_rfl, ?_⟩
    (conv => whnf); (repeat' ((first | (with_reducible first | refine Box.mk ?_ | refine And.intro (fun _ => ?_) (fun _ => ?_) | refine (forceH_eq _ _).mpr ?_) | refine ACall.of_pure (by assumption) (by rfl) ?_ | ((with_reducible show Exists _); refine ⟨_, ACall.of_pure (by assumption) (by rfl) ⟨rfl, rfl⟩, ?_⟩) | ((with_reducible show _ ∧ _ ∧ _); refine ⟨by omega, by omega, ?_⟩) | fail) <;> conv => whnf))
    refine aDr [0, 1] q3 rfl rfl rfl rfl ?_
    (conv => whnf); (repeat' ((first | (with_reducible first | refine Box.mk ?_ | refine And.intro (fun _ => ?_) (fun _ => ?_) | refine (forceH_eq _ _).mpr ?_) | refine ACall.of_pure (by assumption) (by rfl) ?_ | ((with_reducible show Exists _); refine ⟨_, ACall.of_pure (by assumption) (by rfl) ⟨rfl, rfl⟩, ?_⟩) | ((with_reducible show _ ∧ _ ∧ _); refine ⟨by omega, by omega, ?_⟩) | fail) <;> conv => whnf))
    refine aDr [0, 1] q4 rfl rfl rfl rfl ?_
    (conv => whnf); (repeat' ((first | (with_reducible first | refine Box.mk ?_ | refine And.intro (fun _ => ?_) (fun _ => ?_) | refine (forceH_eq _ _).mpr ?_) | refine ACall.of_pure (by assumption) (by rfl) ?_ | ((with_reducible show Exists _); refine ⟨_, ACall.of_pure (by assumption) (by rfl) ⟨rfl, rfl⟩, ?_⟩) | ((with_reducible show _ ∧ _ ∧ _); refine ⟨by omega, by omega, ?_⟩) | fail) <;> conv => whnf))
    refine And.intro ?_ ?_
    · conv => whnf
      refine And.intro ?_ ?_
      · conv => whnf
        exact ⟨rfl, rfl⟩
      conv => whnf
      refine And.intro ?_ ?_
      · conv => whnf
        exact aW [0, 1] q3 rfl rfl rfl ⟨rfl, rfl⟩
      conv => whnf
      refine And.intro ?_ ?_
      · conv => whnf
        exact ⟨rfl, rfl⟩
      conv => whnf
      refine And.intro ?_ ?_
      · conv => whnf
        exact aW [0, 1] q4 rfl rfl rfl ⟨rfl, rfl⟩
      trivial
    (conv => whnf); (repeat' ((first | (with_reducible first | refine Box.mk ?_ | refine And.intro (fun _ => ?_) (fun _ => ?_) | refine (forceH_eq _ _).mpr ?_) | refine ACall.of_pure (by assumption) (by rfl) ?_ | ((with_reducible show Exists _); refine ⟨_, ACall.of_pure (by assumption) (by rfl) ⟨rfl, rfl⟩, ?_⟩) | ((with_reducible show _ ∧ _ ∧ _); refine ⟨by omega, by omega, ?_⟩) | fail) <;> conv => whnf))
    refine aW [0, 1] q5 rfl rfl rfl ?_
    (conv => whnf); (repeat' ((first | (with_reducible first | refine Box.mk ?_ | refine And.intro (fun _ => ?_) (fun _ => ?_) | refine (forceH_eq _ _).mpr ?_) | refine ACall.of_pure (by assumption) (by rfl) ?_ | ((with_reducible show Exists _); refine ⟨_, ACall.of_pure (by assumption) (by rfl) ⟨rfl, rfl⟩, ?_⟩) | ((with_reducible show _ ∧ _ ∧ _); refine ⟨by omega, by omega, ?_⟩) | fail) <;> conv => whnf))
    refine aW [0, 1] q6 rfl rfl rfl ?_
    (conv => whnf); (repeat' ((first | (with_reducible first | refine Box.mk ?_ | refine And.intro (fun _ => ?_) (fun _ => ?_) | refine (forceH_eq _ _).mpr ?_) | refine ACall.of_pure (by assumption) (by rfl) ?_ | ((with_reducible show Exists _); refine ⟨_, ACall.of_pure (by assumption) (by rfl) ⟨rfl, rfl⟩, ?_⟩) | ((with_reducible show _ ∧ _ ∧ _); refine ⟨by omega, by omega, ?_⟩) | fail) <;> conv => whnf))
    exact weak_ren_to [(0, true), (1, true)] rfl rfl rfl ⟨rfl, trivial⟩
end Go.Proofs.YtgaohmfmomeflaaGreatDoor
end

section
/- prefix: what must come of fixed calls. -/
namespace Go.Proofs.YtgaohmfmomeflaaGreatDoor
open Go.Ve

end Go.Proofs.YtgaohmfmomeflaaGreatDoor
end

section
/- prefix: the outright statements' walks. -/
namespace Go.Proofs.YtgaohmfmomeflaaGreatDoor
open Go.Ve

end Go.Proofs.YtgaohmfmomeflaaGreatDoor
end

section
/- model, the laws: what must come of fixed calls. -/
namespace Go.Proofs.YtgaohmfmomeflaaGreatDoor
open Go.Ve

def sA : Sp := ⟨1, ⟨1, 1, 16⟩, zeroD⟩
def lfA (a : Nat) : Px := ⟨0, 0, ⟨1, 32, a * 2 ^ 96, []⟩, zeroK⟩
def pA : Px := lfA 167772161
def pB : Px := lfA 167772162
def mA : Px := ⟨1, 0, ⟨1, 16, 720575940379279360 * H64, []⟩, zeroK⟩
theorem lfA_ok {a : Nat} (h : a < 4294967296) : POk (lfA a) := ⟨by show a * 2 ^ 96 < 2 ^ 128; omega, by show (0 : Nat) < 2 ^ 128; decide, Nat.zero_le _, Nat.zero_le _⟩
def l1A : Ml := [(pA, 5)]
def l2A : Ml := [(pA, 5), (pB, 3)]
theorem sA_sound : soundS sA = true := by kernel_rfl
theorem mi1 : MI sA l1A := (MI.nil sA_sound).put (p := pA) (w := 5) (lfA_ok (by decide)) (by decide) (by kernel_rfl)
theorem mi2 : MI sA l2A := mi1.put (p := pB) (w := 3) (lfA_ok (by decide)) (by decide) (by kernel_rfl)
theorem dEq {f : FuncId} {args : List AV} {H H0 H1 : Hp} {r r' : AV} (h : DCall P f args H r H0) (e : r = r') (e2 : H0 = H1) : DCall P f args H r' H1 := by subst e; subst e2; exact h
end Go.Proofs.YtgaohmfmomeflaaGreatDoor
end

section
/- model, the laws: two prefixes and their cross. -/
namespace Go.Proofs.YtgaohmfmomeflaaGreatDoor
open Go.Ve

end Go.Proofs.YtgaohmfmomeflaaGreatDoor
end

section
/- exact, the laws: the true report is what the judge asks for; what must come of fixed calls. -/
namespace Go.Proofs.YtgaohmfmomeflaaGreatDoor
open Go.Ve

theorem lines_p (s : Sp) (l : Ml) (R : List Px) : (linesOf s l R).map Ln.p = R := by
  unfold linesOf
  rw [List.map_map]
  exact List.map_id _
theorem trueP_sub {s : Sp} {l : Ml} {a b : Nat} {q : Px} (h : q ∈ trueP s l a b) : q ∈ ovM s l := hvs_sub h
theorem trueP_fix {s : Sp} {l : Ml} (hI : MI s l) {a b : Nat} : ∀ p ∈ ovM s l, (p ∈ trueP s l a b ↔ heavyN a b (restR s l (trueP s l a b) p) (totM l) = true) := hvs_fix (ov_pw hI)
theorem trueP_ok {s : Sp} {l : Ml} (hI : MI s l) {a b : Nat} : ∀ p ∈ trueP s l a b, POk p := fun p hp => ovM_ok hI.ok p (trueP_sub hp)
theorem trueP_len {s : Sp} {l : Ml} (hI : MI s l) {a b : Nat} : (trueP s l a b).length ≤ 2172715008 := Nat.le_trans (hvs_len _ _ _ _ _ _) (by have := ovM_len s l; have := hI.len; omega)
theorem lines_len (s : Sp) (l : Ml) (R : List Px) : (linesOf s l R).length = R.length := List.length_map _
theorem enough_heavy {k a b n w t : Nat} (h : heavyN a b w n = true) : enoughB k a b n w t = true := by
  have h := of_decide_eq_true h
  refine decide_eq_true ?_
  have : a * n * k ≤ b * w * k := Nat.mul_le_mul_right k h
  rw [Nat.mul_right_comm a n k, Nat.mul_right_comm b w k] at this
  omega
theorem fine_all {s : Sp} {l : Ml} (hI : MI s l) (k a b : Nat) : coversB s l a b (trueP s l a b) = true ∧ (linesOf s l (trueP s l a b)).all (boundsB s l (trueP s l a b)) = true ∧ (linesOf s l (trueP s l a b)).all (soundB s l k a b) = true ∧ (linesOf s l (trueP s l a b)).all (nearB s l k a b (trueP s l a b)) = true := by
  have hrw : ∀ R p, restR s l R p ≤ wgt s l p := fun R p => sumF_mono fun x _ h => by
    rw [Bool.and_eq_true] at h; exact h.1
  have hl : ∀ x ∈ linesOf s l (trueP s l a b), ∃ p ∈ trueP s l a b, x = lineOf s l (trueP s l a b) p := fun x hx => by
    obtain ⟨p, hp, rfl⟩ := List.mem_map.1 hx
    exact ⟨p, hp, rfl⟩
  have hv : ∀ p ∈ trueP s l a b, heavyN a b (restR s l (trueP s l a b) p) (totM l) = true := fun p hp => (trueP_fix hI p (trueP_sub hp)).1 hp
  refine ⟨?_, List.all_eq_true.2 fun x hx => ?_, List.all_eq_true.2 fun x hx => ?_, List.all_eq_true.2 fun x hx => ?_⟩
  · unfold coversB
    have : ((ovM s l).any fun p => !decide (p ∈ trueP s l a b) && heavyN a b (restR s l (trueP s l a b) p) (totM l)) = false := by
      rw [List.any_eq_false]
      intro p hp
      have := trueP_fix (a := a) (b := b) hI p hp
      by_cases hm : p ∈ trueP s l a b
      · rw [decide_eq_true hm]; exact fun h => by cases h
      · rw [decide_eq_false hm]
        intro h
        exact hm (this.2 h)
    rw [this]; exact Bool.or_true _
  · obtain ⟨p, hp, rfl⟩ := hl x hx
    unfold boundsB
    show (rightP s p && decide (wgt s l p ≤ wgt s l p ∧ wgt s l p ≤ wgt s l p ∧ restR s l (trueP s l a b) p ≤ wgt s l p) && decide (restR s l (trueP s l a b) p ≤ restR s l (trueP s l a b) p)) = true
    rw [ov_right hI (trueP_sub hp), decide_eq_true ⟨Nat.le_refl _, Nat.le_refl _, hrw _ _⟩, decide_eq_true (Nat.le_refl _)]; rfl
  · obtain ⟨p, hp, rfl⟩ := hl x hx
    refine enough_heavy ?_
    have := of_decide_eq_true (hv p hp)
    exact decide_eq_true (Nat.le_trans this (Nat.mul_le_mul_left b (hrw _ p)))
  · obtain ⟨p, hp, rfl⟩ := hl x hx
    unfold nearB
    rw [show enoughB k a b (totM l) (restR s l (trueP s l a b) (lineOf s l (trueP s l a b) p).p) (1 + (greatL s (trueP s l a b) (lineOf s l (trueP s l a b) p).p).length) = true from enough_heavy (hv p hp)]
    exact Bool.or_true _

/-! ### what must come of fixed calls -/
def pC : Px := lfA 184549377
def mC : Px := ⟨1, 0, ⟨1, 16, 792633534417207296 * H64, []⟩, zeroK⟩
def m3A : Ml := [(pA, 5), (pB, 3), (pC, 1)]
theorem mi3 : MI sA m3A := mi2.put (p := pC) (w := 1) (lfA_ok (by decide)) (by decide) (by kernel_rfl)
theorem xleaf1 : PCall P 68 [.int .u64 167772161] (pxv pA) := by
  refine PCall.of_awp tok mixed fn68 (Nat.le_of_ble_eq_true rfl) ?_
  (conv => whnf); (repeat' ((first | (with_reducible first | refine Box.mk ?_ | refine And.intro (fun _ => ?_) (fun _ => ?_) | refine (forceH_eq _ _).mpr ?_) | refine ACall.of_pure (by assumption) (by rfl) ?_ | ((with_reducible show Exists _); refine ⟨_, ACall.of_pure (by assumption) (by rfl) ⟨rfl, rfl⟩, ?_⟩) | ((with_reducible show ∃ L, drawR L _ = true ∧ _); refine ⟨[], by kernel_rfl, ?_⟩) | ((with_reducible show _ ∧ _ ∧ _); refine ⟨by omega, by omega, ?_⟩) | fail) <;> conv => whnf))
  refine ⟨by decide, ?_⟩
  (conv => whnf); (repeat' ((first | (with_reducible first | refine Box.mk ?_ | refine And.intro (fun _ => ?_) (fun _ => ?_) | refine (forceH_eq _ _).mpr ?_) | refine ACall.of_pure (by assumption) (by rfl) ?_ | ((with_reducible show Exists _); refine ⟨_, ACall.of_pure (by assumption) (by rfl) ⟨rfl, rfl⟩, ?_⟩) | ((with_reducible show ∃ L, drawR L _ = true ∧ _); refine ⟨[], by kernel_rfl, ?_⟩) | ((with_reducible show _ ∧ _ ∧ _); refine ⟨by omega, by omega, ?_⟩) | fail) <;> conv => whnf))
  rfl
theorem xleaf2 : PCall P 68 [.int .u64 167772162] (pxv pB) := by
  refine PCall.of_awp tok mixed fn68 (Nat.le_of_ble_eq_true rfl) ?_
  (conv => whnf); (repeat' ((first | (with_reducible first | refine Box.mk ?_ | refine And.intro (fun _ => ?_) (fun _ => ?_) | refine (forceH_eq _ _).mpr ?_) | refine ACall.of_pure (by assumption) (by rfl) ?_ | ((with_reducible show Exists _); refine ⟨_, ACall.of_pure (by assumption) (by rfl) ⟨rfl, rfl⟩, ?_⟩) | ((with_reducible show ∃ L, drawR L _ = true ∧ _); refine ⟨[], by kernel_rfl, ?_⟩) | ((with_reducible show _ ∧ _ ∧ _); refine ⟨by omega, by omega, ?_⟩) | fail) <;> conv => whnf))
  refine ⟨by decide, ?_⟩
  (conv => whnf); (repeat' ((first | (with_reducible first | refine Box.mk ?_ | refine And.intro (fun _ => ?_) (fun _ => ?_) | refine (forceH_eq _ _).mpr ?_) | refine ACall.of_pure (by assumption) (by rfl) ?_ | ((with_reducible show Exists _); refine ⟨_, ACall.of_pure (by assumption) (by rfl) ⟨rfl, rfl⟩, ?_⟩) | ((with_reducible show ∃ L, drawR L _ = true ∧ _); refine ⟨[], by kernel_rfl, ?_⟩) | ((with_reducible show _ ∧ _ ∧ _); refine ⟨by omega, by omega, ?_⟩) | fail) <;> conv => whnf))
  rfl
theorem xleaf3 : PCall P 68 [.int .u64 184549377] (pxv pC) := by
  refine PCall.of_awp tok mixed fn68 (Nat.le_of_ble_eq_true rfl) ?_
  (conv => whnf); (repeat' ((first | (with_reducible first | refine Box.mk ?_ | refine And.intro (fun _ => ?_) (fun _ => ?_) | refine (forceH_eq _ _).mpr ?_) | refine ACall.of_pure (by assumption) (by rfl) ?_ | ((with_reducible show Exists _); refine ⟨_, ACall.of_pure (by assumption) (by rfl) ⟨rfl, rfl⟩, ?_⟩) | ((with_reducible show ∃ L, drawR L _ = true ∧ _); refine ⟨[], by kernel_rfl, ?_⟩) | ((with_reducible show _ ∧ _ ∧ _); refine ⟨by omega, by omega, ?_⟩) | fail) <;> conv => whnf))
  refine ⟨by decide, ?_⟩
  (conv => whnf); (repeat' ((first | (with_reducible first | refine Box.mk ?_ | refine And.intro (fun _ => ?_) (fun _ => ?_) | refine (forceH_eq _ _).mpr ?_) | refine ACall.of_pure (by assumption) (by rfl) ?_ | ((with_reducible show Exists _); refine ⟨_, ACall.of_pure (by assumption) (by rfl) ⟨rfl, rfl⟩, ?_⟩) | ((with_reducible show ∃ L, drawR L _ = true ∧ _); refine ⟨[], by kernel_rfl, ?_⟩) | ((with_reducible show _ ∧ _ ∧ _); refine ⟨by omega, by omega, ?_⟩) | fail) <;> conv => whnf))
  rfl
theorem m3_over {q : Px} (h : q ∈ ovM sA m3A) : q = pA ∨ q = pB ∨ q = pC ∨ q = mA ∨ q = mC ∨ q = topP sA := by
  have hp : POk pA := lfA_ok (by decide)
  have hq : POk pB := lfA_ok (by decide)
  have hr : POk pC := lfA_ok (by decide)
  rw [ovM_mem mi3.ok mi3.nodup, sumF_pos] at h
  have a1 : allP sA pA = [pA, mA, topP sA] := by kernel_rfl
  have a2 : allP sA pB = [pB, mA, topP sA] := by kernel_rfl
  have a3 : allP sA pC = [pC, mC, topP sA] := by kernel_rfl
  have m1 := allP_mem (s := sA) (x := q) hp
  have m2 := allP_mem (s := sA) (x := q) hq
  have m3 := allP_mem (s := sA) (x := q) hr
  rw [a1] at m1
  rw [a2] at m2
  rw [a3] at m3
  simp only [List.mem_cons, List.not_mem_nil, or_false] at m1 m2 m3
  obtain ⟨x, hx, hx2, _⟩ := h
  rcases (show x = (pA, 5) ∨ x = (pB, 3) ∨ x = (pC, 1) by simpa [m3A] using hx) with rfl | rfl | rfl
  · rcases m1.2 hx2 with h | h | h
    · exact .inl h
    · exact .inr (.inr (.inr (.inl h)))
    · exact .inr (.inr (.inr (.inr (.inr h))))
  · rcases m2.2 hx2 with h | h | h
    · exact .inr (.inl h)
    · exact .inr (.inr (.inr (.inl h)))
    · exact .inr (.inr (.inr (.inr (.inr h))))
  · rcases m3.2 hx2 with h | h | h
    · exact .inr (.inr (.inl h))
    · exact .inr (.inr (.inr (.inr (.inl h))))
    · exact .inr (.inr (.inr (.inr (.inr h))))
theorem m3_in1 : pA ∈ ovM sA m3A := by rw [ovM_mem mi3.ok mi3.nodup]; exact Nat.lt_of_lt_of_le (by decide : 0 < 5) (Nat.le_of_eq (show 5 = wgt sA m3A pA by kernel_rfl))
theorem m3_in2 : pB ∈ ovM sA m3A := by rw [ovM_mem mi3.ok mi3.nodup]; exact Nat.lt_of_lt_of_le (by decide : 0 < 3) (Nat.le_of_eq (show 3 = wgt sA m3A pB by kernel_rfl))
theorem m3_fix : ∀ p ∈ ovM sA m3A, (p ∈ [pA, pB] ↔ heavyN 1 3 (restR sA m3A [pA, pB] p) 9 = true) := by
  intro p hp
  have n1 : pC ∉ [pA, pB] := by decide
  have n2 : mA ∉ [pA, pB] := by decide
  have n3 : mC ∉ [pA, pB] := by decide
  have n4 : topP sA ∉ [pA, pB] := by decide
  have h1 : heavyN 1 3 (restR sA m3A [pA, pB] pA) 9 = true := by kernel_rfl
  have h2 : heavyN 1 3 (restR sA m3A [pA, pB] pB) 9 = true := by kernel_rfl
  have h3 : heavyN 1 3 (restR sA m3A [pA, pB] pC) 9 = false := by kernel_rfl
  have h4 : heavyN 1 3 (restR sA m3A [pA, pB] mA) 9 = false := by kernel_rfl
  have h5 : heavyN 1 3 (restR sA m3A [pA, pB] mC) 9 = false := by kernel_rfl
  have h6 : heavyN 1 3 (restR sA m3A [pA, pB] (topP sA)) 9 = false := by kernel_rfl
  rcases m3_over hp with rfl | rfl | rfl | rfl | rfl | rfl
  · exact ⟨fun _ => h1, fun _ => .head _⟩
  · exact ⟨fun _ => h2, fun _ => .tail _ (.head _)⟩
  · rw [h3]; exact ⟨fun h => absurd h n1, fun h => by cases h⟩
  · rw [h4]; exact ⟨fun h => absurd h n2, fun h => by cases h⟩
  · rw [h5]; exact ⟨fun h => absurd h n3, fun h => by cases h⟩
  · rw [h6]; exact ⟨fun h => absurd h n4, fun h => by cases h⟩
theorem m3_true : trueP sA m3A 1 3 = [pA, pB] := by
  have ht : totM m3A = 9 := by kernel_rfl
  have hpw := ov_pw mi3
  have hsub : ∀ q ∈ [pA, pB], q ∈ ovM sA m3A := fun q hq => by
    rcases List.mem_cons.1 hq with rfl | hq
    · exact m3_in1
    · rw [List.mem_singleton.1 hq]; exact m3_in2
  have hfix := trueP_fix (a := 1) (b := 3) mi3
  refine Ord.ext to_hgtP (hvs_pw (ovM_ord sA m3A)) ?_ fun p => ?_
  · have h1 : hgtP pA pB = -1 := by kernel_rfl
    refine .cons (fun y hy => ?_) (List.pairwise_singleton _ _)
    rw [List.mem_singleton.1 hy, h1]; decide
  · have key : p ∈ ovM sA m3A → (p ∈ trueP sA m3A 1 3 ↔ p ∈ [pA, pB]) := fun hp => by
      obtain ⟨i, hi⟩ := List.getElem?_of_mem hp
      rw [ht] at hfix
      exact fix_unique hpw (fun q hq => trueP_sub hq) hsub hfix m3_fix (i + 1) i (by omega) p hi
    exact ⟨fun h => (key (trueP_sub h)).1 h, fun h => (key (hsub p h)).2 h⟩
end Go.Proofs.YtgaohmfmomeflaaGreatDoor
end

section
/- exact, the laws: alive; the true report by the judge. -/
namespace Go.Proofs.YtgaohmfmomeflaaGreatDoor
open Go.Ve

theorem alive36_ok : PCall P 34 [] (.bool true) := by
  have c0 := new_ok sA sA_sound
  have c1 := xleaf1
  have c2 := xleaf2
  have c3 := xleaf3
  have c4 := top_okP sA
  have d1 := dEq (put_ok sA [] (MI.nil sA_sound) pA (lfA_ok (by decide)) 5) (show _ = AV.int .i64 0 by kernel_rfl) (show _ = MH sA l1A by kernel_rfl)
  have d2 := dEq (put_ok sA l1A mi1 pB (lfA_ok (by decide)) 3) (show _ = AV.int .i64 0 by kernel_rfl) (show _ = MH sA l2A by kernel_rfl)
  have d3 := dEq (put_ok sA l2A mi2 pC (lfA_ok (by decide)) 1) (show _ = AV.int .i64 0 by kernel_rfl) (show _ = MH sA m3A by kernel_rfl)
  have e1 : linesOf sA m3A [pA, pB] = [⟨pA, 5, 5, 5⟩, ⟨pB, 3, 3, 3⟩] := by kernel_rfl
  have d4 := heavies_ok sA m3A mi3 1 3 (by decide) (by decide) (by decide)
  rw [m3_true, e1] at d4
  have hP : ∀ x ∈ [(⟨pA, 5, 5, 5⟩ : Ln), ⟨pB, 3, 3, 3⟩], POk x.p := fun x hx => by
    rcases List.mem_cons.1 hx with rfl | hx
    · exact lfA_ok (by decide)
    · rw [List.mem_singleton.1 hx]; exact lfA_ok (by decide)
  have d5 := judge_ok sA m3A mi3 10 1 3 (by decide) [⟨pA, 5, 5, 5⟩, ⟨pB, 3, 3, 3⟩] hP (by decide)
  obtain ⟨f1, f2, f3, f4⟩ := fine_all mi3 10 1 3
  rw [m3_true, e1] at f2 f4
  rw [m3_true] at f1
  rw [m3_true, e1] at f3
  have e2 : [(⟨pA, 5, 5, 5⟩ : Ln), ⟨pB, 3, 3, 3⟩].map Ln.p = [pA, pB] := rfl
  rw [e2, f1, f2, f3, f4] at d5
  have d6 := judge_ok sA m3A mi3 10 1 3 (by decide) [] (fun x hx => by cases hx) (by decide)
  have e3 : coversB sA m3A 1 3 [] = false := by
    have h1 : (decide (totM m3A = 0)) = false := by kernel_rfl
    have h2 : ((ovM sA m3A).any fun p => !decide (p ∈ ([] : List Px)) && heavyN 1 3 (restR sA m3A [] p) (totM m3A)) = true :=
      List.any_eq_true.2 ⟨pA, m3_in1, by
        have : heavyN 1 3 (restR sA m3A [] pA) (totM m3A) = true := by kernel_rfl
        rw [this]; rfl⟩
    unfold coversB
    rw [h1, h2]; rfl
  rw [List.map_nil, e3] at d6
  have d6' : DCall P 33 [.ptr 0 0, .int .i64 10, .int .i64 1, .int .i64 3, .nils] (MH sA m3A) (.tup [.agg [.bool false, .bool true, .bool true, .bool true], .int .i64 0]) (MH sA m3A) := ACall.nilA d6
  have d7 := heavies_nil 1 3
  have d8 := judge_bad sA m3A sA_sound 3 1 3 (by decide) .nils
  have d9 := dEq (rest_ok sA m3A mi3 [pA] (topP sA) (topP_ok sA) (fun q hq => by rw [List.mem_singleton.1 hq]; exact lfA_ok (by decide)) (by decide)) (show _ = AV.int .u64 4 by kernel_rfl) rfl
  refine PCall.of_awp tok mixed fn34 (Nat.le_of_ble_eq_true rfl) ?_
  (conv => whnf); (repeat' ((first | (with_reducible first | refine Box.mk ?_ | refine And.intro (fun _ => ?_) (fun _ => ?_) | refine (forceH_eq _ _).mpr ?_) | refine ACall.of_pure (by assumption) (by rfl) ?_ | ((with_reducible show Exists _); refine ⟨_, ACall.of_pure (by assumption) (by rfl) ⟨rfl, rfl⟩, ?_⟩) | ((with_reducible show _ ∧ _ ∧ _); refine ⟨by omega, by omega, ?_⟩) | fail) <;> conv => whnf))
  refine aW [] c0 rfl rfl rfl ?_
  (conv => whnf); (repeat' ((first | (with_reducible first | refine Box.mk ?_ | refine And.intro (fun _ => ?_) (fun _ => ?_) | refine (forceH_eq _ _).mpr ?_) | refine ACall.of_pure (by assumption) (by rfl) ?_ | ((with_reducible show Exists _); refine ⟨_, ACall.of_pure (by assumption) (by rfl) ⟨rfl, rfl⟩, ?_⟩) | ((with_reducible show _ ∧ _ ∧ _); refine ⟨by omega, by omega, ?_⟩) | fail) <;> conv => whnf))
  · contradiction
  refine aW [1, 2] d1 rfl rfl rfl ?_
  (conv => whnf); (repeat' ((first | (with_reducible first | refine Box.mk ?_ | refine And.intro (fun _ => ?_) (fun _ => ?_) | refine (forceH_eq _ _).mpr ?_) | refine ACall.of_pure (by assumption) (by rfl) ?_ | ((with_reducible show Exists _); refine ⟨_, ACall.of_pure (by assumption) (by rfl) ⟨rfl, rfl⟩, ?_⟩) | ((with_reducible show _ ∧ _ ∧ _); refine ⟨by omega, by omega, ?_⟩) | fail) <;> conv => whnf))
  rotate_left
  · rename_i h; exact absurd rfl h
  refine aW [1, 2] d2 rfl rfl rfl ?_
  (conv => whnf); (repeat' ((first | (with_reducible first | refine Box.mk ?_ | refine And.intro (fun _ => ?_) (fun _ => ?_) | refine (forceH_eq _ _).mpr ?_) | refine ACall.of_pure (by assumption) (by rfl) ?_ | ((with_reducible show Exists _); refine ⟨_, ACall.of_pure (by assumption) (by rfl) ⟨rfl, rfl⟩, ?_⟩) | ((with_reducible show _ ∧ _ ∧ _); refine ⟨by omega, by omega, ?_⟩) | fail) <;> conv => whnf))
  rotate_left
  · rename_i h; exact absurd rfl h
  refine aW [1, 2] d3 rfl rfl rfl ?_
  (conv => whnf); (repeat' ((first | (with_reducible first | refine Box.mk ?_ | refine And.intro (fun _ => ?_) (fun _ => ?_) | refine (forceH_eq _ _).mpr ?_) | refine ACall.of_pure (by assumption) (by rfl) ?_ | ((with_reducible show Exists _); refine ⟨_, ACall.of_pure (by assumption) (by rfl) ⟨rfl, rfl⟩, ?_⟩) | ((with_reducible show _ ∧ _ ∧ _); refine ⟨by omega, by omega, ?_⟩) | fail) <;> conv => whnf))
  rotate_left
  · rename_i h; exact absurd rfl h
  refine aW [1, 2] d4 rfl rfl rfl ?_
  (conv => whnf); (repeat' ((first | (with_reducible first | refine Box.mk ?_ | refine And.intro (fun _ => ?_) (fun _ => ?_) | refine (forceH_eq _ _).mpr ?_) | refine ACall.of_pure (by assumption) (by rfl) ?_ | ((with_reducible show Exists _); refine ⟨_, ACall.of_pure (by assumption) (by rfl) ⟨rfl, rfl⟩, ?_⟩) | ((with_reducible show _ ∧ _ ∧ _); refine ⟨by omega, by omega, ?_⟩) | fail) <;> conv => whnf))
  refine aW [1, 2] d5 rfl rfl rfl ?_
  (conv => whnf); (repeat' ((first | (with_reducible first | refine Box.mk ?_ | refine And.intro (fun _ => ?_) (fun _ => ?_) | refine (forceH_eq _ _).mpr ?_) | refine ACall.of_pure (by assumption) (by rfl) ?_ | ((with_reducible show Exists _); refine ⟨_, ACall.of_pure (by assumption) (by rfl) ⟨rfl, rfl⟩, ?_⟩) | ((with_reducible show _ ∧ _ ∧ _); refine ⟨by omega, by omega, ?_⟩) | fail) <;> conv => whnf))
  refine aW [1, 2] d6' rfl rfl rfl ?_
  (conv => whnf); (repeat' ((first | (with_reducible first | refine Box.mk ?_ | refine And.intro (fun _ => ?_) (fun _ => ?_) | refine (forceH_eq _ _).mpr ?_) | refine ACall.of_pure (by assumption) (by rfl) ?_ | ((with_reducible show Exists _); refine ⟨_, ACall.of_pure (by assumption) (by rfl) ⟨rfl, rfl⟩, ?_⟩) | ((with_reducible show _ ∧ _ ∧ _); refine ⟨by omega, by omega, ?_⟩) | fail) <;> conv => whnf))
  refine aW [1, 2] d8 rfl rfl rfl ?_
  (conv => whnf); (repeat' ((first | (with_reducible first | refine Box.mk ?_ | refine And.intro (fun _ => ?_) (fun _ => ?_) | refine (forceH_eq _ _).mpr ?_) | refine ACall.of_pure (by assumption) (by rfl) ?_ | ((with_reducible show Exists _); refine ⟨_, ACall.of_pure (by assumption) (by rfl) ⟨rfl, rfl⟩, ?_⟩) | ((with_reducible show _ ∧ _ ∧ _); refine ⟨by omega, by omega, ?_⟩) | fail) <;> conv => whnf))
  all_goals try (rename_i h; first | exact absurd h (by decide) | exact absurd rfl h)
  refine ⟨[(2023, [])], by kernel_rfl, ?_⟩
  (conv => whnf); (repeat' ((first | (with_reducible first | refine Box.mk ?_ | refine And.intro (fun _ => ?_) (fun _ => ?_) | refine (forceH_eq _ _).mpr ?_) | refine ACall.of_pure (by assumption) (by rfl) ?_ | ((with_reducible show Exists _); refine ⟨_, ACall.of_pure (by assumption) (by rfl) ⟨rfl, rfl⟩, ?_⟩) | ((with_reducible show _ ∧ _ ∧ _); refine ⟨by omega, by omega, ?_⟩) | fail) <;> conv => whnf))
  refine ⟨by decide, _, rfl, rfl, ?_⟩
  (conv => whnf); (repeat' ((first | (with_reducible first | refine Box.mk ?_ | refine And.intro (fun _ => ?_) (fun _ => ?_) | refine (forceH_eq _ _).mpr ?_) | refine ACall.of_pure (by assumption) (by rfl) ?_ | ((with_reducible show Exists _); refine ⟨_, ACall.of_pure (by assumption) (by rfl) ⟨rfl, rfl⟩, ?_⟩) | ((with_reducible show _ ∧ _ ∧ _); refine ⟨by omega, by omega, ?_⟩) | fail) <;> conv => whnf))
  rotate_left
  · rename_i h; exact absurd (⟨rfl, rfl, rfl, rfl⟩ : _ ∧ _ ∧ _ ∧ _) h
  · rename_i h; exact absurd (⟨rfl, rfl, rfl, rfl, rfl, rfl, rfl, rfl, rfl, rfl, rfl, rfl, rfl, rfl, rfl⟩ : _ ∧ _ ∧ _ ∧ _ ∧ _ ∧ _ ∧ _ ∧ _ ∧ _ ∧ _ ∧ _ ∧ _ ∧ _ ∧ _ ∧ _) h
  refine aDr [1, 2] d9 rfl rfl rfl rfl ?_
  (conv => whnf); (repeat' ((first | (with_reducible first | refine Box.mk ?_ | refine And.intro (fun _ => ?_) (fun _ => ?_) | refine (forceH_eq _ _).mpr ?_) | refine ACall.of_pure (by assumption) (by rfl) ?_ | ((with_reducible show Exists _); refine ⟨_, ACall.of_pure (by assumption) (by rfl) ⟨rfl, rfl⟩, ?_⟩) | ((with_reducible show _ ∧ _ ∧ _); refine ⟨by omega, by omega, ?_⟩) | fail) <;> conv => whnf))
  · rfl
  · rename_i h; exact absurd rfl h
end Go.Proofs.YtgaohmfmomeflaaGreatDoor
end

section
/- exact, the laws: one fixed set; the parts of the total. -/
namespace Go.Proofs.YtgaohmfmomeflaaGreatDoor
open Go.Ve

theorem phas_ok (l : List Px) (p : Px) (hl : l.length ≤ 1000000000000) : PCall P 37 [.sl (pcl l), pxv p] (.bool (decide (p ∈ l))) := by
  have hlc := pcl_len l
  refine PCall.of_awp tok mixed fn37 (Nat.le_of_ble_eq_true rfl) ?_
  (conv => whnf); (repeat' ((first | (with_reducible first | refine Box.mk ?_ | refine And.intro (fun _ => ?_) (fun _ => ?_) | refine (forceH_eq _ _).mpr ?_) | refine ACall.of_pure (by assumption) (by rfl) ?_ | ((with_reducible show Exists _); refine ⟨_, ACall.of_pure (by assumption) (by rfl) ⟨rfl, rfl⟩, ?_⟩) | ((with_reducible show ∃ L, drawR L _ = true ∧ _); refine ⟨[], by kernel_rfl, ?_⟩) | ((with_reducible show _ ∧ _ ∧ _); refine ⟨by omega, by omega, ?_⟩) | fail) <;> conv => whnf))
  refine aloopH (fun i : Nat => i ≤ l.length ∧ ∀ j x, j < i → l[j]? = some x → x ≠ p) (fun i : Nat => [(0, .sl (pcl l)), (3, .ptr 0 0), (5, .int .i64 i)]) (fun _ H => H) (fun i => l.length - i) 0 ⟨Nat.zero_le _, fun j c h => by omega⟩ (weak_to ⟨rfl, rfl, rfl, trivial⟩ rfl) ?_
  rintro i ⟨hi, hok⟩
  (conv => whnf); (repeat' ((first | (with_reducible first | refine Box.mk ?_ | refine And.intro (fun _ => ?_) (fun _ => ?_) | refine (forceH_eq _ _).mpr ?_) | refine ACall.of_pure (by assumption) (by rfl) ?_ | ((with_reducible show Exists _); refine ⟨_, ACall.of_pure (by assumption) (by rfl) ⟨rfl, rfl⟩, ?_⟩) | ((with_reducible show ∃ L, drawR L _ = true ∧ _); refine ⟨[], by kernel_rfl, ?_⟩) | ((with_reducible show _ ∧ _ ∧ _); refine ⟨by omega, by omega, ?_⟩) | fail) <;> conv => whnf))
  · rename_i hlt
    have hlt : i < l.length := by omega
    have hx := List.getElem?_eq_getElem hlt
    have hxm := List.mem_of_getElem? hx
    have hok2 : l[i] ≠ p → ∀ j x, j < i + 1 → l[j]? = some x → x ≠ p := fun hne j x hj hxj => by
      rcases Nat.lt_or_ge j i with h | h
      · exact hok j x h hxj
      · have : j = i := by omega
        subst this
        rw [hx] at hxj
        rw [← Option.some.inj hxj]; exact hne
    generalize l[i] = x at *
    refine ⟨by omega, pcs x, by rw [Int.toNat_natCast, pcl_get, hx]; rfl, rfl, ?_⟩
    (conv => whnf); (repeat' ((first | (with_reducible first | refine Box.mk ?_ | refine And.intro (fun _ => ?_) (fun _ => ?_) | refine (forceH_eq _ _).mpr ?_) | refine ACall.of_pure (by assumption) (by rfl) ?_ | ((with_reducible show Exists _); refine ⟨_, ACall.of_pure (by assumption) (by rfl) ⟨rfl, rfl⟩, ?_⟩) | ((with_reducible show ∃ L, drawR L _ = true ∧ _); refine ⟨[], by kernel_rfl, ?_⟩) | ((with_reducible show _ ∧ _ ∧ _); refine ⟨by omega, by omega, ?_⟩) | fail) <;> conv => whnf))
    · rename_i h
      exact bool_true (decide_eq_true (by rw [← px_eq.1 h]; exact hxm))
    · rename_i h
      exact ⟨i + 1, ⟨hlt, hok2 fun e => h (px_eq.2 e)⟩, by omega, weak_ren_to [(0, true)] rfl rfl rfl ⟨rfl, rfl, wrap_nat (m := 1) (by omega), trivial⟩⟩
  · refine bool_false (decide_eq_false fun hm => ?_)
    obtain ⟨j, hj⟩ := List.getElem?_of_mem hm
    exact hok j p (by have := (List.getElem?_eq_some_iff.1 hj).1; omega) hj rfl
end Go.Proofs.YtgaohmfmomeflaaGreatDoor
end

section
/- exact, the laws: in one dimension, what rests adds up to the total. -/
namespace Go.Proofs.YtgaohmfmomeflaaGreatDoor
open Go.Ve

theorem parts_no (s : Sp) (l : Ml) (a b : Int) (hs : soundS s = false) : PCall P 9 [spv s, .sl (lcl l), .int .i64 a, .int .i64 b] (.bool true) := by
  have c1 := fill_no s hs l
  have c2 := heavies_nil a b
  have c4 := alive36_ok
  refine PCall.of_awp tok mixed fn9 (Nat.le_of_ble_eq_true rfl) ?_
  (conv => whnf); (repeat' ((first | (with_reducible first | refine Box.mk ?_ | refine And.intro (fun _ => ?_) (fun _ => ?_) | refine (forceH_eq _ _).mpr ?_) | refine ACall.of_pure (by assumption) (by rfl) ?_ | ((with_reducible show Exists _); refine ⟨_, ACall.of_pure (by assumption) (by rfl) ⟨rfl, rfl⟩, ?_⟩) | ((with_reducible show ∃ L, drawR L _ = true ∧ _); refine ⟨[], by kernel_rfl, ?_⟩) | ((with_reducible show _ ∧ _ ∧ _); refine ⟨by omega, by omega, ?_⟩) | fail) <;> conv => whnf))
  all_goals first
    | rfl
    | (exfalso; omega)
    | contradiction
theorem map_take_le (f : Px → Nat) (R : List Px) (i : Nat) : ((R.take i).map f).sum ≤ (R.map f).sum := by
  have : (R.map f).sum = ((R.take i ++ R.drop i).map f).sum := by rw [List.take_append_drop]
  rw [this, List.map_append, List.sum_append]; omega
theorem ExactParts_ok (s : Sp) (l : Ml) (ho : ∀ x ∈ l, POk x.1) (a b : Int) : PCall P 9 [spv s, .sl (lcl l), .int .i64 a, .int .i64 b] (.bool true) := by
  cases hs : soundS s
  · exact parts_no s l a b hs
  have c1 := fill_ok s hs l ho
  have hI := fillT_ok hs ho
  have c4 := alive36_ok
  generalize putAll (fillT s l) = m at *
  by_cases hab : 1 ≤ a ∧ a ≤ b ∧ b ≤ 1048576
  · obtain ⟨a, rfl⟩ := Int.eq_ofNat_of_zero_le (show 0 ≤ a by omega)
    obtain ⟨b, rfl⟩ := Int.eq_ofNat_of_zero_le (show 0 ≤ b by omega)
    have c2 := heavies_ok s m hI a b (by omega) (by omega) (by omega)
    have hTl := trueP_len (a := a) (b := b) hI
    have c3 := prefixes_ok (linesOf s m (trueP s m a b)) (by rw [lines_len]; omega)
    rw [lines_p] at c3
    have c5 := top_okP s
    have c6 := phas_ok (trueP s m a b) (topP s) (by omega)
    have c7 := rest_ok s m hI (trueP s m a b) (topP s) (topP_ok s) (trueP_ok hI) (by omega)
    have c8 := total_ok s m
    have ht := hI.tot
    have hnd : (trueP s m a b).Nodup := (hvs_pw (ov_pw hI)).imp fun h => h.2
    have hpo := trueP_ok (a := a) (b := b) hI
    have hle := lines_len s m (trueP s m a b)
    have hrest : s.n = 1 → ((trueP s m a b).map fun p => restR s m (trueP s m a b) p).sum + (if topP s ∈ trueP s m a b then 0 else restR s m (trueP s m a b) (topP s)) = totM m := fun hn => by
      have hr : ∀ p ∈ keysM m, rightP s p = true := fun p hp => by
        have := hI.leaf p hp
        unfold leafR at this
        rw [Bool.and_eq_true] at this; exact this.1
      by_cases hm : topP s ∈ trueP s m a b
      · rw [if_pos hm, Nat.add_zero]
        exact parts_total hn hI.ok hr hpo hnd fun q => ⟨.inl, fun h => h.elim id fun e => e ▸ hm⟩
      · rw [if_neg hm]
        have := parts_total (R := trueP s m a b) (T := trueP s m a b ++ [topP s]) hn hI.ok hr (fun q hq => by
          rcases List.mem_append.1 hq with hq | hq
          · exact hpo q hq
          · rw [List.mem_singleton.1 hq]; exact topP_ok s) (by
          rw [List.nodup_append]
          exact ⟨hnd, by simp, fun x hx y hy e => hm (by rw [← List.mem_singleton.1 hy, ← e]; exact hx)⟩) (fun q => by rw [List.mem_append, List.mem_singleton])
        rw [List.map_append, List.sum_append] at this
        simpa using this
    have hest : ∀ i p, (trueP s m a b)[i]? = some p → (lnl (linesOf s m (trueP s m a b)))[i]? = some (lns (lineOf s m (trueP s m a b) p)) := fun i p hi => by
      rw [lnl_get]; unfold linesOf; rw [List.getElem?_map, hi]; rfl
    generalize trueP s m a b = T at *
    have hlc := lnl_len (linesOf s m T)
    by_cases hn : s.n = 1
    · have hrest := hrest hn
      have hsum : ∀ i, ((T.take i).map fun p => restR s m T p).sum ≤ totM m := fun i => by
        have := map_take_le (fun p => restR s m T p) T i
        omega
      refine PCall.of_awp tok mixed fn9 (Nat.le_of_ble_eq_true rfl) ?_
      (conv => whnf); (repeat' ((first | (with_reducible first | refine Box.mk ?_ | refine And.intro (fun _ => ?_) (fun _ => ?_) | refine (forceH_eq _ _).mpr ?_) | refine ACall.of_pure (by assumption) (by rfl) ?_ | ((with_reducible show Exists _); refine ⟨_, ACall.of_pure (by assumption) (by rfl) ⟨rfl, rfl⟩, ?_⟩) | ((with_reducible show _ ∧ _ ∧ _); refine ⟨by omega, by omega, ?_⟩) | fail) <;> conv => whnf))
      refine aW [] c1 rfl rfl rfl ?_
      (conv => whnf); (repeat' ((first | (with_reducible first | refine Box.mk ?_ | refine And.intro (fun _ => ?_) (fun _ => ?_) | refine (forceH_eq _ _).mpr ?_) | refine ACall.of_pure (by assumption) (by rfl) ?_ | ((with_reducible show Exists _); refine ⟨_, ACall.of_pure (by assumption) (by rfl) ⟨rfl, rfl⟩, ?_⟩) | ((with_reducible show _ ∧ _ ∧ _); refine ⟨by omega, by omega, ?_⟩) | fail) <;> conv => whnf))
      refine aW [1, 2] c2 rfl rfl rfl ?_
      (conv => whnf); (repeat' ((first | (with_reducible first | refine Box.mk ?_ | refine And.intro (fun _ => ?_) (fun _ => ?_) | refine (forceH_eq _ _).mpr ?_) | refine ACall.of_pure (by assumption) (by rfl) ?_ | ((with_reducible show Exists _); refine ⟨_, ACall.of_pure (by assumption) (by rfl) ⟨rfl, rfl⟩, ?_⟩) | ((with_reducible show _ ∧ _ ∧ _); refine ⟨by omega, by omega, ?_⟩) | fail) <;> conv => whnf))
      all_goals try (exfalso; omega)
      all_goals try contradiction
      refine aloopH (fun i : Nat => i ≤ T.length) (fun i => [(4, .ptr 0 0), (9, .ptr 1 0), (11, .sl (lnl (linesOf s m T))), (13, .int .u64 (((T.take i).map fun p => restR s m T p).sum : Int)), (14, .int .i64 (i : Int))]) (fun _ H => H) (fun i => T.length - i) 0 (Nat.zero_le _)
        (weak_to ⟨rfl, rfl, rfl, rfl, rfl, trivial⟩ rfl) ?_
      intro i hi
      by_cases hlt : i < T.length
      · have hx := List.getElem?_eq_getElem hlt
        have hst : ((T.take (i + 1)).map fun p => restR s m T p).sum = ((T.take i).map fun p => restR s m T p).sum + restR s m T T[i] := by
          rw [List.take_add_one, hx, List.map_append, List.sum_append]; simp
        have hs1 := hsum (i + 1)
        have hgi := hest i _ hx
        generalize T[i] = x at *
        (conv => whnf); (repeat' ((first | (with_reducible first | refine Box.mk ?_ | refine And.intro (fun _ => ?_) (fun _ => ?_) | refine (forceH_eq _ _).mpr ?_) | refine ACall.of_pure (by assumption) (by rfl) ?_ | ((with_reducible show Exists _); refine ⟨_, ACall.of_pure (by assumption) (by rfl) ⟨rfl, rfl⟩, ?_⟩) | ((with_reducible show _ ∧ _ ∧ _); refine ⟨by omega, by omega, ?_⟩) | fail) <;> conv => whnf))
        rotate_left
        · exfalso; rename_i h; have h : ¬ (i : Int) < ((lnl (linesOf s m T)).length : Int) := h; omega
        refine ⟨by omega, lns (lineOf s m T x), by rw [Int.toNat_natCast]; exact hgi, rfl, ?_⟩
        (conv => whnf); (repeat' ((first | (with_reducible first | refine Box.mk ?_ | refine And.intro (fun _ => ?_) (fun _ => ?_) | refine (forceH_eq _ _).mpr ?_) | refine ACall.of_pure (by assumption) (by rfl) ?_ | ((with_reducible show Exists _); refine ⟨_, ACall.of_pure (by assumption) (by rfl) ⟨rfl, rfl⟩, ?_⟩) | ((with_reducible show _ ∧ _ ∧ _); refine ⟨by omega, by omega, ?_⟩) | fail) <;> conv => whnf))
        refine ⟨i + 1, hlt, by omega, weak_to ⟨rfl, rfl, rfl, congrArg (AV.int .u64) ?_, wrap_nat (m := 1) (by omega), trivial⟩ rfl⟩
        show IntKind.u64.wrap ((((T.take i).map fun p => restR s m T p).sum : Int) + (restR s m T x : Int)) = _
        rw [hst] at hs1 ⊢
        rw [wrap_u64 (by omega) (by omega)]; omega
      · have : i = T.length := by omega
        subst this
        rw [List.take_length]
        by_cases hm : topP s ∈ T
        · rw [decide_eq_true hm] at c6
          rw [if_pos hm, Nat.add_zero] at hrest
          (conv => whnf); (repeat' ((first | (with_reducible first | refine Box.mk ?_ | refine And.intro (fun _ => ?_) (fun _ => ?_) | refine (forceH_eq _ _).mpr ?_) | refine ACall.of_pure (by assumption) (by rfl) ?_ | ((with_reducible show Exists _); refine ⟨_, ACall.of_pure (by assumption) (by rfl) ⟨rfl, rfl⟩, ?_⟩) | ((with_reducible show _ ∧ _ ∧ _); refine ⟨by omega, by omega, ?_⟩) | fail) <;> conv => whnf))
          · exfalso; rename_i h; have h : (T.length : Int) < ((lnl (linesOf s m T)).length : Int) := h; omega
          refine ⟨[], by kernel_rfl, ?_⟩
          (conv => whnf); (repeat' ((first | (with_reducible first | refine Box.mk ?_ | refine And.intro (fun _ => ?_) (fun _ => ?_) | refine (forceH_eq _ _).mpr ?_) | refine ACall.of_pure (by assumption) (by rfl) ?_ | ((with_reducible show Exists _); refine ⟨_, ACall.of_pure (by assumption) (by rfl) ⟨rfl, rfl⟩, ?_⟩) | ((with_reducible show _ ∧ _ ∧ _); refine ⟨by omega, by omega, ?_⟩) | fail) <;> conv => whnf))
          refine aW [1, 2] c8 rfl rfl rfl ?_
          (conv => whnf); (repeat' ((first | (with_reducible first | refine Box.mk ?_ | refine And.intro (fun _ => ?_) (fun _ => ?_) | refine (forceH_eq _ _).mpr ?_) | refine ACall.of_pure (by assumption) (by rfl) ?_ | ((with_reducible show Exists _); refine ⟨_, ACall.of_pure (by assumption) (by rfl) ⟨rfl, rfl⟩, ?_⟩) | ((with_reducible show _ ∧ _ ∧ _); refine ⟨by omega, by omega, ?_⟩) | fail) <;> conv => whnf))
          · rfl
          · rename_i h; exact absurd (congrArg (fun n : Nat => (n : Int)) hrest) h
        · rw [decide_eq_false hm] at c6
          rw [if_neg hm] at hrest
          (conv => whnf); (repeat' ((first | (with_reducible first | refine Box.mk ?_ | refine And.intro (fun _ => ?_) (fun _ => ?_) | refine (forceH_eq _ _).mpr ?_) | refine ACall.of_pure (by assumption) (by rfl) ?_ | ((with_reducible show Exists _); refine ⟨_, ACall.of_pure (by assumption) (by rfl) ⟨rfl, rfl⟩, ?_⟩) | ((with_reducible show _ ∧ _ ∧ _); refine ⟨by omega, by omega, ?_⟩) | fail) <;> conv => whnf))
          · exfalso; rename_i h; have h : (T.length : Int) < ((lnl (linesOf s m T)).length : Int) := h; omega
          refine ⟨[], by kernel_rfl, ?_⟩
          (conv => whnf); (repeat' ((first | (with_reducible first | refine Box.mk ?_ | refine And.intro (fun _ => ?_) (fun _ => ?_) | refine (forceH_eq _ _).mpr ?_) | refine ACall.of_pure (by assumption) (by rfl) ?_ | ((with_reducible show Exists _); refine ⟨_, ACall.of_pure (by assumption) (by rfl) ⟨rfl, rfl⟩, ?_⟩) | ((with_reducible show _ ∧ _ ∧ _); refine ⟨by omega, by omega, ?_⟩) | fail) <;> conv => whnf))
          refine ⟨[], by kernel_rfl, ?_⟩
          (conv => whnf); (repeat' ((first | (with_reducible first | refine Box.mk ?_ | refine And.intro (fun _ => ?_) (fun _ => ?_) | refine (forceH_eq _ _).mpr ?_) | refine ACall.of_pure (by assumption) (by rfl) ?_ | ((with_reducible show Exists _); refine ⟨_, ACall.of_pure (by assumption) (by rfl) ⟨rfl, rfl⟩, ?_⟩) | ((with_reducible show _ ∧ _ ∧ _); refine ⟨by omega, by omega, ?_⟩) | fail) <;> conv => whnf))
          refine aDr [1, 2] c7 rfl rfl rfl rfl ?_
          (conv => whnf); (repeat' ((first | (with_reducible first | refine Box.mk ?_ | refine And.intro (fun _ => ?_) (fun _ => ?_) | refine (forceH_eq _ _).mpr ?_) | refine ACall.of_pure (by assumption) (by rfl) ?_ | ((with_reducible show Exists _); refine ⟨_, ACall.of_pure (by assumption) (by rfl) ⟨rfl, rfl⟩, ?_⟩) | ((with_reducible show _ ∧ _ ∧ _); refine ⟨by omega, by omega, ?_⟩) | fail) <;> conv => whnf))
          refine aW [1, 2] c8 rfl rfl rfl ?_
          (conv => whnf); (repeat' ((first | (with_reducible first | refine Box.mk ?_ | refine And.intro (fun _ => ?_) (fun _ => ?_) | refine (forceH_eq _ _).mpr ?_) | refine ACall.of_pure (by assumption) (by rfl) ?_ | ((with_reducible show Exists _); refine ⟨_, ACall.of_pure (by assumption) (by rfl) ⟨rfl, rfl⟩, ?_⟩) | ((with_reducible show _ ∧ _ ∧ _); refine ⟨by omega, by omega, ?_⟩) | fail) <;> conv => whnf))
          · rfl
          · rename_i h
            refine absurd ?_ h
            show IntKind.u64.wrap (((T.map fun p => restR s m T p).sum : Int) + (restR s m T (topP s) : Int)) = (totM m : Int)
            rw [wrap_u64 (by omega) (by omega)]; omega
    · refine PCall.of_awp tok mixed fn9 (Nat.le_of_ble_eq_true rfl) ?_
      (conv => whnf); (repeat' ((first | (with_reducible first | refine Box.mk ?_ | refine And.intro (fun _ => ?_) (fun _ => ?_) | refine (forceH_eq _ _).mpr ?_) | refine ACall.of_pure (by assumption) (by rfl) ?_ | ((with_reducible show Exists _); refine ⟨_, ACall.of_pure (by assumption) (by rfl) ⟨rfl, rfl⟩, ?_⟩) | ((with_reducible show _ ∧ _ ∧ _); refine ⟨by omega, by omega, ?_⟩) | fail) <;> conv => whnf))
      refine aW [] c1 rfl rfl rfl ?_
      (conv => whnf); (repeat' ((first | (with_reducible first | refine Box.mk ?_ | refine And.intro (fun _ => ?_) (fun _ => ?_) | refine (forceH_eq _ _).mpr ?_) | refine ACall.of_pure (by assumption) (by rfl) ?_ | ((with_reducible show Exists _); refine ⟨_, ACall.of_pure (by assumption) (by rfl) ⟨rfl, rfl⟩, ?_⟩) | ((with_reducible show _ ∧ _ ∧ _); refine ⟨by omega, by omega, ?_⟩) | fail) <;> conv => whnf))
      refine aW [1, 2] c2 rfl rfl rfl ?_
      (conv => whnf); (repeat' ((first | (with_reducible first | refine Box.mk ?_ | refine And.intro (fun _ => ?_) (fun _ => ?_) | refine (forceH_eq _ _).mpr ?_) | refine ACall.of_pure (by assumption) (by rfl) ?_ | ((with_reducible show Exists _); refine ⟨_, ACall.of_pure (by assumption) (by rfl) ⟨rfl, rfl⟩, ?_⟩) | ((with_reducible show _ ∧ _ ∧ _); refine ⟨by omega, by omega, ?_⟩) | fail) <;> conv => whnf))
      all_goals first
        | contradiction
        | (exfalso; omega)
        | rfl
  · have c2 := heavies_bad s m hI.sound a b hab
    refine PCall.of_awp tok mixed fn9 (Nat.le_of_ble_eq_true rfl) ?_
    (conv => whnf); (repeat' ((first | (with_reducible first | refine Box.mk ?_ | refine And.intro (fun _ => ?_) (fun _ => ?_) | refine (forceH_eq _ _).mpr ?_) | refine ACall.of_pure (by assumption) (by rfl) ?_ | ((with_reducible show Exists _); refine ⟨_, ACall.of_pure (by assumption) (by rfl) ⟨rfl, rfl⟩, ?_⟩) | ((with_reducible show _ ∧ _ ∧ _); refine ⟨by omega, by omega, ?_⟩) | fail) <;> conv => whnf))
    refine aW [] c1 rfl rfl rfl ?_
    (conv => whnf); (repeat' ((first | (with_reducible first | refine Box.mk ?_ | refine And.intro (fun _ => ?_) (fun _ => ?_) | refine (forceH_eq _ _).mpr ?_) | refine ACall.of_pure (by assumption) (by rfl) ?_ | ((with_reducible show Exists _); refine ⟨_, ACall.of_pure (by assumption) (by rfl) ⟨rfl, rfl⟩, ?_⟩) | ((with_reducible show _ ∧ _ ∧ _); refine ⟨by omega, by omega, ?_⟩) | fail) <;> conv => whnf))
    refine aW [1, 2] c2 rfl rfl rfl ?_
    (conv => whnf); (repeat' ((first | (with_reducible first | refine Box.mk ?_ | refine And.intro (fun _ => ?_) (fun _ => ?_) | refine (forceH_eq _ _).mpr ?_) | refine ACall.of_pure (by assumption) (by rfl) ?_ | ((with_reducible show Exists _); refine ⟨_, ACall.of_pure (by assumption) (by rfl) ⟨rfl, rfl⟩, ?_⟩) | ((with_reducible show _ ∧ _ ∧ _); refine ⟨by omega, by omega, ?_⟩) | fail) <;> conv => whnf))
    all_goals first
      | rfl
      | (exfalso; omega)
      | contradiction
end Go.Proofs.YtgaohmfmomeflaaGreatDoor
end

section
/- exact: the statements, of any arguments. -/
namespace Go.Proofs.YtgaohmfmomeflaaGreatDoor
open Go.Ve

theorem ExactParts_args (xs : List AV) (h : WfA ty 1048576 [26, 40, 3, 3] xs) : PCall P 9 xs (.bool true) := by
  obtain ⟨y1, r1, rfl, g1, h1⟩ := h.cons_inv
  obtain ⟨y2, r2, rfl, g2, h2⟩ := h1.cons_inv
  obtain ⟨y3, r3, rfl, g3, h3⟩ := h2.cons_inv
  obtain ⟨y4, r4, rfl, g4, h4⟩ := h3.cons_inv
  obtain rfl := h4.nil_inv
  obtain ⟨s, rfl⟩ := space_inv g1
  obtain ⟨l, el, ho, _⟩ := lds_inv g2
  obtain ⟨a, rfl, _⟩ := g3.int_inv rfl
  obtain ⟨b, rfl, _⟩ := g4.int_inv rfl
  refine PCall.nils ?_
  show PCall P _ [spv s, mpA nlN y2, .int .i64 a, .int .i64 b] _
  rw [el]
  exact ExactParts_ok s l ho a b
end Go.Proofs.YtgaohmfmomeflaaGreatDoor
end
